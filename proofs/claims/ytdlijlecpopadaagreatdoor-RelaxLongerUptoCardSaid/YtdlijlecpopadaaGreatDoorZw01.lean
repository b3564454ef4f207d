/- Texts joined by a program: AwCore. -/
import Derived.StillTail
import Derived.WalkKit
import Derived.Deep.Quiet
import Derived.Deep.QuietTactic
import Derived.Maps.AppendAt
import Derived.Laws.BytesArg
set_option linter.unusedSimpArgs false
set_option linter.unusedVariables false
set_option maxRecDepth 100000
namespace Go.Aw
open Go.RowKit
inductive AV where
 | v (x:Value)
 | any
 | sl (es:List (List AV))
 | rp (cs:List AV) (off:Nat)
 | agg (cs:List AV)
 | tup (vs:List AV)
 | os (k:Nat)
 | op (k i f:Nat)
 | gd (g:Bool) (x:AV)
 | fn (f:FuncId) (cap:List AV)
 | oz (k a b:Nat)
 | nf (x:AV)
 | om (k:Nat)
 | cl (es:List (List AV))
 deriving Inhabited
structure Row where
 e:TypeId
 sz:Nat
 es:List (List AV)
abbrev Env:=Nat→AV
abbrev aF:=Nat→Option Row
inductive Ex where
 | normal
 | exit (id:Nat)
 | ret
def upd(ρ:Env)(d:Option Nat)(x:AV):Env:=
 match d with
 | some d=>fun t=>if t=d then x else ρ t
 | none=>ρ
def aJ(H:aF)(k:Nat)(r:Option Row):aF:=fun j=>if j=k then r else H j
theorem W8(ρ:Env)(d:Nat)(x:AV)(t:Nat):upd ρ (some d) x t=if t=d then x else ρ t:=rfl
theorem Qp(ρ:Env)(x:AV):upd ρ none x=ρ:=rfl
theorem aB(H:aF)(k:Nat)(r:Option Row):aJ H k r k=r:=by simp[aJ]
theorem aD(H:aF)(k:Nat)(r:Option Row)(j:Nat)(h:j≠k):aJ H k r j=H j:=by simp[aJ,h]
def ldT(P:Program)(t:TypeId):Option (Option Nat):=
 match P.underlying t,P.info? t with
 | some (.struct _),some i=>some (some i.size)
 | some (.array _ _),some i=>some (some i.size)
 | some _,some _=>some none
 | _,_=>none
def aK(P:Program)(t:TypeId)(f:Nat):Option (Nat×Option Nat):=
 match P.underlying t with
 | some (.struct fs)=>match fs[f]? with
   | some fd=>match P.info? fd.type with
     | some i=>if i.size=0 then none else(ldT P fd.type).map fun l=>(fd.offset,l)
     | none=>none
   | none=>none
 | _=>none
def bX(P:Program)(t:TypeId):Option (TypeId×Nat×Nat):=
 match P.underlying t with
 | some (.slice e)=>match P.info? e with
   | some i=>if i.size=0∨i.bytes=0∨i.zero.map (·.cells.size)≠some i.size then none else some (e,i.size,i.bytes)
   | none=>none
 | _=>none
def qQ(P:Program)(t:TypeId):Option (Nat×Nat×Option Nat):=
 match P.underlying t with
 | some (.array n e)=>match P.info? e with
   | some i=>if i.size=0 then none else(ldT P e).map fun l=>(n,i.size,l)
   | none=>none
 | _=>none
def oB:Value→AV
 | .slice none 0 0=>.sl []
 | x=>.v x
def eI(P:Program)(t:TypeId):Option (List AV):=
 match P.info? t with
 | some i=>match i.zero with
   | some z=>if z.cells.size=i.size∧i.size≠0∧z.cells.toList.all (·.oneCell')=true then some (z.cells.toList.map oB)else none
   | none=>none
 | none=>none
def Fx(P:Program):Nat→TypeId→Nat→List (Nat×TypeId×Nat)
 | 0,_,_=>[]
 | n+1,t,o=>match P.underlying t with
   | some (.slice _)=>match bX P t with
     | some (e,sz,_)=>[(o,e,sz)]
     | none=>[]
   | some (.struct fs)=>fs.toList.flatMap fun f=>Fx P n f.type (o+f.offset)
   | some (.array m e)=>(List.range m).flatMap fun j=>Fx P n e (o+j*((P.info? e).map (·.size)).getD 0)
   | _=>[]
def PE:Option Value→Bool
 | some (.slice none 0 0)=>true
 | _=>false
def oN(P:Program)(t:TypeId):Option (List (Nat×TypeId×Nat)):=
 match P.info? t with
 | some i=>match i.zero with
   | some z=>if(Fx P 8 t 0).all (fun x=>PE z.cells.toList[x.1]?&&decide (0<x.2.2))=true then some (Fx P 8 t 0)else none
   | none=>none
 | none=>none
def fI(P:Program)(t:TypeId):Option (List (Nat×Nat)):=
 match P.underlying t with
 | some (.struct fs)=>fs.toList.mapM fun f=>(P.info? f.type).map fun i=>(f.offset,i.size)
 | some (.array n e)=>(P.info? e).map fun i=>(List.range n).map fun j=>(j*i.size,i.size)
 | _=>none
def dH(P:Program)(t:TypeId):Bool:=match P.underlying t with|some .string=>true|_=>false
def cF(P:Program)(t:TypeId):Bool:=match P.underlying t with|some (.slice _)=>true|_=>false
def vK(P:Program)(t:TypeId):Bool:=match P.underlying t with|some .bool=>true|_=>false
def aev(ρ:Env):Operand→AV
 | .tmp t=>ρ t
 | .const v=>oB v
 | .global _=>.any
 | .func f=>.v (.func (.func f) #[] #[])
def gt:Option Bool→Prop
 | none=>True
 | some b=>b=true
def gok:Option Bool→Bool→Prop
 | none,g=>g=true
 | some b,g=>b=true→g=true
def wr:Option Bool→AV→AV
 | none,x=>x
 | some b,x=>.gd b x
def bH(G:Option Bool)(x:AV)(k:AV→Prop):Prop:=
 match x with
 | .gd g y=>gok G g∧k y
 | x=>k x
def kX(x:AV)(K:List AV→Prop):Prop:=
 match x with
 | .agg cs=>K cs
 | .v y=>y.oneCell'=true∧K [.v y]
 | .sl es=>K [.sl es]
 | .rp cs o=>K [.rp cs o]
 | .os k=>K [.os k]
 | .op k i f=>K [.op k i f]
 | _=>False
def qD(P:Program)(t:TypeId):Option Nat:=match P.underlying t with|some (.int _)=>some 0|some .string=>some 1|some .bool=>some 2|_=>none
def uM(c:Nat)(x y:AV):Option Bool:=
 match c,x,y with
 | 0,.v (.int k a),.v (.int k' b)=>if k=k' then some (a == b)else none
 | 1,.v (.string a),.v (.string b)=>some (a.toList == b.toList)
 | 2,.v (.bool a),.v (.bool b)=>some (a == b)
 | _,_,_=>none
def IZ:Option Bool→Option Bool→Option Bool
 | some a,some b=>some (a&&b)
 | _,_=>none
def gD:List Nat→List AV→List AV→Option Bool
 | [],[],[]=>some true
 | c::l,x::r,y::s=>IZ (uM c x y) (gD l r s)
 | _,_,_=>none
def nH(P:Program):Nat→List Field→Option (List Nat)
 | _,[]=>some []
 | o,f::r=>if f.name != "_" && f.offset == o&&(P.info? f.type).isSome then match qD P f.type,nH P (o+1) r with
   | some c,some l=>some (c::l)
   | _,_=>none
   else none
def wP(P:Program)(t:TypeId):Option (List Nat):=
 match P.underlying t with
 | some (.struct fs)=>if P.stoodInHeld t=false∧P.eqGuardType P.depth t=false then nH P 0 fs.toList else none
 | some (.array n e)=>if(P.info? e).map (·.size)=some 1∧P.eqGuardType P.depth t=false then(qD P e).map (List.replicate n)else none
 | _=>none
def tI:BinOp→Bool
 | .shl=>true
 | .shr=>true
 | _=>false
def shV(op:BinOp)(k:IntKind)(a b:Int):Int:=match op with
 | .shl=>k.wrap (a*2^min b.toNat k.bits)
 | _=>a.fdiv (2^min b.toNat k.bits)
def mP(op:BinOp)(k:IntKind)(a b:Int):Int:=match op with
 | .and=>k.wrap ((BitVec.ofInt k.bits a &&& BitVec.ofInt k.bits b).toNat:Nat)
 | .or=>k.wrap ((BitVec.ofInt k.bits a ||| BitVec.ofInt k.bits b).toNat:Nat)
 | .xor=>k.wrap ((BitVec.ofInt k.bits a ^^^ BitVec.ofInt k.bits b).toNat:Nat)
 | _=>k.wrap ((BitVec.ofInt k.bits a &&& ~~~(BitVec.ofInt k.bits b)).toNat:Nat)
def fM(P:Program)(G:Option Bool)(op:BinOp)(t:TypeId)(x y:AV)(K:AV→Prop):Prop:=
 match x,y with
 | .v (.int k a),.v (.int k' b)=>
   if tI op=true then(gt G→0≤b)∧K (.v (.int k (shV op k a b)))
   else if k=k' then
     match op with
     | .and=>K (.v (.int k (mP .and k a b)))
     | .or=>K (.v (.int k (mP .or k a b)))
     | .xor=>K (.v (.int k (mP .xor k a b)))
     | .andNot=>K (.v (.int k (mP .andNot k a b)))
     | .add=>K (.v (.int k (k.wrap (a+b))))
     | .sub=>K (.v (.int k (k.wrap (a-b))))
     | .mul=>K (.v (.int k (k.wrap (a*b))))
     | .quo=>(gt G→b≠0)∧K (.v (.int k (k.wrap (a.tdiv b))))
     | .rem=>(gt G→b≠0)∧K (.v (.int k (a.tmod b)))
     | .eql=>K (.v (.bool (a == b)))
     | .neq=>K (.v (.bool (a != b)))
     | .lss=>K (.v (.bool (decide (a<b))))
     | .leq=>K (.v (.bool (decide (a≤b))))
     | .gtr=>K (.v (.bool (decide (a>b))))
     | .geq=>K (.v (.bool (decide (a≥b))))
     | _=>False
   else False
 | .v (.string a),.v (.string b)=>
   match op with
   | .add=>(gt G→((a.size+b.size:Nat):Int)≤IntKind.i64.max)∧K (.v (.string (a++b)))
   | .eql=>K (.v (.bool (a.toList == b.toList)))
   | .neq=>K (.v (.bool !(a.toList == b.toList)))
   | .lss=>K (.v (.bool (Op.bytesLess a.toList b.toList)))
   | _=>False
 | .v (.bool a),.v (.bool b)=>
   if vK P t then
     match op with
     | .eql=>K (.v (.bool (a == b)))
     | .neq=>K (.v (.bool !(a == b)))
     | _=>False
   else False
 | .agg xs,.agg ys=>match wP P t with
   | some l=>match gD l xs ys with
     | some b=>match op with
       | .eql=>K (.v (.bool b))
       | .neq=>K (.v (.bool !b))
       | _=>False
     | none=>False
   | none=>False
 | _,_=>(gt G→False)∧K .any
def UE(P:Program)(t:TypeId):Option (TypeId×TypeId):=match P.underlying t with|some (.map k e)=>some (k,e)|_=>none
def Nf(P:Program)(t:TypeId):Option AV:=
 match P.info? t with
 | some i=>match i.zero with
   | some (.agg cs)=>if cs.toList.all (·.oneCell')=true then some (.agg (cs.toList.map oB))else none
   | some v=>if v.oneCell'=true then some (oB v)else none
   | none=>none
 | none=>none
def HH(P:Program)(kt:TypeId)(x y:AV):Option Bool:=
 match x,y with
 | .v a,.v b=>match qD P kt with
   | some c=>uM c (.v a) (.v b)
   | none=>none
 | _,_=>none
def zB(P:Program)(kt:TypeId):AV→Bool
 | .v (.int _ _)=>qD P kt == some 0
 | .v (.string _)=>qD P kt == some 1
 | .v (.bool _)=>qD P kt == some 2
 | _=>false
def DQ(eq:AV→Option Bool):List (List AV)→Nat→Option (Option Nat)
 | [],_=>some none
 | e::r,i=>match eq (e.getD 0 .any)with
   | some true=>some (some i)
   | some false=>DQ eq r (i+1)
   | none=>none
def Oq(ok:Bool)(z:AV)(es:List (List AV))(oi:Option Nat):AV:=
 match oi with
 | some i=>if ok=true then .tup [(es.getD i []).getD 1 .any,.v (.bool true)]else(es.getD i []).getD 1 .any
 | none=>if ok=true then .tup [z,.v (.bool false)]else z
def mput(es:List (List AV))(oi:Option Nat)(k v:AV):List (List AV):=
 match oi with
 | some i=>es.set i [k,v]
 | none=>es++[[k,v]]
def EG(P:Program)(H:aF)(t:TypeId)(x key:AV)(K:Nat→Row→TypeId×TypeId→Option Nat→Prop):Prop:=
 match x with
 | .om j=>match H j,UE P t with
   | some r,some kt=>match DQ (HH P kt.1 key) r.es 0 with
     | some oi=>zB P kt.1 key=true∧K j r kt oi
     | none=>False
   | _,_=>False
 | _=>False
def vS(P:Program)(H:aF)(t:TypeId)(x key:AV)(ok:Bool)(K:AV→Prop):Prop:=
 EG P H t x key fun _ r kt oi=>match Nf P kt.2 with
   | some z=>K (Oq ok z r.es oi)
   | none=>False
def rF(c:Bool):AV→AV→AV
 | .v (.bool true),.v (.bool b)=>.v (.bool (c||b))
 | .v (.bool a),.v (.bool false)=>.v (.bool (c&&a))
 | .v (.bool a),.v (.bool b)=>.v (.bool (bif c then a else b))
 | x,y=>bif c then x else y
def wG(G:Option Bool)(c:Bool)(x y:AV)(K:AV→Prop):Prop:=
 match x,y with
 | .gd g x,.gd g' y=>(gt G→c=true→g=true)∧(gt G→c=false→g'=true)∧K (rF c x y)
 | .gd g x,y=>(gt G→c=true→g=true)∧K (rF c x y)
 | x,.gd g' y=>(gt G→c=false→g'=true)∧K (rF c x y)
 | x,y=>K (rF c x y)
def mM(G:Option Bool)(H:aF)(l:Option Nat)(x:AV)(K:AV→Prop):Prop:=
 match x with
 | .rp cs off=>match l with
   | none=>(gt G→off<cs.length)∧K (cs.getD off .any)
   | some n=>(gt G→off+n≤cs.length)∧K (.agg ((cs.drop off).take n))
 | .op k i f=>match H k with
   | some r=>match l with
     | none=>(gt G→i<r.es.length∧f<r.sz)∧K ((r.es.getD i []).getD f .any)
     | some n=>(gt G→i<r.es.length∧f+n≤r.sz)∧K (.agg (((r.es.getD i []).drop f).take n))
   | none=>False
 | _=>False
def apart(G:Option Bool)(off:Nat)(l:Option Nat)(x:AV)(K:AV→Prop):Prop:=
 match x with
 | .agg cs=>match l with
   | none=>(gt G→off<cs.length)∧K (cs.getD off .any)
   | some n=>(gt G→off+n≤cs.length)∧K (.agg ((cs.drop off).take n))
 | _=>False
def Dt(P:Program)(H:aF)(t:TypeId)(x:AV)(K:AV→Prop):Prop:=
 match x with
 | .sl es=>if cF P t then K (.v (.int .i64 es.length))else False
 | .os k=>match H k with
   | some r=>if cF P t then K (.v (.int .i64 r.es.length))else False
   | none=>False
 | .v (.string s)=>if dH P t then K (.v (.int .i64 s.size))else False
 | _=>False
def kE(a b:Int):Int:=if b>a then b else a
def tV(a b:Int):Int:=if b<a then b else a
def Lp(x y:AV)(K:AV→Prop):Prop:=
 match x,y with
 | .v (.int k a),.v (.int _ b)=>K (.v (.int k (kE a b)))
 | _,_=>False
def KN(x y:AV)(K:AV→Prop):Prop:=
 match x,y with
 | .v (.int k a),.v (.int _ b)=>K (.v (.int k (tV a b)))
 | _,_=>False
def eY(P:Program)(G:Option Bool)(H:aF)(t:TypeId)(x i:AV)(K:AV→Prop):Prop:=
 match x,i with
 | .sl es,.v (.int _ n)=>match bX P t with
   | some (_,sz,_)=>(gt G→(0≤n∧n<es.length)∧(es.getD n.toNat []).length=sz)∧K (.rp (es.getD n.toNat []) 0)
   | none=>False
 | .os k,.v (.int _ n)=>match H k,bX P t with
   | some r,some (_,sz,_)=>(gt G→(0≤n∧n<r.es.length)∧r.sz=sz)∧K (.op k n.toNat 0)
   | _,_=>False
 | .rp cs off,.v (.int _ n)=>match qQ P t with
   | some (m,s,_)=>(gt G→0≤n∧n<m)∧K (.rp cs (off+n.toNat*s))
   | none=>False
 | .op k j f,.v (.int _ n)=>match qQ P t with
   | some (m,s,_)=>(gt G→0≤n∧n<m)∧K (.op k j (f+n.toNat*s))
   | none=>False
 | _,_=>False
def iO(P:Program)(t:TypeId)(f:Nat)(x:AV)(K:AV→Prop):Prop:=
 match x with
 | .rp cs off=>match aK P t f with
   | some (o,_)=>K (.rp cs (off+o))
   | none=>False
 | .op k i g=>match aK P t f with
   | some (o,_)=>K (.op k i (g+o))
   | none=>False
 | _=>False
def oM(places:List (Nat×Nat)):List AV→List (Nat×List AV)→Option (List AV)
 | cs,[]=>some cs
 | cs,(i,x)::rest=>match places[i]? with
   | some (off,n)=>if x.length=n∧off+n≤cs.length then oM places (cs.take off++x++cs.drop (off+n)) rest else none
   | none=>none
def mY(G:Option Bool)(ρ:Env):List (Nat×Operand)→(List (Nat×List AV)→Prop)→Prop
 | [],K=>K []
 | (i,x)::rest,K=>bH G (aev ρ x) fun y=>kX y fun cs=>mY G ρ rest fun l=>K ((i,cs)::l)
def wM(G:Option Bool)(ρ:Env):List Operand→(List AV→Prop)→Prop
 | [],K=>K []
 | x::rest,K=>bH G (aev ρ x) fun y=>wM G ρ rest fun l=>K (y::l)
def tE(P:Program)(t:TypeId)(parts:List (Nat×List AV))(K:AV→Prop):Prop:=
 match eI P t,fI P t with
 | some z,some pl=>match oM pl z parts with
   | some cs=>K (.agg cs)
   | none=>False
 | _,_=>False
def FV:Nat→Nat→List Nat
 | _,0=>[]
 | i,n+1=>i::FV (i+1) n
def dP(n:Nat):List (List AV)→Prop
 | []=>True
 | cs::r=>cs.length=n∧dP n r
def kY(P:Program)(G:Option Bool)(t:TypeId)(x:AV)(lo hi:Option AV)(K:AV→Prop):Prop:=
 match x,lo,hi with
 | .sl es,some (.v (.int _ a)),some (.v (.int _ b))=>match bX P t with
   | some (_,sz,_)=>(gt G→(0≤a∧a≤b∧b≤es.length)∧dP sz es)∧K (.sl ((es.take b.toNat).drop a.toNat))
   | none=>False
 | .sl es,some (.v (.int _ a)),none=>match bX P t with
   | some (_,sz,_)=>(gt G→(0≤a∧a≤es.length)∧dP sz es)∧K (.sl (es.drop a.toNat))
   | none=>False
 | .sl es,none,some (.v (.int _ b))=>match bX P t with
   | some _=>(gt G→0≤b∧b≤es.length)∧K (.sl (es.take b.toNat))
   | none=>False
 | .v (.string s),some (.v (.int _ a)),some (.v (.int _ b))=>
   if dH P t then(gt G→0≤a∧a≤b∧b≤s.size)∧K (.v (.string (s.extract a.toNat b.toNat)))else False
 | .v (.string s),some (.v (.int _ a)),none=>
   if dH P t then(gt G→0≤a∧a≤s.size)∧K (.v (.string (s.extract a.toNat s.size)))else False
 | .v (.string s),none,some (.v (.int _ b))=>
   if dH P t then(gt G→0≤b∧b≤s.size)∧K (.v (.string (s.extract 0 b.toNat)))else False
 | _,_,_=>False
def asl(P:Program)(G:Option Bool)(H:aF)(t:TypeId)(x:AV)(lo hi:Option AV)(K:AV→Prop):Prop:=
 match x with
 | .os k=>match H k,bX P t with
   | some r,some (_,sz,_)=>match lo,hi with
     | some (.v (.int _ a)),some (.v (.int _ b))=>(gt G→(0≤a∧a≤b∧b≤r.es.length)∧r.sz=sz)∧K (.oz k a.toNat b.toNat)
     | some (.v (.int _ a)),none=>(gt G→(0≤a∧a≤r.es.length)∧r.sz=sz)∧K (.oz k a.toNat r.es.length)
     | none,some (.v (.int _ b))=>(gt G→(0≤b∧b≤r.es.length)∧r.sz=sz)∧K (.oz k 0 b.toNat)
     | _,_=>False
   | _,_=>False
 | x=>kY P G t x lo hi K
def AF(P:Program)(G:Option Bool)(t:TypeId)(x a b:AV)(K:AV→Prop):Prop:=
 match x,a,b with
 | .sl es,.v (.int _ a),.v (.int _ b)=>match bX P t with
   | some _=>(gt G→a=es.length∧b=es.length)∧K (.cl es)
   | none=>False
 | _,_,_=>False
def sP(P:Program)(G:Option Bool)(t:TypeId)(x i:AV)(K:AV→Prop):Prop:=
 match x,i with
 | .v (.string s),.v (.int _ n)=>
   if dH P t then(gt G→0≤n∧n<s.size)∧K (.v (.int .u8 ((s.data.getD n.toNat 0).toNat:Int)))else False
 | .agg cs,.v (.int _ n)=>match qQ P t with
   | some (m,s,l)=>(gt G→0≤n∧n<m)∧apart G (n.toNat*s) l (.agg cs) K
   | none=>False
 | _,_=>False
def aun(op:UnOp)(x:AV)(K:AV→Prop):Prop:=
 match op,x with
 | .not,.v (.bool b)=>K (.v (.bool !b))
 | .neg,.v (.int k n)=>K (.v (.int k (k.wrap (0-n))))
 | _,_=>False
def oF:List (List AV)→Option (List Int)
 | []=>some []
 | [.v (.int .u8 n)]::r=>(oF r).map (n::·)
 | _=>none
def zM(P:Program)(t:TypeId):Bool:=
 match P.underlying t with
 | some (.slice e)=>match P.underlying e with
   | some (.int .u8)=>true
   | _=>false
 | _=>false
def Cs(P:Program)(t:TypeId):Option IntKind:=match P.underlying t with|some (.int k)=>some k|_=>none
def tQ(P:Program)(src dst:TypeId)(x:AV)(K:AV→Prop):Prop:=
 match x with
 | .v (.int _ n)=>match Cs P dst,Cs P src with
   | some k,some _=>K (.v (.int k (k.wrap n)))
   | _,_=>False
 | .v (.string s)=>if dH P src∧dH P dst then K (.v (.string s))else False
 | .sl es => if zM P src ∧ dH P dst then
     match oF es with
     | some ns=>K (.v (.string (strOfNums ns)))
     | none=>False
   else False
 | _=>False
def pL:Operand→Bool
 | .const (.slice none 0 0)=>true
 | _=>false
def oI(op:BinOp)(x:AV)(K:AV→Prop):Prop:=
 match op,x with
 | .eql,.sl es=>(es=[]→K (.v (.bool true)))∧K (.v (.bool false))
 | .neq,.sl es=>(es=[]→K (.v (.bool false)))∧K (.v (.bool true))
 | .eql,.os _=>K (.v (.bool true))∧K (.v (.bool false))
 | .neq,.os _=>K (.v (.bool false))∧K (.v (.bool true))
 | .eql,.v (.slice none 0 0)=>K (.v (.bool true))
 | .neq,.v (.slice none 0 0)=>K (.v (.bool false))
 | _,_=>False
def fX(P:Program)(G:Option Bool)(ρ:Env)(H:aF)(op:Op)(K:AV→Prop):Prop:=
 match op with
 | .move x| .assign x=>bH G (aev ρ x) K
 | .pick c a b=>bH G (aev ρ c) fun
   | .v (.bool c)=>wG G c (aev ρ a) (aev ρ b) K
   | _=>False
 | .build t parts=>mY G ρ parts.toList fun l=>tE P t l K
 | .load t a=>match ldT P t with
   | some l=>bH G (aev ρ a) fun a=>mM G H l a K
   | none=>False
 | .nilCheck x=>bH G (aev ρ x) fun
   | .rp cs off=>K (.rp cs off)
   | .op k i f=>K (.op k i f)
   | _=>False
 | .binOp op t x y _=>if pL y=true then bH G (aev ρ x) fun x=>cF P t=true∧oI op x K else bH G (aev ρ x) fun x=>bH G (aev ρ y) fun y=>fM P G op t x y K
 | .unOp op _ x=>bH G (aev ρ x) fun x=>aun op x K
 | .convert src dst x=>bH G (aev ρ x) fun x=>tQ P src dst x K
 | .slice t x lo hi none=>bH G (aev ρ x) fun x=>match lo,hi with
   | some lo,some hi=>bH G (aev ρ lo) fun lo=>bH G (aev ρ hi) fun hi=>asl P G H t x (some lo) (some hi) K
   | some lo,none=>bH G (aev ρ lo) fun lo=>asl P G H t x (some lo) none K
   | none,some hi=>bH G (aev ρ hi) fun hi=>asl P G H t x none (some hi) K
   | none,none=>False
 | .slice t x none (some hi) (some m)=>bH G (aev ρ x) fun x=>bH G (aev ρ hi) fun hi=>bH G (aev ρ m) fun m=>AF P G t x hi m K
 | .fieldAddr t x f=>bH G (aev ρ x) fun x=>iO P t f x K
 | .field t x f=>match aK P t f with
   | some (o,l)=>bH G (aev ρ x) fun x=>apart G o l x K
   | none=>False
 | .indexAddr t x i=>bH G (aev ρ x) fun x=>bH G (aev ρ i) fun i=>eY P G H t x i K
 | .index t x i=>bH G (aev ρ x) fun x=>bH G (aev ρ i) fun i=>sP P G t x i K
 | .extract x i=>bH G (aev ρ x) fun
   | .tup vs=>(gt G→i<vs.length)∧K (vs.getD i .any)
   | _=>False
 | .lookup t x i ok=>bH G (aev ρ x) fun x=>bH G (aev ρ i) fun i=>vS P H t x i ok K
 | .makeFunc f first cap=>match f with
   | .func f=>first=#[]∧wM G ρ cap.toList fun l=>K (.fn f l)
   | _=>False
 | _=>False
def bZ(ops:Array Oper)(ρ:Env)(g:Option (Nat×Bool))(K:Option Bool→Prop):Prop:=
 match g with
 | none=>K none
 | some (j,want)=>match (ops[j]?).bind (·.dst)with
   | some t=>match ρ t with
     | .v (.bool b)=>K (some (b == want))
     | .gd g (.v (.bool b))=>K (some (g&&(b == want)))
     | _=>False
   | none=>False
def tN(mt:Nat→Bool):Option Nat→Bool
 | some d=>mt d
 | none=>false
def nI(H:aF)(r:Row)(K:Nat→aF→Prop):Prop:=∀k,H k=none→K k (aJ H k (some r))
def mS(cs:List AV)(f:Nat)(xs:List AV):List AV:=cs.take f++xs++cs.drop (f+xs.length)
def jJ:List (Nat×TypeId×Nat)→List AV→aF→(List AV→aF→Prop)→Prop
 | [],cs,H,K=>K cs H
 | x::r,cs,H,K=>nI H ⟨x.2.1,x.2.2,[]⟩ fun k H'=>jJ r (cs.set x.1 (.os k)) H' K
def yD(P:Program)(mt:Nat→Bool)(quiet:Bool)(G:Option Bool)(o:Oper)(x:Operand)(ρ:Env)(H:aF)(K:Env→aF→Prop):Prop:=
 if tN mt o.dst=true∧G=none∧quiet=false∧pL x=true then
   match bX P o.type with
   | some (e,sz,_)=>nI H ⟨e,sz,[]⟩ fun k H'=>K (upd ρ o.dst (.os k)) H'
   | none=>False
 else bH G (aev ρ x) fun y=>K (upd ρ o.dst (wr G y)) H
def UB(mt:Nat→Bool)(o:Oper)(t:TypeId)(cs:List AV)(ρ:Env)(H:aF)(K:Env→aF→Prop):Prop:=
 if tN mt o.dst=true then
   0<cs.length∧nI H ⟨t,cs.length,[cs]⟩ fun k H'=>K (upd ρ o.dst (.op k 0 0)) H'
 else K (upd ρ o.dst (.rp cs 0)) H
def lU(P:Program)(mt:Nat→Bool)(G:Option Bool)(o:Oper)(t:TypeId)(n:Nat)(parts:List (Nat×List AV))(ρ:Env)(H:aF)(K:Env→aF→Prop):Prop:=
 match bX P t with
 | some (e,sz,_)=>
   (parts.map (·.1)=FV 0 n∧dP sz (parts.map (·.2))∧n*sz≤16777216) ∧
   (if tN mt o.dst=true∧G=none then nI H ⟨e,sz,parts.map (·.2)⟩ fun k H'=>K (upd ρ o.dst (.os k)) H'
    else K (upd ρ o.dst (wr G (.sl (parts.map (·.2))))) H)
 | none=>False
def vF(P:Program)(o:Oper)(t:TypeId)(a:AV)(cs:List AV)(ρ:Env)(H:aF)(K:Env→aF→Prop):Prop:=
 match a with
 | .op k i f=>match H k,ldT P t with
   | some r, some l => (i < r.es.length ∧ cs.length = l.getD 1 ∧ f + cs.length ≤ r.sz ∧ (l = none → ∃ i, P.info? t = some i ∧ i.size = 1)) ∧
       K (upd ρ o.dst .any) (aJ H k (some { r with es:=r.es.set i (mS (r.es.getD i []) f cs) }))
   | _,_=>False
 | _=>False
def qN(P:Program)(o:Oper)(t:TypeId)(a:AV)(cs:List AV)(ρ:Env)(H:aF)(K:Env→aF→Prop):Prop:=
 vF P o t a cs ρ H K∨((ldT P t).isSome=true∧∃nl:List (Nat×TypeId×Nat),(∀x∈nl,cs[x.1]?=some (.v (.slice none 0 0))∧0<x.2.2)∧jJ nl cs H fun cs H=>vF P o t a cs ρ H K)
def vQ(x:Operand)(ρ:Env)(d:Option Nat)(H:aF)(K:Env→aF→Prop):Prop:=
 match x with
 | .tmp t=>match ρ t with
   | .os j=>match H j with
     | some r=>∀Hr:aF,Hr j=none→(∀k,k≠j→Hr k=H k)→K (upd (upd ρ (some t) (.sl r.es)) d (.sl r.es)) Hr
     | none=>False
   | _=>False
 | _=>False
theorem zK{t j:Nat}{r:Row}{ρ:Env}{d:Option Nat}{H:aF}{K:Env→aF→Prop}(hj:ρ t=.os j)(hr:H j=some r)(h:∀Hr:aF,Hr j=none→(∀k,k≠j→Hr k=H k)→K (upd (upd ρ (some t) (.sl r.es)) d (.sl r.es)) Hr):vQ (.tmp t) ρ d H K:=by
 unfold vQ;simp only[hj,hr];exact h
def Fp(l:List Nat)(H:aF):List AV→List AV→Prop
 | [],[]=>True
 | x::xs,y::ys=>(x=y∨∃j r,j∈l∧x=.os j∧H j=some r∧y=.sl r.es)∧Fp l H xs ys
 | _,_=>False
def Fi(x:AV)(ρ:Env)(d:Option Nat)(H:aF)(K:Env→aF→Prop):Prop:=
 match x with
 | .agg cs=>∃(l:List Nat) (ys:List AV),Fp l H cs ys∧∀Hr:aF,(∀k,k∈l→Hr k=none)→(∀k,¬k∈l→Hr k=H k)→K (upd ρ d (.agg ys)) Hr
 | _=>False
def CJ(H:aF)(x:AV)(K:List (List AV)→Prop):Prop:=
 match x with
 | .sl es=>K es
 | .os k=>match H k with
   | some r=>K r.es
   | none=>False
 | .oz k a b=>match H k with
   | some r=>K ((r.es.take b).drop a)
   | none=>False
 | _=>False
def KQ(H:aF)(x:AV)(K:Nat→Nat→Nat→Row→Prop):Prop:=
 match x with
 | .os k=>match H k with
   | some r=>K k 0 r.es.length r
   | none=>False
 | .oz k a b=>match H k with
   | some r=>K k a (b-a) r
   | none=>False
 | _=>False
def RJ(P:Program)(o:Oper)(t:TypeId)(x y:AV)(ρ:Env)(H:aF)(K:Env→aF→Prop):Prop:=
 KQ H x fun k a n r=>CJ H y fun news=>match bX P t with
   | some (_,sz,_)=>(r.sz=sz∧dP sz news)∧K (upd ρ o.dst (.v (.int .i64 (min news.length n:Nat)))) (aJ H k (some { r with es:=r.es.take a++news.take (min news.length n)++r.es.drop (a+min news.length n) }))
   | none=>False
def FC(P:Program)(o:Oper)(t:TypeId)(x:AV)(ρ:Env)(H:aF)(K:Env→aF→Prop):Prop:=
 KQ H x fun k a n r=>match bX P t with
   | some (e,sz,_)=>match eI P e with
     | some zs=>r.sz=sz∧K (upd ρ o.dst .any) (aJ H k (some { r with es:=r.es.take a++List.replicate n zs++r.es.drop (a+n) }))
     | none=>False
   | none=>False
def vL(P:Program)(o:Oper)(t:TypeId)(s x:AV)(ρ:Env)(H:aF)(K:Env→aF→Prop):Prop:=
 match s,bX P t with
 | .os k,some (e,sz,bytes)=>match H k with
   | some r => CJ H x fun news =>
       (r.e=e∧r.sz=sz∧dP sz news∧(r.es.length+news.length)*bytes≤140737488355328) ∧
       ∀k',H k'=none→K (upd ρ o.dst (.os k')) (aJ (aJ H k none) k' (some ⟨e,sz,r.es++news⟩))
   | none=>False
 | .cl es, some (e, sz, bytes) => CJ H x fun news =>
     (news≠[]∧dP sz es∧dP sz news∧(es.length+news.length)*bytes≤140737488355328) ∧
     ∀k',H k'=none→K (upd ρ o.dst (.os k')) (aJ H k' (some ⟨e,sz,es++news⟩))
 | _,_=>False
def Ed:List (Nat×TypeId×Nat)→List AV→List AV
 | [],z=>z
 | x::r,z=>Ed r (z.set x.1 (.v (.slice none 0 0)))
def vW(P:Program)(o:Oper)(t:TypeId)(parts:List (Nat×Operand))(ρ:Env)(H:aF)(K:Env→aF→Prop):Prop:=
 mY none ρ parts fun l=>match eI P t,fI P t,oN P t with
   | some z,some pl,some nl=>match oM pl (Ed nl z) l with
     | some cs=>K (upd ρ o.dst (.agg cs)) H
     | none=>False
   | _,_,_=>False
def yT(P:Program)(o:Oper)(t:TypeId)(parts:List (Nat×Operand))(ρ:Env)(H:aF)(K:Env→aF→Prop):Prop:=
 mY none ρ parts fun l=>match eI P t,fI P t,oN P t with
   | some z,some pl,some nl=>jJ nl z H fun z H=>match oM pl z l with
     | some cs=>K (upd ρ o.dst (.agg cs)) H
     | none=>False
   | _,_,_=>False
def lH(P:Program)(o:Oper)(t:TypeId)(m x v:AV)(ρ:Env)(H:aF)(K:Env→aF→Prop):Prop:=
 EG P H t m x fun j r _ oi=>K (upd ρ o.dst .any) (aJ H j (some { r with es:=mput r.es oi x v }))
def vO(P:Program)(o:Oper)(t:TypeId)(m x:AV)(ρ:Env)(H:aF)(K:Env→aF→Prop):Prop:=
 EG P H t m x fun j r kt oi=>match oi with
   | some i=>K (upd ρ o.dst (.tup [(r.es.getD i []).getD 1 .any,.v (.int .i64 i)])) H
   | none=>match Nf P kt.2 with
     | some z=>K (upd ρ o.dst (.tup [z,.v (.int .i64 r.es.length)])) (aJ H j (some { r with es:=r.es++[[x,z]] }))
     | none=>False
def qJ(o:Oper)(m s v:AV)(ρ:Env)(H:aF)(K:Env→aF→Prop):Prop:=
 match m,s with
 | .om j,.v (.int _ i)=>match H j with
   | some r=>(0≤i∧i<r.es.length)∧K (upd ρ o.dst .any) (aJ H j (some { r with es:=r.es.set i.toNat [(r.es.getD i.toNat []).getD 0 .any,v] }))
   | none=>False
 | _,_=>False
def pE(P:Program)(o:Oper)(t:TypeId)(l c:AV)(ρ:Env)(H:aF)(K:Env→aF→Prop):Prop:=
 match l,c with
 | .v (.int _ a),.v (.int _ b)=>match bX P t with
   | some (e,sz,bytes)=>match eI P e with
     | some z=>((0≤a∧a≤b)∧(bytes:Int)*b≤140737488355328)∧nI H ⟨e,sz,List.replicate a.toNat z⟩ fun k H'=>K (upd ρ o.dst (.os k)) H'
     | none=>False
   | none=>False
 | _,_=>False
def Ju:AV→Option (FuncId×List AV×List AV)
 | .v (.func (.func f) first captured)=>some (f,first.toList.map .v,captured.toList.map .v)
 | .fn f cap=>some (f,[],cap)
 | _=>none
def aC(P:Program)(f:FuncId):Bool:=match P.funcs[f]? with|some fn=>fn.name != "runtime.NumGoroutine" && fn.body.isSome|none=>false
abbrev kS:=FuncId→List AV→aF→(AV→aF→Prop)→Prop
def nfq(quiet:Bool)(r:AV)(K:AV→Prop):Prop:=match quiet,r with
 | true,.nf _=>False
 | false,.nf x=>K x
 | _,r=>K r
def yW(P:Program)(C:kS)(PC:FuncId→List AV→aF→AV→Prop)(quiet:Bool)(G:Option Bool)(o:Oper)(c:Call)(ρ:Env)(H:aF)(K:Env→aF→Prop):Prop:=
 match c.callee with
 | .builtin b=>wM G ρ c.args.toList fun l=>match b,l,c.argTypes.toList with
   | .len,[x],[t]=>Dt P H t x fun y=>K (upd ρ o.dst (wr G y)) H
   | .append,[s,x],[t,t']=>if t=t'∧G=none∧quiet=false then vL P o t s x ρ H K else False
   | .copy,[x,y],[t,_]=>if G=none∧quiet=false then RJ P o t x y ρ H K else False
   | .clear,[x],[t]=>if G=none∧quiet=false then FC P o t x ρ H K else False
   | .max,[x,y],[_,_]=>Lp x y fun z=>K (upd ρ o.dst (wr G z)) H
   | .min,[x,y],[_,_]=>KN x y fun z=>K (upd ρ o.dst (wr G z)) H
   | _,_,_=>False
 | .value f=>bH G (aev ρ f) fun x=>match Ju x with
   | some (f,first,captured)=>wM G ρ c.args.toList fun l=>
     aC P f=true∧if G=none∧quiet=false then C f (first++l++captured) H fun r H'=>K (upd ρ o.dst r) H'
     else ∃r,(gt G→PC f (first++l++captured) H r)∧nfq quiet r fun r=>K (upd ρ o.dst (wr G r)) H
   | none=>False
 | .invoke _ _=>False
def aop(P:Program)(C:kS)(PC:FuncId→List AV→aF→AV→Prop)(mt:Nat→Bool)(quiet:Bool)(ops:Array Oper)(o:Oper)(ρ:Env)(H:aF)(K:Env→aF→Prop):Prop:=
 bZ ops ρ o.guard fun G=>
 match o.op with
 | .assign x=>yD P mt quiet G o x ρ H K
 | .alloc t=>match eI P t with
   | some z => G = none ∧ quiet = false ∧ (if tN mt o.dst = true then match oN P t with
       | some nl=>jJ nl z H fun z H=>nI H ⟨t,z.length,[z]⟩ fun k H'=>K (upd ρ o.dst (.op k 0 0)) H'
       | none=>False
     else nI H ⟨t,z.length,[z]⟩ fun k H'=>K (upd ρ o.dst (.op k 0 0)) H')
   | none=>False
 | .box t x=>G=none∧quiet=false∧bH G (aev ρ x) fun x=>kX x fun cs=>UB mt o t cs ρ H K
 | .buildSlice t n parts=>quiet=false∧mY G ρ parts.toList fun l=>lU P mt G o t n l ρ H K
 | .store t a x => G = none ∧ quiet = false ∧ (if pL x = true then bH G (aev ρ a) fun a => match bX P t with
       | some (e,sz,_)=>nI H ⟨e,sz,[]⟩ fun k H=>qN P o t a [.os k] ρ H K
       | none=>False
     else bH G (aev ρ a) fun a=>bH G (aev ρ x) fun x=>kX x fun cs=>qN P o t a cs ρ H K)
 | .call c=>yW P C PC quiet G o c ρ H K
 | .move x=>if tN mt o.dst=true then G=none∧quiet=false∧vQ x ρ o.dst H K else fX P G ρ H (.move x) fun x=>K (upd ρ o.dst (wr G x)) H
 | .pick c a b=>fX P G ρ H (.pick c a b) fun x=>K (upd ρ o.dst (wr G x)) H
 | .build t parts=>if tN mt o.dst=true then G=none∧(if quiet=true then vW P o t parts.toList ρ H K else yT P o t parts.toList ρ H K)else fX P G ρ H (.build t parts) fun x=>K (upd ρ o.dst (wr G x)) H
 | .load t a=>if tN mt o.dst=true then G=none∧quiet=false∧fX P none ρ H (.load t a) fun x=>Fi x ρ o.dst H K else fX P G ρ H (.load t a) fun x=>K (upd ρ o.dst (wr G x)) H
 | .nilCheck x=>fX P G ρ H (.nilCheck x) fun x=>K (upd ρ o.dst (wr G x)) H
 | .binOp op t x y t'=>fX P G ρ H (.binOp op t x y t') fun x=>K (upd ρ o.dst (wr G x)) H
 | .unOp op t x=>fX P G ρ H (.unOp op t x) fun x=>K (upd ρ o.dst (wr G x)) H
 | .convert s d x=>fX P G ρ H (.convert s d x) fun x=>K (upd ρ o.dst (wr G x)) H
 | .slice t x lo hi m=>fX P G ρ H (.slice t x lo hi m) fun x=>K (upd ρ o.dst (wr G x)) H
 | .fieldAddr t x f=>fX P G ρ H (.fieldAddr t x f) fun x=>K (upd ρ o.dst (wr G x)) H
 | .field t x f=>fX P G ρ H (.field t x f) fun x=>K (upd ρ o.dst (wr G x)) H
 | .indexAddr t x i=>fX P G ρ H (.indexAddr t x i) fun x=>K (upd ρ o.dst (wr G x)) H
 | .index t x i=>fX P G ρ H (.index t x i) fun x=>K (upd ρ o.dst (wr G x)) H
 | .extract x i=>fX P G ρ H (.extract x i) fun x=>K (upd ρ o.dst (wr G x)) H
 | .makeFunc f a b=>fX P G ρ H (.makeFunc f a b) fun x=>K (upd ρ o.dst (wr G x)) H
 | .makeSlice t l c=>G=none∧quiet=false∧bH G (aev ρ l) fun l=>bH G (aev ρ c) fun c=>pE P o t l c ρ H K
 | .lookup t x i ok=>fX P G ρ H (.lookup t x i ok) fun x=>K (upd ρ o.dst (wr G x)) H
 | .makeMap _ none=>G=none∧quiet=false∧nI H ⟨0,2,[]⟩ fun k H'=>K (upd ρ o.dst (.om k)) H'
 | .mapUpdate t m x v=>G=none∧quiet=false∧bH G (aev ρ m) fun m=>bH G (aev ρ x) fun x=>bH G (aev ρ v) fun v=>lH P o t m x v ρ H K
 | .insert t m x v=>G=none∧quiet=false∧bH G (aev ρ m) fun m=>bH G (aev ρ x) fun x=>bH G (aev ρ v) fun v=>lH P o t m x v ρ H K
 | .mapEntry t m x=>G=none∧quiet=false∧bH G (aev ρ m) fun m=>bH G (aev ρ x) fun x=>vO P o t m x ρ H K
 | .entryStore _ m s v=>G=none∧quiet=false∧bH G (aev ρ m) fun m=>bH G (aev ρ s) fun s=>bH G (aev ρ v) fun v=>qJ o m s v ρ H K
 | _=>False
def tG(P:Program)(C:kS)(PC:FuncId→List AV→aF→AV→Prop)(mt:Nat→Bool)(quiet:Bool)(ops:Array Oper)(K:Env→aF→Prop):List Oper→Env→aF→Prop
 | [],ρ,H=>K ρ H
 | o::rest,ρ,H=>aop P C PC mt quiet ops o ρ H (tG P C PC mt quiet ops K rest)
def Ex.seq(K:Env→aF→Prop)(Q:Ex→Env→aF→Prop):Ex→Env→aF→Prop
 | .normal,ρ,H=>K ρ H
 | e,ρ,H=>Q e ρ H
def Ex.blk(id:Nat)(Q:Ex→Env→aF→Prop):Ex→Env→aF→Prop
 | .exit i,ρ,H=>if i=id then Q .normal ρ H else Q (.exit i) ρ H
 | e,ρ,H=>Q e ρ H
def NK(W:(Ex→Env→aF→Prop)→Env→aF→Prop)(Q:Ex→Env→aF→Prop)(ρ:Env)(H:aF):Prop:=
 ∃(I:Env→aF→Prop) (μ:Env→aF→Nat),I ρ H∧∀ρ' H',I ρ' H'→W (Ex.seq (fun ρ'' H''=>I ρ'' H''∧μ ρ'' H''<μ ρ' H') Q) ρ' H'
def VQ(mt:Nat→Bool)(o:Oper):Bool:=match o.op with
 | .alloc _=>true
 | .buildSlice ..=>true
 | .store ..=>true
 | .makeSlice ..=>true
 | .makeMap ..=>true
 | .mapUpdate ..=>true
 | .insert ..=>true
 | .mapEntry ..=>true
 | .entryStore ..=>true
 | .call ⟨.builtin .append,_,_⟩=>true
 | .call ⟨.builtin .copy,_,_⟩=>true
 | .call ⟨.builtin .clear,_,_⟩=>true
 | _=>tN mt o.dst
def MM(mt:Nat→Bool):List Oper→Nat
 | []=>0
 | o::r=>if VQ mt o=true then 0 else MM mt r+1
def Np(ops:Array Oper)(n:Nat):Bool:=Region.noSelect ops&&decide (n≤ops.size)&&Region.lexHead .any ops (ops.size-n) n 0 (Array.replicate ops.size false)
def qH(o:Oper)(H:aF):aF:=match o.op with
 | .slice ..=>H
 | _=>fun _=>none
def uR(P:Program)(C:kS)(PC:FuncId→List AV→aF→AV→Prop)(mt:Nat→Bool)(ops:Array Oper)(K:Env→aF→Prop):List (Nat×Bool)→Env→aF→Prop
 | [],ρ,H=>K ρ H
 | (k,b)::f,ρ,H=>match ops[k]? with
   | some o=>if b=true then aop P C PC mt true ops o ρ (qH o H) fun ρ' _=>uR P C PC mt ops K f ρ' H
     else aop P C PC mt false ops o ρ H (uR P C PC mt ops K f)
   | none=>False
def nT(P:Program)(C:kS)(PC:FuncId→List AV→aF→AV→Prop)(mt:Nat→Bool)(ops:Array Oper)(K:Env→aF→Prop)(Hp:aF):List (Nat×Bool)→Env→aF→Prop
 | [],ρ,H=>K ρ H
 | (k,b)::f,ρ,H=>match ops[k]? with
   | some o=>if b=true then aop P C PC mt true ops o ρ Hp fun ρ' _=>nT P C PC mt ops K Hp f ρ' H
     else aop P C PC mt false ops o ρ H (nT P C PC mt ops K Hp f)
   | none=>False
def mO(l:List Nat)(H:aF)(K:Env→aF→Prop)(ρ':Env)(H':aF):Prop:=
 (∀k,k∈l→H' k=none)→∀Hm:aF,(∀k,k∈l→Hm k=H k)→(∀k,k∉l→Hm k=H' k)→K ρ' Hm
theorem kH{l:List Nat}{H:aF}{K:Env→aF→Prop}{ρ':Env}{H':aF}(h:(∀k,k∈l→H' k=none)→∀Hm:aF,(∀k,k∈l→Hm k=H k)→(∀k,k∉l→Hm k=H' k)→K ρ' Hm):mO l H K ρ' H':=h
def mN(ops:Array Oper):List (Nat×Bool)→Array Bool→Bool
 | [],listed=>(Region.ready .any ops listed).isEmpty
 | (k,true)::f,listed=>(Region.ready .any ops listed).contains k&&Region.free .any ops listed k&&mN ops f (listed.setIfInBounds k true)
 | (k,false)::f,listed=>decide (Region.ready .any ops listed=[k])&&mN ops f (listed.setIfInBounds k true)
def Jv(ops:Array Oper)(f:List (Nat×Bool)):Bool:=Region.noSelect ops&&decide (f.length=ops.size)&&mN ops f (Array.replicate ops.size false)
inductive Mx where
 | nil
 | q (k:Nat) (t:Mx)
 | a1 (k:Nat) (t:Mx)
 | a2 (k:Nat) (t:Mx) (k':Nat) (t':Mx)
 | a3 (k:Nat) (t:Mx) (k':Nat) (t':Mx) (k'':Nat) (t'':Mx)
def xF(P:Program)(C:kS)(PC:FuncId→List AV→aF→AV→Prop)(mt:Nat→Bool)(quiet:Bool)(ops:Array Oper)(k:Nat)(ρ:Env)(H:aF)(K:Env→aF→Prop):Prop:=
 match ops[k]? with
 | some o=>aop P C PC mt quiet ops o ρ H K
 | none=>False
def lQ(P:Program)(C:kS)(PC:FuncId→List AV→aF→AV→Prop)(mt:Nat→Bool)(ops:Array Oper)(K:Env→aF→Prop)(Hp:aF):Mx→Env→aF→Prop
 | .nil,ρ,H=>K ρ H
 | .q k t,ρ,H=>xF P C PC mt true ops k ρ Hp fun ρ' _=>lQ P C PC mt ops K Hp t ρ' H
 | .a1 k t,ρ,H=>xF P C PC mt false ops k ρ H (lQ P C PC mt ops K Hp t)
 | .a2 k t k' t',ρ,H=>xF P C PC mt false ops k ρ H (lQ P C PC mt ops K Hp t)∧xF P C PC mt false ops k' ρ H (lQ P C PC mt ops K Hp t')
 | .a3 k t k' t' k'' t'',ρ,H=>xF P C PC mt false ops k ρ H (lQ P C PC mt ops K Hp t)∧xF P C PC mt false ops k' ρ H (lQ P C PC mt ops K Hp t')∧xF P C PC mt false ops k'' ρ H (lQ P C PC mt ops K Hp t'')
def eX(ops:Array Oper):Mx→Nat→Array Bool→Bool
 | .nil,0,listed=>(Region.ready .any ops listed).isEmpty
 | .q k t,n+1,listed=>(Region.ready .any ops listed).contains k&&Region.free .any ops listed k&&eX ops t n (listed.setIfInBounds k true)
 | .a1 k t,n+1,listed=>decide (Region.ready .any ops listed=[k])&&eX ops t n (listed.setIfInBounds k true)
 | .a2 k t k' t',n+1,listed=>decide (Region.ready .any ops listed=[k,k'])&&eX ops t n (listed.setIfInBounds k true)&&eX ops t' n (listed.setIfInBounds k' true)
 | .a3 k t k' t' k'' t'',n+1,listed=>decide (Region.ready .any ops listed=[k,k',k''])&&eX ops t n (listed.setIfInBounds k true)&&eX ops t' n (listed.setIfInBounds k' true)&&eX ops t'' n (listed.setIfInBounds k'' true)
 | _,_,_=>false
def oK(ops:Array Oper)(t:Mx):Bool:=Region.noSelect ops&&eX ops t ops.size (Array.replicate ops.size false)
def rL(P:Program)(C:kS)(PC:FuncId→List AV→aF→AV→Prop)(mt:Nat→Bool)(ops:Array Oper)(K:Env→aF→Prop)(m:Nat)(ρ:Env)(H:aF):Prop:=
 (m=ops.size∧Region.lexB .any ops=true∧tG P C PC mt true ops K ops.toList ρ H) ∨
 (Np ops m=true∧tG P C PC mt true ops (fun ρ' _=>tG P C PC mt false ops K (ops.toList.drop m) ρ' H) (ops.toList.take m) ρ fun _=>none) ∨
 (∃f,Jv ops f=true∧uR P C PC mt ops K f ρ H) ∨
 (∃l f,(∀k,k∈l→(H k).isSome=true)∧Jv ops f=true∧∀Hp Hr:aF,(∀k,k∈l→Hp k=H k)→(∀k,k∉l→Hr k=H k)→(∀k,k∉l→Hp k=none)→(∀k,k∈l→Hr k=none)→nT P C PC mt ops (mO l H K) Hp f ρ Hr) ∨
 ∃l t,(∀k,k∈l→(H k).isSome=true)∧oK ops t=true∧∀Hp Hr:aF,(∀k,k∈l→Hp k=H k)→(∀k,k∉l→Hr k=H k)→(∀k,k∉l→Hp k=none)→(∀k,k∈l→Hr k=none)→lQ P C PC mt ops (mO l H K) Hp t ρ Hr
theorem gI{P:Program}{C:kS}{PC:FuncId→List AV→aF→AV→Prop}{mt:Nat→Bool}{l:List Oper}{K:Env→aF→Prop}{m:Nat}{ρ:Env}{H:aF}(hm:(m == l.length)=true)(hl:Region.lexB .any l.toArray=true)
 (h:tG P C PC mt true l.toArray K l ρ H):rL P C PC mt l.toArray K m ρ H:=.inl ⟨by simpa using hm,hl,h⟩
theorem GY{P:Program}{C:kS}{PC:FuncId→List AV→aF→AV→Prop}{mt:Nat→Bool}{l:List Oper}{K:Env→aF→Prop}{m:Nat}{ρ:Env}{H:aF}(hB:Np l.toArray m=true)
 (h:tG P C PC mt true l.toArray (fun ρ' _=>tG P C PC mt false l.toArray K (l.drop m) ρ' H) (l.take m) ρ fun _=>none):rL P C PC mt l.toArray K m ρ H:=.inr (.inl ⟨hB,h⟩)
theorem kR{P:Program}{C:kS}{PC:FuncId→List AV→aF→AV→Prop}{mt:Nat→Bool}{l:List Oper}{K:Env→aF→Prop}{m:Nat}{ρ:Env}{H:aF}(f:List (Nat×Bool))(hB:Jv l.toArray f=true)
 (h:uR P C PC mt l.toArray K f ρ H):rL P C PC mt l.toArray K m ρ H:=.inr (.inr (.inl ⟨f,hB,h⟩))
theorem gB{P:Program}{C:kS}{PC:FuncId→List AV→aF→AV→Prop}{mt:Nat→Bool}{ops:List Oper}{K:Env→aF→Prop}{m:Nat}{ρ:Env}{H:aF}(l:List Nat)(f:List (Nat×Bool))(hl:∀k,k∈l→(H k).isSome=true)(hB:Jv ops.toArray f=true)
 (h:∀Hp Hr:aF,(∀k,k∈l→Hp k=H k)→(∀k,k∉l→Hr k=H k)→(∀k,k∉l→Hp k=none)→(∀k,k∈l→Hr k=none)→nT P C PC mt ops.toArray (mO l H K) Hp f ρ Hr):rL P C PC mt ops.toArray K m ρ H:=.inr (.inr (.inr (.inl ⟨l,f,hl,hB,h⟩)))
theorem Bo{P:Program}{C:kS}{PC:FuncId→List AV→aF→AV→Prop}{mt:Nat→Bool}{ops:List Oper}{K:Env→aF→Prop}{m:Nat}{ρ:Env}{H:aF}(l:List Nat)(t:Mx)(hl:∀k,k∈l→(H k).isSome=true)(hB:oK ops.toArray t=true)
 (h:∀Hp Hr:aF,(∀k,k∈l→Hp k=H k)→(∀k,k∉l→Hr k=H k)→(∀k,k∉l→Hp k=none)→(∀k,k∈l→Hr k=none)→lQ P C PC mt ops.toArray (mO l H K) Hp t ρ Hr):rL P C PC mt ops.toArray K m ρ H:=.inr (.inr (.inr (.inr ⟨l,t,hl,hB,h⟩)))
def awp(P:Program)(C:kS)(PC:FuncId→List AV→aF→AV→Prop)(mt:Nat→Bool):Code→(Ex→Env→aF→Prop)→Env→aF→Prop
 | .skip,Q,ρ,H=>Q .normal ρ H
 | .region _ ops draw,Q,ρ,H=>if draw=true then rL P C PC mt ops (Q .normal) (MM mt ops.toList) ρ H else tG P C PC mt false ops (Q .normal) ops.toList ρ H
 | .seq a b,Q,ρ,H=>awp P C PC mt a (Ex.seq (awp P C PC mt b Q) Q) ρ H
 | .cond c a b,Q,ρ,H=>match aev ρ c with
   | .v (.bool t)=>(t=true→awp P C PC mt a Q ρ H)∧(t=false→awp P C PC mt b Q ρ H)
   | _=>False
 | .block id c,Q,ρ,H=>awp P C PC mt c (Ex.blk id Q) ρ H
 | .loop c,Q,ρ,H=>NK (awp P C PC mt c) Q ρ H
 | .scope c,Q,ρ,H=>awp P C PC mt c Q ρ H
 | .label _,Q,ρ,H=>Q .normal ρ H
 | .exit id,Q,ρ,H=>Q (.exit id) ρ H
 | .ret,Q,ρ,H=>Q .ret ρ H
 | _,_,_,_=>False
def vE(x:AV)(A B:Env→aF→Prop)(ρ:Env)(H:aF):Prop:=
 match x with
 | .v (.bool t)=>(t=true→A ρ H)∧(t=false→B ρ H)
 | _=>False
section
variable{P:Program}{C:kS}{PC:FuncId→List AV→aF→AV→Prop}{mt:Nat→Bool}{Q:Ex→Env→aF→Prop}{K:Env→aF→Prop}{ρ:Env}{H:aF}{a b c:Code}{id:Nat}{ops:Array Oper}{draw:Bool}
theorem SB:awp P C PC mt .skip Q ρ H=Q .normal ρ H:=(rfl)
theorem BC:awp P C PC mt (.region id ops false) Q ρ H=tG P C PC mt false ops (Q .normal) ops.toList ρ H:=by simp[awp]
theorem Kj:awp P C PC mt (.region id ops true) Q ρ H=rL P C PC mt ops (Q .normal) (MM mt ops.toList) ρ H:=by simp[awp]
@[congr] theorem adraw_c {m m':Nat} (h:m=m'):rL P C PC mt ops K m ρ H=rL P C PC mt ops K m' ρ H:=h▸rfl
theorem MN:awp P C PC mt (.seq a b) Q ρ H=awp P C PC mt a (Ex.seq (awp P C PC mt b Q) Q) ρ H:=(rfl)
theorem Jl{x:Operand}:awp P C PC mt (.cond x a b) Q ρ H=vE (aev ρ x) (awp P C PC mt a Q) (awp P C PC mt b Q) ρ H:=(rfl)
theorem Fj:awp P C PC mt (.block id c) Q ρ H=awp P C PC mt c (Ex.blk id Q) ρ H:=(rfl)
theorem Ij:awp P C PC mt (.loop c) Q ρ H=NK (awp P C PC mt c) Q ρ H:=(rfl)
theorem Fs:awp P C PC mt (.scope c) Q ρ H=awp P C PC mt c Q ρ H:=(rfl)
theorem Pn{l:Nat}:awp P C PC mt (.label l) Q ρ H=Q .normal ρ H:=(rfl)
theorem S9:awp P C PC mt (.exit id) Q ρ H=Q (.exit id) ρ H:=(rfl)
theorem U2:awp P C PC mt .ret Q ρ H=Q .ret ρ H:=(rfl)
theorem QC:tG P C PC mt draw ops K [] ρ H=K ρ H:=(rfl)
theorem N7{o:Oper}{r:List Oper}:tG P C PC mt draw ops K (o::r) ρ H=aop P C PC mt draw ops o ρ H (tG P C PC mt draw ops K r):=(rfl)
theorem Ks:Ex.seq K Q .normal ρ H=K ρ H:=(rfl)
theorem PX:Ex.seq K Q (.exit id) ρ H=Q (.exit id) ρ H:=(rfl)
theorem Vv:Ex.seq K Q .ret ρ H=Q .ret ρ H:=(rfl)
theorem Kx:Ex.blk id Q .normal ρ H=Q .normal ρ H:=(rfl)
theorem NJ:Ex.blk id Q .ret ρ H=Q .ret ρ H:=(rfl)
theorem IB:Ex.blk id Q (.exit id) ρ H=Q .normal ρ H:=by simp[Ex.blk]
theorem NT{i:Nat}(h:(i == id)=false):Ex.blk id Q (.exit i) ρ H=Q (.exit i) ρ H:=by
 have:i≠id:=by simpa using h
 simp[Ex.blk,this]
end
@[congr] theorem wopd_c {G x x' k} (h:x=x'):bH G x k=bH G x' k:=h▸rfl
@[congr] theorem abin_c {P G op t x x' y y' k} (h:x=x') (h':y=y'):fM P G op t x y k=fM P G op t x' y' k:=h▸h'▸rfl
@[congr] theorem apick_c {G c c' x x' y y' k} (h0:c=c') (h:x=x') (h':y=y'):wG G c x y k=wG G c' x' y' k:=h0▸h▸h'▸rfl
@[congr] theorem aload_c {G H l l' x x' k} (h:l=l') (h':x=x'):mM G H l x k=mM G H l' x' k:=h▸h'▸rfl
@[congr] theorem apart_c {G o o' l l' x x' k} (h0:o=o') (h:l=l') (h':x=x'):apart G o l x k=apart G o' l' x' k:=h0▸h▸h'▸rfl
@[congr] theorem alen_c {P H t x x' k} (h':x=x'):Dt P H t x k=Dt P H t x' k:=h'▸rfl
@[congr] theorem aindexAddr_c {P G H t x x' y y' k} (h:x=x') (h':y=y'):eY P G H t x y k=eY P G H t x' y' k:=h▸h'▸rfl
@[congr] theorem aindex_c {P G t x x' y y' k} (h:x=x') (h':y=y'):sP P G t x y k=sP P G t x' y' k:=h▸h'▸rfl
@[congr] theorem afieldAddr_c {P t f x x' k} (h':x=x'):iO P t f x k=iO P t f x' k:=h'▸rfl
@[congr] theorem abuild_c {P t l l' k} (h':l=l'):tE P t l k=tE P t l' k:=h'▸rfl
@[congr] theorem aslice_c {P G t x x' lo lo' hi hi' k} (h:x=x') (h1:lo=lo') (h2:hi=hi'):kY P G t x lo hi k=kY P G t x' lo' hi' k:=h▸h1▸h2▸rfl
@[congr] theorem aun_c {op x x' k} (h':x=x'):aun op x k=aun op x' k:=h'▸rfl
@[congr] theorem aconv_c {P s t x x' k} (h':x=x'):tQ P s t x k=tQ P s t x' k:=h'▸rfl
@[congr] theorem wcells_c {x x' K} (h:x=x'):kX x K=kX x' K:=h▸rfl
@[congr] theorem acond_c {x x' A B ρ H} (h':x=x'):vE x A B ρ H=vE x' A B ρ H:=h'▸rfl
@[congr] theorem abox_c {mt o t x x' ρ H K} (h:x=x'):UB mt o t x ρ H K=UB mt o t x' ρ H K:=h▸rfl
@[congr] theorem abuildSlice_c {P mt G o t n x x' ρ H K} (h:x=x'):lU P mt G o t n x ρ H K=lU P mt G o t n x' ρ H K:=h▸rfl
@[congr] theorem astore_c {P o t a a' x x' ρ H K} (h:a=a') (h':x=x'):vF P o t a x ρ H K=vF P o t a' x' ρ H K:=h▸h'▸rfl
@[congr] theorem aappend_c {P o t a a' x x' ρ H K} (h:a=a') (h':x=x'):vL P o t a x ρ H K=vL P o t a' x' ρ H K:=h▸h'▸rfl
@[congr] theorem asrc_c {H x x' K} (h:x=x'):CJ H x K=CJ H x' K:=h▸rfl
@[congr] theorem anew_c {H r r' K} (h:r=r'):nI H r K=nI H r' K:=h▸rfl
theorem aA{t:Bool}{A B:Env→aF→Prop}{ρ:Env}{H:aF}(h1:t=true→A ρ H)(h2:t=false→B ρ H):vE (.v (.bool t)) A B ρ H:=⟨h1,h2⟩
def JH(args:List AV):Env:=fun t=>args.getD t .any
def bR:AV→Nat
 | .v (.int _ n)=>n.toNat
 | _=>0
theorem aI{k n}:bR (.v (.int k n))=n.toNat:=(rfl)
section
variable{G:Option Bool}{k:AV→Prop}
theorem RB{x}:bH G (.v x) k=k (.v x):=(rfl)
theorem Jp:bH G .any k=k .any:=(rfl)
theorem Mm{x}:bH G (.sl x) k=k (.sl x):=(rfl)
theorem Ml{x o}:bH G (.rp x o) k=k (.rp x o):=(rfl)
theorem Ig{x}:bH G (.agg x) k=k (.agg x):=(rfl)
theorem G6{x}:bH G (.tup x) k=k (.tup x):=(rfl)
theorem Nq{x}:bH G (.os x) k=k (.os x):=(rfl)
theorem MV{x i f}:bH G (.op x i f) k=k (.op x i f):=(rfl)
theorem Nx{f l}:bH G (.fn f l) k=k (.fn f l):=(rfl)
theorem M6{j a b}:bH G (.oz j a b) k=k (.oz j a b):=(rfl)
theorem MJ{es}:bH G (.cl es) k=k (.cl es):=(rfl)
theorem MW{j}:bH G (.om j) k=k (.om j):=(rfl)
theorem Nk{g x}:bH G (.gd g x) k=(gok G g∧k x):=(rfl)
end
def NE(K:Env→aF→Prop)(ρ:Env)(d:Option Tmp)(j:Nat)(H:aF):Prop:=K (upd ρ d (.os j)) H
def Nt(K:Env→aF→Prop)(ρ:Env)(d:Option Tmp)(j:Nat)(H:aF):Prop:=K (upd ρ d (.op j 0 0)) H
def QM(K:Env→aF→Prop)(ρ:Env)(d:Option Tmp)(r:AV)(H:aF):Prop:=K (upd ρ d r) H
theorem HK{K ρ d j H}:NE K ρ d j H=K (upd ρ d (.os j)) H:=(rfl)
theorem J9{K ρ d j H}:Nt K ρ d j H=K (upd ρ d (.op j 0 0)) H:=(rfl)
theorem JB{K ρ d r H}:QM K ρ d r H=K (upd ρ d r) H:=(rfl)
def wpick(G:Option Bool)(c x y:AV)(k:AV→Prop):Prop:=match c with
 | .v (.bool c)=>wG G c x y k
 | _=>False
@[congr] theorem wpick_c {G c c' x y k} (h:c=c'):wpick G c x y k=wpick G c' x y k:=h▸rfl
theorem NG{G c x y k}:wpick G (.v (.bool c)) x y k=wG G c x y k:=(rfl)
def PQ(x:AV)(k:AV→Prop):Prop:=match x with
 | .rp cs off=>k (.rp cs off)
 | .op j i f=>k (.op j i f)
 | _=>False
@[congr] theorem wptr_c {x x' k} (h:x=x'):PQ x k=PQ x' k:=h▸rfl
theorem Mq{cs o k}:PQ (.rp cs o) k=k (.rp cs o):=(rfl)
theorem MC{j i f k}:PQ (.op j i f) k=k (.op j i f):=(rfl)
def VH(G:Option Bool)(x:AV)(i:Nat)(k:AV→Prop):Prop:=match x with
 | .tup vs=>(gt G→i<vs.length)∧k (vs.getD i .any)
 | _=>False
@[congr] theorem wtup_c {G x x' i k} (h:x=x'):VH G x i k=VH G x' i k:=h▸rfl
theorem MO{G vs i k}:VH G (.tup vs) i k=((gt G→i<vs.length)∧k (vs.getD i .any)):=(rfl)
def Ou(P:Program)(d:Option Tmp)(t:TypeId)(a:AV)(cs:List AV)(ρ:Env)(H:aF)(K:Env→aF→Prop):Prop:=qN P ⟨d,.move (.tmp 0),0,"",#[],none⟩ t a cs ρ H K
@[congr] theorem wput_c {P d t a a' cs cs' ρ H K} (h:a=a') (h':cs=cs'):Ou P d t a cs ρ H K=Ou P d t a' cs' ρ H K:=h▸h'▸rfl
def Su(P:Program)(d:Option Tmp)(t:TypeId)(s x:AV)(ρ:Env)(H:aF)(K:Env→aF→Prop):Prop:=vL P ⟨d,.move (.tmp 0),0,"",#[],none⟩ t s x ρ H K
@[congr] theorem wapp_c {P d t s s' x x' ρ H K} (h:s=s') (h':x=x'):Su P d t s x ρ H K=Su P d t s' x' ρ H K:=h▸h'▸rfl
def JE(P:Program)(d:Option Tmp)(t:TypeId)(l c:AV)(ρ:Env)(H:aF)(K:Env→aF→Prop):Prop:=pE P ⟨d,.move (.tmp 0),0,"",#[],none⟩ t l c ρ H K
@[congr] theorem wmake_c {P d t s s' x x' ρ H K} (h:s=s') (h':x=x'):JE P d t s x ρ H K=JE P d t s' x' ρ H K:=h▸h'▸rfl
def RI(P:Program)(d:Option Tmp)(t:TypeId)(x y:AV)(ρ:Env)(H:aF)(K:Env→aF→Prop):Prop:=RJ P ⟨d,.move (.tmp 0),0,"",#[],none⟩ t x y ρ H K
@[congr] theorem wcopy_c {P d t s s' x x' ρ H K} (h:s=s') (h':x=x'):RI P d t s x ρ H K=RI P d t s' x' ρ H K:=h▸h'▸rfl
def Ct(P:Program)(d:Option Tmp)(t:TypeId)(x:AV)(ρ:Env)(H:aF)(K:Env→aF→Prop):Prop:=FC P ⟨d,.move (.tmp 0),0,"",#[],none⟩ t x ρ H K
@[congr] theorem wclear_c {P d t s s' ρ H K} (h:s=s'):Ct P d t s ρ H K=Ct P d t s' ρ H K:=h▸rfl
theorem Qe{P:Program}{d:Option Tmp}{t:TypeId}{x:AV}{ρ:Env}{H:aF}{K:Env→aF→Prop}{e:TypeId}{sz bytes j a n:Nat}{r:Row}{zs:List AV}(he:bX P t=some (e,sz,bytes))(hz:eI P e=some zs)(hj:H j=some r)
   (hx:(x=.os j∧a=0∧n=r.es.length)∨∃b,x=.oz j a b∧n=b-a) (h1:r.sz=sz) (h:K (upd ρ d .any) (aJ H j (some { r with es:=r.es.take a++List.replicate n zs++r.es.drop (a+n) }))):Ct P d t x ρ H K:=by
 unfold Ct FC;have ht:∀F:Nat→Nat→Nat→Row→Prop,F j a n r→KQ H x F:=by
   intro F hF;rcases hx with⟨rfl,rfl,rfl⟩|⟨b,rfl,rfl⟩
   · simp only[KQ,hj];exact hF
   · simp only[KQ,hj];exact hF
 refine ht _ ?_;simp only[he,hz];exact⟨h1,h⟩
theorem aN{H:aF}{r:Row}{F:Nat→aF→Prop}(h:∀j,H j=none→F j (aJ H j (some r))):nI H r F:=h
def aW{α:Type}(o:Option α)(f:α→Prop):Prop:=match o with|some x=>f x|none=>False
theorem BW{α:Type}{x:α}{f:α→Prop}:aW (some x) f=f x:=(rfl)
@[congr] theorem withO_c {α:Type} {o o':Option α} {f:α→Prop} (h:o=o'):aW o f=aW o' f:=h▸rfl
section
variable{P:Program}{C:kS}{PC:FuncId→List AV→aF→AV→Prop}{mt:Nat→Bool}{q:Bool}{ops:Array Oper}{d:Option Tmp}{ty:TypeId}{pos:String}{aft:Array Edge}{ρ:Env}{H:aF}{K:Env→aF→Prop}{G:Option Bool}{k:AV→Prop}
theorem Mj{t}:aev ρ (.tmp t)=ρ t:=(rfl)
theorem Fo{v}:aev ρ (.const v)=oB v:=(rfl)
theorem G5{f}:aev ρ (.func f)=.v (.func (.func f) #[] #[]):=(rfl)
theorem Ie{t n a b}:fM P G .add t (.v (.int n a)) (.v (.int n b)) k=k (.v (.int n (n.wrap (a+b)))):=by simp[fM,tI]
theorem Jy{t n a b}:fM P G .sub t (.v (.int n a)) (.v (.int n b)) k=k (.v (.int n (n.wrap (a-b)))):=by simp[fM,tI]
theorem IN{t n a b}:fM P G .mul t (.v (.int n a)) (.v (.int n b)) k=k (.v (.int n (n.wrap (a*b)))):=by simp[fM,tI]
theorem Hs{t n a b}:fM P G .quo t (.v (.int n a)) (.v (.int n b)) k=((gt G→b≠0)∧k (.v (.int n (n.wrap (a.tdiv b))))):=by simp[fM,tI]
theorem JQ{t n a b}:fM P G .rem t (.v (.int n a)) (.v (.int n b)) k=((gt G→b≠0)∧k (.v (.int n (a.tmod b)))):=by simp[fM,tI]
theorem Jc{t n a b}:fM P G .eql t (.v (.int n a)) (.v (.int n b)) k=k (.v (.bool (a == b))):=by simp[fM,tI]
theorem Ir{t n a b}:fM P G .neq t (.v (.int n a)) (.v (.int n b)) k=k (.v (.bool (a != b))):=by simp[fM,tI]
theorem G1{t n a b}:fM P G .lss t (.v (.int n a)) (.v (.int n b)) k=k (.v (.bool (decide (a<b)))):=by simp[fM,tI]
theorem HZ{t n a b}:fM P G .leq t (.v (.int n a)) (.v (.int n b)) k=k (.v (.bool (decide (a≤b)))):=by simp[fM,tI]
theorem IU{t n a b}:fM P G .gtr t (.v (.int n a)) (.v (.int n b)) k=k (.v (.bool (decide (a>b)))):=by simp[fM,tI]
theorem J7{t n a b}:fM P G .geq t (.v (.int n a)) (.v (.int n b)) k=k (.v (.bool (decide (a≥b)))):=by simp[fM,tI]
theorem Jk{t n m a b}:fM P G .shl t (.v (.int n a)) (.v (.int m b)) k=((gt G→0≤b)∧k (.v (.int n (shV .shl n a b)))):=by simp[fM,tI]
theorem Is{t n m a b}:fM P G .shr t (.v (.int n a)) (.v (.int m b)) k=((gt G→0≤b)∧k (.v (.int n (shV .shr n a b)))):=by simp[fM,tI]
theorem Il{t n a b}:fM P G .and t (.v (.int n a)) (.v (.int n b)) k=k (.v (.int n (mP .and n a b))):=by simp[fM,tI]
theorem Ny{t n a b}:fM P G .or t (.v (.int n a)) (.v (.int n b)) k=k (.v (.int n (mP .or n a b))):=by simp[fM,tI]
theorem Hq{t n a b}:fM P G .xor t (.v (.int n a)) (.v (.int n b)) k=k (.v (.int n (mP .xor n a b))):=by simp[fM,tI]
theorem AR{t n a b}:fM P G .andNot t (.v (.int n a)) (.v (.int n b)) k=k (.v (.int n (mP .andNot n a b))):=by simp[fM,tI]
theorem D3{op t x}:fM P G op t (.v x) .any k=((gt G→False)∧k .any):=by cases x <;> rfl
theorem Fc{op t x}:fM P G op t .any (.v x) k=((gt G→False)∧k .any):=by cases x <;> rfl
theorem D6{x}:rF false .any (.v x)=.v x:=by cases x <;> rfl
theorem B6{x}:rF true (.v x) .any=.v x:=by cases x with
 | bool b=>cases b <;> rfl
 | _=>rfl
theorem Ev{t a b}:fM P G .add t (.v (.string a)) (.v (.string b)) k=((gt G→((a.size+b.size:Nat):Int)≤IntKind.i64.max)∧k (.v (.string (a++b)))):=(rfl)
theorem EK{t a b}:fM P G .eql t (.v (.string a)) (.v (.string b)) k=k (.v (.bool (a.toList == b.toList))):=(rfl)
theorem Ez{t a b}:fM P G .neq t (.v (.string a)) (.v (.string b)) k=k (.v (.bool !(a.toList == b.toList))):=(rfl)
theorem EN{t a b}:fM P G .eql t (.v (.bool a)) (.v (.bool b)) k=if vK P t then k (.v (.bool (a == b)))else False:=(rfl)
theorem Fn{t a b}:fM P G .neq t (.v (.bool a)) (.v (.bool b)) k=if vK P t then k (.v (.bool !(a == b)))else False:=(rfl)
theorem DE{t x y}:fM P G .eql t (.agg x) (.agg y) k=aW (wP P t) fun l=>aW (gD l x y) fun b=>k (.v (.bool b)):=by
 cases h1:wP P t with
 | none=>simp[fM,aW,h1]
 | some l=>cases h2:gD l x y <;> simp[fM,aW,h1,h2]
theorem DN{t x y}:fM P G .neq t (.agg x) (.agg y) k=aW (wP P t) fun l=>aW (gD l x y) fun b=>k (.v (.bool !b)):=by
 cases h1:wP P t with
 | none=>simp[fM,aW,h1]
 | some l=>cases h2:gD l x y <;> simp[fM,aW,h1,h2]
theorem IC{c x y}:wG G c (.v x) (.v y) k=k (rF c (.v x) (.v y)):=(rfl)
theorem IP{c x g y}:wG G c (.v x) (.gd g y) k=((gt G→c=false→g=true)∧k (rF c (.v x) y)):=(rfl)
theorem JU{c g x y}:wG G c (.gd g x) (.v y) k=((gt G→c=true→g=true)∧k (rF c x (.v y))):=(rfl)
theorem NP{c b}:rF c (.v (.bool true)) (.v (.bool b))=.v (.bool (c||b)):=(rfl)
theorem ME{c a}:rF c (.v (.bool a)) (.v (.bool false))=.v (.bool (c&&a)):=by cases a <;> cases c <;> rfl
theorem DF{cs o}:mM G H none (.rp cs o) k=((gt G→o<cs.length)∧k (cs.getD o .any)):=(rfl)
theorem Em{cs o n}:mM G H (some n) (.rp cs o) k=((gt G→o+n≤cs.length)∧k (.agg ((cs.drop o).take n))):=(rfl)
theorem Eh{j i f}:mM G H none (.op j i f) k=aW (H j) fun r=>(gt G→i<r.es.length∧f<r.sz)∧k ((r.es.getD i []).getD f .any):=by
 cases h1:H j <;> simp[mM,aW,h1]
theorem Fa{j i f n}:mM G H (some n) (.op j i f) k=aW (H j) fun r=>(gt G→i<r.es.length∧f+n≤r.sz)∧k (.agg (((r.es.getD i []).drop f).take n)):=by
 cases h1:H j <;> simp[mM,aW,h1]
theorem Mn{o cs}:apart G o none (.agg cs) k=((gt G→o<cs.length)∧k (cs.getD o .any)):=(rfl)
theorem NM{o n cs}:apart G o (some n) (.agg cs) k=((gt G→o+n≤cs.length)∧k (.agg ((cs.drop o).take n))):=(rfl)
theorem NF{t es}:Dt P H t (.sl es) k=if cF P t then k (.v (.int .i64 es.length))else False:=(rfl)
theorem Nn{t j}:Dt P H t (.os j) k=aW (H j) fun r=>if cF P t then k (.v (.int .i64 r.es.length))else False:=by
 cases h1:H j <;> simp[Dt,aW,h1]
theorem M9{t s}:Dt P H t (.v (.string s)) k=if dH P t then k (.v (.int .i64 s.size))else False:=(rfl)
theorem wJ{t es n i}:eY P G H t (.sl es) (.v (.int n i)) k=aW (bX P t) fun e=>(gt G→(0≤i∧i<es.length)∧(es.getD i.toNat []).length=e.2.1)∧k (.rp (es.getD i.toNat []) 0):=by
 cases h1:bX P t <;> simp[eY,aW,h1]
theorem wD{t j n i}:eY P G H t (.os j) (.v (.int n i)) k=aW (H j) fun r=>aW (bX P t) fun e=>(gt G→(0≤i∧i<r.es.length)∧r.sz=e.2.1)∧k (.op j i.toNat 0):=by
 cases h1:H j <;> cases h2:bX P t <;> simp[eY,aW,h1,h2]
theorem wO{t cs o n i}:eY P G H t (.rp cs o) (.v (.int n i)) k=aW (qQ P t) fun e=>(gt G→0≤i∧i<e.1)∧k (.rp cs (o+i.toNat*e.2.1)):=by
 cases h1:qQ P t <;> simp[eY,aW,h1]
theorem wK{t j a o n i}:eY P G H t (.op j a o) (.v (.int n i)) k=aW (qQ P t) fun e=>(gt G→0≤i∧i<e.1)∧k (.op j a (o+i.toNat*e.2.1)):=by
 cases h1:qQ P t <;> simp[eY,aW,h1]
theorem wI{t f cs o}:iO P t f (.rp cs o) k=aW (aK P t f) fun e=>k (.rp cs (o+e.1)):=by
 cases h1:aK P t f <;> simp[iO,aW,h1]
theorem wN{t f j i o}:iO P t f (.op j i o) k=aW (aK P t f) fun e=>k (.op j i (o+e.1)):=by
 cases h1:aK P t f <;> simp[iO,aW,h1]
theorem Nm{b}:aun .not (.v (.bool b)) k=k (.v (.bool !b)):=(rfl)
theorem Nh{n i}:aun .neg (.v (.int n i)) k=k (.v (.int n (n.wrap (0-i)))):=(rfl)
theorem Er{s t n i}:tQ P s t (.v (.int n i)) k=aW (Cs P t) fun m=>aW (Cs P s) fun _=>k (.v (.int m (m.wrap i))):=by
 cases h1:Cs P t <;> cases h2:Cs P s <;> simp[tQ,aW,h1,h2]
theorem E6{s t x}:tQ P s t (.v (.string x)) k=if dH P s∧dH P t then k (.v (.string x))else False:=(rfl)
theorem JC{s t es}:tQ P s t (.sl es) k=if zM P s∧dH P t then aW (oF es) fun ns=>k (.v (.string (strOfNums ns)))else False:=by
 by_cases hc:zM P s∧dH P t
 · cases h1:oF es <;> simp[tQ,aW,hc,h1]
 · simp[tQ,hc]
theorem ES{t es n a m b}:kY P G t (.sl es) (some (.v (.int n a))) (some (.v (.int m b))) k=aW (bX P t) fun e=>(gt G→(0≤a∧a≤b∧b≤es.length)∧dP e.2.1 es)∧k (.sl ((es.take b.toNat).drop a.toNat)):=by
 cases h1:bX P t <;> simp[kY,aW,h1]
theorem JX{t es n a}:kY P G t (.sl es) (some (.v (.int n a))) none k=aW (bX P t) fun e=>(gt G→(0≤a∧a≤es.length)∧dP e.2.1 es)∧k (.sl (es.drop a.toNat)):=by
 cases h1:bX P t <;> simp[kY,aW,h1]
theorem J4{t es m b}:kY P G t (.sl es) none (some (.v (.int m b))) k=aW (bX P t) fun _=>(gt G→0≤b∧b≤es.length)∧k (.sl (es.take b.toNat)):=by
 cases h1:bX P t <;> simp[kY,aW,h1]
theorem Ce{t s n a m b}:kY P G t (.v (.string s)) (some (.v (.int n a))) (some (.v (.int m b))) k=if dH P t then(gt G→0≤a∧a≤b∧b≤s.size)∧k (.v (.string (s.extract a.toNat b.toNat)))else False:=(rfl)
theorem Fd{t s n a}:kY P G t (.v (.string s)) (some (.v (.int n a))) none k=if dH P t then(gt G→0≤a∧a≤s.size)∧k (.v (.string (s.extract a.toNat s.size)))else False:=(rfl)
theorem Eu{t s m b}:kY P G t (.v (.string s)) none (some (.v (.int m b))) k=if dH P t then(gt G→0≤b∧b≤s.size)∧k (.v (.string (s.extract 0 b.toNat)))else False:=(rfl)
theorem Ji{P:Program}{t es n m}{a b:Int}:AF P G t (.sl es) (.v (.int n a)) (.v (.int m b)) k=aW (bX P t) fun _=>(gt G→a=es.length∧b=es.length)∧k (.cl es):=by
 unfold AF aW;cases bX P t <;> rfl
@[congr] theorem aclip_c {P:Program} {t x x' a a' b b'} (h:x=x') (h1:a=a') (h2:b=b'):AF P G t x a b k=AF P G t x' a' b' k:=h▸h1▸h2▸rfl
theorem Ej{t s n i}:sP P G t (.v (.string s)) (.v (.int n i)) k=if dH P t then(gt G→0≤i∧i<s.size)∧k (.v (.int .u8 ((s.data.getD i.toNat 0).toNat:Int)))else False:=(rfl)
theorem ET{t cs n i}:sP P G t (.agg cs) (.v (.int n i)) k=aW (qQ P t) fun e=>(gt G→0≤i∧i<e.1)∧apart G (i.toNat*e.2.1) e.2.2 (.agg cs) k:=by
 cases h1:qQ P t <;> simp[sP,aW,h1]
theorem C7{cs}{k:List AV→Prop}:kX (.agg cs) k=k cs:=(rfl)
theorem IM{v}{k:List AV→Prop}:kX (.v v) k=(v.oneCell'=true∧k [.v v]):=(rfl)
theorem El{es}{k:List AV→Prop}:kX (.sl es) k=k [.sl es]:=(rfl)
theorem DJ{cs o}{k:List AV→Prop}:kX (.rp cs o) k=k [.rp cs o]:=(rfl)
theorem Fh{j}{k:List AV→Prop}:kX (.os j) k=k [.os j]:=(rfl)
theorem DT{j i f}{k:List AV→Prop}:kX (.op j i f) k=k [.op j i f]:=(rfl)
theorem EZ{t l}:tE P t l k=aW (eI P t) fun z=>aW (fI P t) fun pl=>aW (oM pl z l) fun cs=>k (.agg cs):=by
 cases h1:eI P t with
 | none=>simp[tE,aW,h1]
 | some z=>cases h2:fI P t with
   | none=>simp[tE,aW,h1,h2]
   | some pl=>cases h3:oM pl z l <;> simp[tE,aW,h1,h2,h3]
def wgd(x:AV)(w:Bool)(F:Option Bool→Prop):Prop:=match x with
 | .v (.bool b)=>F (some (b == w))
 | .gd g (.v (.bool b))=>F (some (g&&(b == w)))
 | _=>False
@[congr] theorem wgd_c {x x' w F} (h:x=x'):wgd x w F=wgd x' w F:=h▸rfl
theorem V4{b w F}:wgd (.v (.bool b)) w F=F (some (b == w)):=(rfl)
theorem VZ{g b w F}:wgd (.gd g (.v (.bool b))) w F=F (some (g&&(b == w))):=(rfl)
theorem AS{F}:bZ ops ρ none F=F none:=(rfl)
theorem AC{j w F}:bZ ops ρ (some (j,w)) F=aW ((ops[j]?).bind (·.dst)) fun t=>wgd (ρ t) w F:=by
 cases h1:(ops[j]?).bind (·.dst)with
 | none=>simp[bZ,aW,h1]
 | some t=>simp only[bZ,aW,h1,wgd]
def kJ(K:Env→aF→Prop)(ρ:Env)(d:Option Tmp)(G:Option Bool)(H:aF)(x:AV):Prop:=K (upd ρ d (wr G x)) H
theorem Ea{x}:kJ K ρ d none H x=K (upd ρ d x) H:=(rfl)
theorem Ff{b x}:kJ K ρ d (some b) H x=K (upd ρ d (.gd b x)) H:=(rfl)
end
section
variable{P:Program}{C:kS}{PC:FuncId→List AV→aF→AV→Prop}{mt:Nat→Bool}{q:Bool}{ops:Array Oper}{d:Option Tmp}{ty:TypeId}{pos:String}{aft:Array Edge}{gd:Option (Nat×Bool)}{ρ:Env}{H:aF}{K:Env→aF→Prop}
theorem PI{x}:aop P C PC mt q ops ⟨d,.move x,ty,pos,aft,gd⟩ ρ H K=bZ ops ρ gd fun G=>if tN mt d=true then G=none∧q=false∧vQ x ρ d H K else bH G (aev ρ x) (kJ K ρ d G H):=(rfl)
theorem Q0{c a b}:aop P C PC mt q ops ⟨d,.pick c a b,ty,pos,aft,gd⟩ ρ H K=bZ ops ρ gd fun G=>bH G (aev ρ c) fun x=>wpick G x (aev ρ a) (aev ρ b) (kJ K ρ d G H):=(rfl)
theorem Pb{t l}: aop P C PC mt q ops ⟨d, .build t l, ty, pos, aft, gd⟩ ρ H K = bZ ops ρ gd fun G => if tN mt d = true then G = none ∧ (if q = true then mY none ρ l.toList (fun l => aW (eI P t) fun z => aW (fI P t) fun pl => aW (oN P t) fun nl => aW (oM pl (Ed nl z) l) fun cs => kJ K ρ d none H (.agg cs)) else
     mY none ρ l.toList (fun l=>aW (eI P t) fun z=>aW (fI P t) fun pl=>aW (oN P t) fun nl=>jJ nl z H fun z H=>aW (oM pl z l) fun cs=>kJ K ρ d none H (.agg cs)))
   else mY G ρ l.toList fun l=>tE P t l (kJ K ρ d G H):=by
 show bZ ops ρ gd (fun G=>if tN mt d=true then G=none∧(if q=true then vW P ⟨d,.build t l,ty,pos,aft,gd⟩ t l.toList ρ H K else yT P ⟨d,.build t l,ty,pos,aft,gd⟩ t l.toList ρ H K)else _)=_
 congr 1;funext G;congr 3
 · unfold vW
   congr 1;funext l
   cases h1:eI P t with
   | none=>simp[aW]
   | some z=>cases h2:fI P t with
     | none=>simp[aW]
     | some pl=>cases h3:oN P t with
       | none=>simp[aW]
       | some nl=>simp only[aW];cases h4:oM pl (Ed nl z) l <;> rfl
 unfold yT
 congr 1;funext l
 cases h1:eI P t with
 | none=>simp[aW]
 | some z=>cases h2:fI P t with
   | none=>simp[aW]
   | some pl=>cases h3:oN P t with
     | none=>simp[aW]
     | some nl=>simp only[aW];congr 1;funext z H;cases h4:oM pl z l <;> rfl
theorem Tj{t x}:aop P C PC mt q ops ⟨d,.load t x,ty,pos,aft,gd⟩ ρ H K=bZ ops ρ gd fun G=>if tN mt d=true then G=none∧q=false∧aW (ldT P t) fun l=>bH none (aev ρ x) fun y=>mM none H l y fun z=>Fi z ρ d H K else aW (ldT P t) fun l=>bH G (aev ρ x) fun y=>mM G H l y (kJ K ρ d G H):=by
 show bZ ops ρ gd (fun G=>if tN mt d=true then G=none∧q=false∧fX P none ρ H (.load t x) fun z=>Fi z ρ d H K else fX P G ρ H (.load t x) (kJ K ρ d G H))=_
 congr 1;funext G;cases h1:ldT P t <;> simp[fX,aW,h1]
theorem Gc{x}:aop P C PC mt q ops ⟨d,.nilCheck x,ty,pos,aft,gd⟩ ρ H K=bZ ops ρ gd fun G=>bH G (aev ρ x) fun y=>PQ y (kJ K ρ d G H):=(rfl)
theorem TF{op t x y t'}:aop P C PC mt q ops ⟨d,.binOp op t x y t',ty,pos,aft,gd⟩ ρ H K=bZ ops ρ gd fun G=>if pL y=true then bH G (aev ρ x) fun x=>cF P t=true∧oI op x (kJ K ρ d G H)else bH G (aev ρ x) fun x=>bH G (aev ρ y) fun y=>fM P G op t x y (kJ K ρ d G H):=(rfl)
theorem Wp{op t x}:aop P C PC mt q ops ⟨d,.unOp op t x,ty,pos,aft,gd⟩ ρ H K=bZ ops ρ gd fun G=>bH G (aev ρ x) fun x=>aun op x (kJ K ρ d G H):=(rfl)
theorem PY{s t x}:aop P C PC mt q ops ⟨d,.convert s t x,ty,pos,aft,gd⟩ ρ H K=bZ ops ρ gd fun G=>bH G (aev ρ x) fun x=>tQ P s t x (kJ K ρ d G H):=(rfl)
theorem FO{t x lo hi}:aop P C PC mt q ops ⟨d,.slice t x (some lo) (some hi) none,ty,pos,aft,gd⟩ ρ H K=bZ ops ρ gd fun G=>bH G (aev ρ x) fun x=>bH G (aev ρ lo) fun lo=>bH G (aev ρ hi) fun hi=>asl P G H t x (some lo) (some hi) (kJ K ρ d G H):=(rfl)
theorem Jm{t x hi m}:aop P C PC mt q ops ⟨d,.slice t x none (some hi) (some m),ty,pos,aft,gd⟩ ρ H K=bZ ops ρ gd fun G=>bH G (aev ρ x) fun x=>bH G (aev ρ hi) fun hi=>bH G (aev ρ m) fun m=>AF P G t x hi m (kJ K ρ d G H):=(rfl)
theorem Iu{t x lo}:aop P C PC mt q ops ⟨d,.slice t x (some lo) none none,ty,pos,aft,gd⟩ ρ H K=bZ ops ρ gd fun G=>bH G (aev ρ x) fun x=>bH G (aev ρ lo) fun lo=>asl P G H t x (some lo) none (kJ K ρ d G H):=(rfl)
theorem Iq{t x hi}:aop P C PC mt q ops ⟨d,.slice t x none (some hi) none,ty,pos,aft,gd⟩ ρ H K=bZ ops ρ gd fun G=>bH G (aev ρ x) fun x=>bH G (aev ρ hi) fun hi=>asl P G H t x none (some hi) (kJ K ρ d G H):=(rfl)
theorem Dk{t x f}:aop P C PC mt q ops ⟨d,.fieldAddr t x f,ty,pos,aft,gd⟩ ρ H K=bZ ops ρ gd fun G=>bH G (aev ρ x) fun x=>iO P t f x (kJ K ρ d G H):=(rfl)
theorem OE{t x f}:aop P C PC mt q ops ⟨d,.field t x f,ty,pos,aft,gd⟩ ρ H K=bZ ops ρ gd fun G=>aW (aK P t f) fun e=>bH G (aev ρ x) fun x=>apart G e.1 e.2 x (kJ K ρ d G H):=by
 show bZ ops ρ gd (fun G=>fX P G ρ H (.field t x f) (kJ K ρ d G H))=_
 congr 1;funext G;cases h1:aK P t f <;> simp[fX,aW,h1]
theorem Dy{t x i}:aop P C PC mt q ops ⟨d,.indexAddr t x i,ty,pos,aft,gd⟩ ρ H K=bZ ops ρ gd fun G=>bH G (aev ρ x) fun x=>bH G (aev ρ i) fun i=>eY P G H t x i (kJ K ρ d G H):=(rfl)
theorem OH{t x i}:aop P C PC mt q ops ⟨d,.index t x i,ty,pos,aft,gd⟩ ρ H K=bZ ops ρ gd fun G=>bH G (aev ρ x) fun x=>bH G (aev ρ i) fun i=>sP P G t x i (kJ K ρ d G H):=(rfl)
theorem IY{x i}:aop P C PC mt q ops ⟨d,.extract x i,ty,pos,aft,gd⟩ ρ H K=bZ ops ρ gd fun G=>bH G (aev ρ x) fun x=>VH G x i (kJ K ρ d G H):=(rfl)
theorem Kv{x}:aop P C PC mt q ops ⟨d,.assign x,ty,pos,aft,gd⟩ ρ H K=bZ ops ρ gd fun G=>if tN mt d=true∧G=none∧q=false∧pL x=true then aW (bX P ty) fun e=>nI H ⟨e.1,e.2.1,[]⟩ (NE K ρ d)else bH G (aev ρ x) (kJ K ρ d G H):=by
 show bZ ops ρ gd (fun G=>yD P mt q G ⟨d,.assign x,ty,pos,aft,gd⟩ x ρ H K)=_
 congr 1;funext G
 unfold yD;cases h1:bX P ty <;> rfl
theorem Px{t}:aop P C PC mt q ops ⟨d,.alloc t,ty,pos,aft,gd⟩ ρ H K=bZ ops ρ gd fun G=>aW (eI P t) fun z=>G=none∧q=false∧(if tN mt d=true then aW (oN P t) fun nl=>jJ nl z H fun z H=>nI H ⟨t,z.length,[z]⟩ (Nt K ρ d)else nI H ⟨t,z.length,[z]⟩ (Nt K ρ d)):=by
 show bZ ops ρ gd (fun G=>match eI P t with
   | some z => G = none ∧ q = false ∧ (if tN mt d = true then match oN P t with
       | some nl=>jJ nl z H fun z H=>nI H ⟨t,z.length,[z]⟩ fun k H'=>K (upd ρ d (.op k 0 0)) H'
       | none=>False
     else nI H ⟨t,z.length,[z]⟩ fun k H'=>K (upd ρ d (.op k 0 0)) H')
   | none=>False)=_
 congr 1;funext G;cases h1:eI P t <;> cases h2:oN P t <;> rfl
theorem Vy{t x}:aop P C PC mt q ops ⟨d,.box t x,ty,pos,aft,gd⟩ ρ H K=bZ ops ρ gd fun G=>G=none∧q=false∧bH G (aev ρ x) fun x=>kX x fun cs=>
 if tN mt d=true then 0<cs.length∧nI H ⟨t,cs.length,[cs]⟩ (Nt K ρ d)else K (upd ρ d (.rp cs 0)) H:=(rfl)
theorem CX{t n l}:aop P C PC mt q ops ⟨d,.buildSlice t n l,ty,pos,aft,gd⟩ ρ H K=bZ ops ρ gd fun G=>q=false∧mY G ρ l.toList fun l=>aW (bX P t) fun e=>
   (l.map (·.1)=FV 0 n∧dP e.2.1 (l.map (·.2))∧n*e.2.1≤16777216)∧(if tN mt d=true∧G=none then nI H ⟨e.1,e.2.1,l.map (·.2)⟩ (NE K ρ d)else kJ K ρ d G H (.sl (l.map (·.2)))):=by
 show bZ ops ρ gd (fun G=>q=false∧mY G ρ l.toList fun l'=>lU P mt G ⟨d,.buildSlice t n l,ty,pos,aft,gd⟩ t n l' ρ H K)=_
 congr 1;funext G;congr 2;funext l;unfold lU;cases h1:bX P t <;> rfl
theorem Po{t x y}:aop P C PC mt q ops ⟨d,.store t x y,ty,pos,aft,gd⟩ ρ H K=bZ ops ρ gd fun G=>G=none∧q=false∧(if pL y=true then bH G (aev ρ x) fun x=>aW (bX P t) fun e=>nI H ⟨e.1,e.2.1,[]⟩ (fun j H=>Ou P d t x [.os j] ρ H K)else bH G (aev ρ x) fun x=>bH G (aev ρ y) fun y=>kX y fun cs=>Ou P d t x cs ρ H K):=by
 show bZ ops ρ gd (fun G => G = none ∧ q = false ∧ (if pL y = true then bH G (aev ρ x) fun a => match bX P t with
       | some (e,sz,_)=>nI H ⟨e,sz,[]⟩ fun k H=>qN P _ t a [.os k] ρ H K
       | none=>False
     else bH G (aev ρ x) fun a=>bH G (aev ρ y) fun x=>kX x fun cs=>qN P _ t a cs ρ H K))=_
 congr 1;funext G;congr 4;funext a
 cases h1:bX P t <;> rfl
theorem P3:uR P C PC mt ops K [] ρ H=K ρ H:=(rfl)
theorem WI{k f}:uR P C PC mt ops K ((k,true)::f) ρ H=aW ops[k]? fun o=>aop P C PC mt true ops o ρ (qH o H) fun ρ' _=>uR P C PC mt ops K f ρ' H:=by
 cases h:ops[k]? <;> simp[uR,aW,h]
theorem WQ{k f}:uR P C PC mt ops K ((k,false)::f) ρ H=aW ops[k]? fun o=>aop P C PC mt false ops o ρ H (uR P C PC mt ops K f):=by
 cases h:ops[k]? <;> simp[uR,aW,h]
theorem O0{Hp}:nT P C PC mt ops K Hp [] ρ H=K ρ H:=(rfl)
theorem Vf{Hp k f}:nT P C PC mt ops K Hp ((k,true)::f) ρ H=aW ops[k]? fun o=>aop P C PC mt true ops o ρ Hp fun ρ' _=>nT P C PC mt ops K Hp f ρ' H:=by
 cases h:ops[k]? <;> simp[nT,aW,h]
theorem Uq{Hp k f}:nT P C PC mt ops K Hp ((k,false)::f) ρ H=aW ops[k]? fun o=>aop P C PC mt false ops o ρ H (nT P C PC mt ops K Hp f):=by
 cases h:ops[k]? <;> simp[nT,aW,h]
theorem XG{k}:xF P C PC mt q ops k ρ H K=aW ops[k]? fun o=>aop P C PC mt q ops o ρ H K:=by
 cases h:ops[k]? <;> simp[xF,aW,h]
theorem NR{Hp}:lQ P C PC mt ops K Hp .nil ρ H=K ρ H:=(rfl)
theorem TN{Hp k t}:lQ P C PC mt ops K Hp (.q k t) ρ H=xF P C PC mt true ops k ρ Hp fun ρ' _=>lQ P C PC mt ops K Hp t ρ' H:=(rfl)
theorem UF{Hp k t}:lQ P C PC mt ops K Hp (.a1 k t) ρ H=xF P C PC mt false ops k ρ H (lQ P C PC mt ops K Hp t):=(rfl)
theorem yJ{Hp k t k' t'}(h:xF P C PC mt false ops k ρ H (lQ P C PC mt ops K Hp t))(h':xF P C PC mt false ops k' ρ H (lQ P C PC mt ops K Hp t')):lQ P C PC mt ops K Hp (.a2 k t k' t') ρ H:=⟨h,h'⟩
theorem GX{f cap}:aop P C PC mt q ops ⟨d,.makeFunc (.func f) #[] cap,ty,pos,aft,gd⟩ ρ H K=bZ ops ρ gd fun G=>wM G ρ cap.toList fun l=>kJ K ρ d G H (.fn f l):=by
 show bZ ops ρ gd (fun G=>fX P G ρ H (.makeFunc (.func f) #[] cap) (kJ K ρ d G H))=_
 congr 1;funext G;simp[fX]
def VM(K:Env→aF→Prop)(ρ:Env)(d:Option Tmp)(j:Nat)(H:aF):Prop:=K (upd ρ d (.om j)) H
theorem Jd{j}:VM K ρ d j H=K (upd ρ d (.om j)) H:=(rfl)
theorem Lt{t x i ok}:aop P C PC mt q ops ⟨d,.lookup t x i ok,ty,pos,aft,gd⟩ ρ H K=bZ ops ρ gd fun G=>bH G (aev ρ x) fun x=>bH G (aev ρ i) fun i=>vS P H t x i ok (kJ K ρ d G H):=(rfl)
theorem I1{t}:aop P C PC mt q ops ⟨d,.makeMap t none,ty,pos,aft,gd⟩ ρ H K=bZ ops ρ gd fun G=>G=none∧q=false∧nI H ⟨0,2,[]⟩ (VM K ρ d):=(rfl)
def Nw(P:Program)(d:Option Tmp)(t:TypeId)(m x v:AV)(ρ:Env)(H:aF)(K:Env→aF→Prop):Prop:=lH P ⟨d,.move (.tmp 0),0,"",#[],none⟩ t m x v ρ H K
@[congr] theorem wmapU_c {P d t m m' x x' v v' ρ H K} (h0:m=m') (h1:x=x') (h2:v=v'):Nw P d t m x v ρ H K=Nw P d t m' x' v' ρ H K:=h0▸h1▸h2▸rfl
def RG(P:Program)(d:Option Tmp)(t:TypeId)(m x:AV)(ρ:Env)(H:aF)(K:Env→aF→Prop):Prop:=vO P ⟨d,.move (.tmp 0),0,"",#[],none⟩ t m x ρ H K
@[congr] theorem wmapE_c {P d t m m' x x' ρ H K} (h0:m=m') (h1:x=x'):RG P d t m x ρ H K=RG P d t m' x' ρ H K:=h0▸h1▸rfl
def RQ(d:Option Tmp)(m s v:AV)(ρ:Env)(H:aF)(K:Env→aF→Prop):Prop:=qJ ⟨d,.move (.tmp 0),0,"",#[],none⟩ m s v ρ H K
@[congr] theorem wmapS_c {d m m' x x' v v' ρ H K} (h0:m=m') (h1:x=x') (h2:v=v'):RQ d m x v ρ H K=RQ d m' x' v' ρ H K:=h0▸h1▸h2▸rfl
@[congr] theorem alookup_c {P H t x x' i i' ok k} (h0:x=x') (h1:i=i'):vS P H t x i ok k=vS P H t x' i' ok k:=h0▸h1▸rfl
theorem Dh{t m x v}:aop P C PC mt q ops ⟨d,.mapUpdate t m x v,ty,pos,aft,gd⟩ ρ H K=bZ ops ρ gd fun G=>G=none∧q=false∧bH G (aev ρ m) fun m=>bH G (aev ρ x) fun x=>bH G (aev ρ v) fun v=>Nw P d t m x v ρ H K:=(rfl)
theorem KJ{t m x v}:aop P C PC mt q ops ⟨d,.insert t m x v,ty,pos,aft,gd⟩ ρ H K=bZ ops ρ gd fun G=>G=none∧q=false∧bH G (aev ρ m) fun m=>bH G (aev ρ x) fun x=>bH G (aev ρ v) fun v=>Nw P d t m x v ρ H K:=(rfl)
theorem Gk{t m x}:aop P C PC mt q ops ⟨d,.mapEntry t m x,ty,pos,aft,gd⟩ ρ H K=bZ ops ρ gd fun G=>G=none∧q=false∧bH G (aev ρ m) fun m=>bH G (aev ρ x) fun x=>RG P d t m x ρ H K:=(rfl)
theorem Ci{t m s v}:aop P C PC mt q ops ⟨d,.entryStore t m s v,ty,pos,aft,gd⟩ ρ H K=bZ ops ρ gd fun G=>G=none∧q=false∧bH G (aev ρ m) fun m=>bH G (aev ρ s) fun s=>bH G (aev ρ v) fun v=>RQ d m s v ρ H K:=(rfl)
theorem Di{t l c}:aop P C PC mt q ops ⟨d,.makeSlice t l c,ty,pos,aft,gd⟩ ρ H K=bZ ops ρ gd fun G=>G=none∧q=false∧bH G (aev ρ l) fun l=>bH G (aev ρ c) fun c=>JE P d t l c ρ H K:=(rfl)
theorem Pq{t args tys}:aop P C PC mt q ops ⟨d,.call ⟨.value (.tmp t),args,tys⟩,ty,pos,aft,gd⟩ ρ H K=bZ ops ρ gd fun G=>bH G (ρ t) fun x=>aW (Ju x) fun y=>wM G ρ args.toList fun l=>
   aC P y.1=true∧(if G=none∧q=false then C y.1 (y.2.1++l++y.2.2) H (QM K ρ d)else ∃r,(gt G→PC y.1 (y.2.1++l++y.2.2) H r)∧nfq q r (kJ K ρ d G H)):=by
 show bZ ops ρ gd (fun G=>yW P C PC q G ⟨d,.call ⟨.value (.tmp t),args,tys⟩,ty,pos,aft,gd⟩ ⟨.value (.tmp t),args,tys⟩ ρ H K)=_
 congr 1;funext G
 simp only[yW,aev]
 congr 1;funext x
 cases h:Ju x with
 | none=>simp[aW]
 | some y=>obtain⟨a,b,c⟩:=y;rfl
theorem Si{f args tys}:aop P C PC mt q ops ⟨d,.call ⟨.value (.func f),args,tys⟩,ty,pos,aft,gd⟩ ρ H K=bZ ops ρ gd fun G=>wM G ρ args.toList fun l=>
   aC P f=true∧(if G=none∧q=false then C f l H (QM K ρ d)else ∃r,(gt G→PC f l H r)∧nfq q r (kJ K ρ d G H)):=by
 show bZ ops ρ gd (fun G=>yW P C PC q G ⟨d,.call ⟨.value (.func f),args,tys⟩,ty,pos,aft,gd⟩ ⟨.value (.func f),args,tys⟩ ρ H K)=_
 congr 1;funext G
 simp only[yW,aev,bH,Ju,List.map_nil,List.nil_append,List.append_nil];rfl
theorem U7{x t}:aop P C PC mt q ops ⟨d,.call ⟨.builtin .len,#[x],#[t]⟩,ty,pos,aft,gd⟩ ρ H K=bZ ops ρ gd fun G=>bH G (aev ρ x) fun x=>Dt P H t x (kJ K ρ d G H):=(rfl)
theorem UG{x y t t'}:aop P C PC mt q ops ⟨d,.call ⟨.builtin .max,#[x,y],#[t,t']⟩,ty,pos,aft,gd⟩ ρ H K=bZ ops ρ gd fun G=>bH G (aev ρ x) fun x=>bH G (aev ρ y) fun y=>Lp x y (kJ K ρ d G H):=(rfl)
theorem TE{x y t t'}:aop P C PC mt q ops ⟨d,.call ⟨.builtin .min,#[x,y],#[t,t']⟩,ty,pos,aft,gd⟩ ρ H K=bZ ops ρ gd fun G=>bH G (aev ρ x) fun x=>bH G (aev ρ y) fun y=>KN x y (kJ K ρ d G H):=(rfl)
theorem Qu{n m a b}{k:AV→Prop}:Lp (.v (.int n a)) (.v (.int m b)) k=k (.v (.int n (kE a b))):=(rfl)
theorem Re{n m a b}{k:AV→Prop}:KN (.v (.int n a)) (.v (.int m b)) k=k (.v (.int n (tV a b))):=(rfl)
theorem Tr{x y t t'}:aop P C PC mt q ops ⟨d,.call ⟨.builtin .copy,#[x,y],#[t,t']⟩,ty,pos,aft,gd⟩ ρ H K=bZ ops ρ gd fun G=>bH G (aev ρ x) fun x=>bH G (aev ρ y) fun y=>
 if G=none∧q=false then RI P d t x y ρ H K else False:=(rfl)
theorem N0{x t}:aop P C PC mt q ops ⟨d,.call ⟨.builtin .clear,#[x],#[t]⟩,ty,pos,aft,gd⟩ ρ H K=bZ ops ρ gd fun G=>bH G (aev ρ x) fun x=>
 if G=none∧q=false then Ct P d t x ρ H K else False:=(rfl)
theorem PW{G:Option Bool}{k:AV→Prop}{t es lo hi}:asl P G H t (.sl es) lo hi k=kY P G t (.sl es) lo hi k:=(rfl)
theorem VW{G:Option Bool}{k:AV→Prop}{t v lo hi}:asl P G H t (.v v) lo hi k=kY P G t (.v v) lo hi k:=(rfl)
theorem Ta{G:Option Bool}{k:AV→Prop}{t j n a m b}:asl P G H t (.os j) (some (.v (.int n a))) (some (.v (.int m b))) k=aW (H j) fun r=>aW (bX P t) fun e=>(gt G→(0≤a∧a≤b∧b≤r.es.length)∧r.sz=e.2.1)∧k (.oz j a.toNat b.toNat):=by
 cases h1:H j <;> cases h2:bX P t <;> simp[asl,aW,h1,h2]
theorem VV{G:Option Bool}{k:AV→Prop}{t j n a}:asl P G H t (.os j) (some (.v (.int n a))) none k=aW (H j) fun r=>aW (bX P t) fun e=>(gt G→(0≤a∧a≤r.es.length)∧r.sz=e.2.1)∧k (.oz j a.toNat r.es.length):=by
 cases h1:H j <;> cases h2:bX P t <;> simp[asl,aW,h1,h2]
theorem VU{G:Option Bool}{k:AV→Prop}{t j m b}:asl P G H t (.os j) none (some (.v (.int m b))) k=aW (H j) fun r=>aW (bX P t) fun e=>(gt G→(0≤b∧b≤r.es.length)∧r.sz=e.2.1)∧k (.oz j 0 b.toNat):=by
 cases h1:H j <;> cases h2:bX P t <;> simp[asl,aW,h1,h2]
theorem HY{k:AV→Prop}{es}:oI .eql (.sl es) k=((es=[]→k (.v (.bool true)))∧k (.v (.bool false))):=(rfl)
theorem JT{k:AV→Prop}{es}:oI .neq (.sl es) k=((es=[]→k (.v (.bool false)))∧k (.v (.bool true))):=(rfl)
theorem EO{k:AV→Prop}{j}:oI .eql (.os j) k=(k (.v (.bool true))∧k (.v (.bool false))):=(rfl)
theorem DX{k:AV→Prop}:oI .eql (.v (.slice none 0 0)) k=k (.v (.bool true)):=(rfl)
theorem DV{k:AV→Prop}:oI .neq (.v (.slice none 0 0)) k=k (.v (.bool false)):=(rfl)
theorem D9{k:AV→Prop}{j}:oI .neq (.os j) k=(k (.v (.bool false))∧k (.v (.bool true))):=(rfl)
theorem K8{s x t t'}:aop P C PC mt q ops ⟨d,.call ⟨.builtin .append,#[s,x],#[t,t']⟩,ty,pos,aft,gd⟩ ρ H K=bZ ops ρ gd fun G=>bH G (aev ρ s) fun s=>bH G (aev ρ x) fun x=>
 if t=t'∧G=none∧q=false then Su P d t s x ρ H K else False:=(rfl)
end
section
variable{P:Program}{d:Option Tmp}{ρ:Env}{H:aF}{K:Env→aF→Prop}
theorem MP{t n a m b}:JE P d t (.v (.int n a)) (.v (.int m b)) ρ H K=aW (bX P t) fun e=>aW (eI P e.1) fun z=>((0≤a∧a≤b)∧(e.2.2:Int)*b≤140737488355328)∧nI H ⟨e.1,e.2.1,List.replicate a.toNat z⟩ (NE K ρ d):=by
 unfold JE pE;cases h1:bX P t with
 | none=>simp[aW]
 | some e=>obtain⟨x,y,z⟩:=e;cases h2:eI P x <;> simp[aW,h2] <;> intros <;> rfl
theorem Wd{f first captured}:Ju (.v (.func (.func f) first captured))=some (f,first.toList.map .v,captured.toList.map .v):=(rfl)
theorem V0{q x}{k:AV→Prop}:nfq q (.v x) k=k (.v x):=by cases q <;> rfl
theorem MH{q x}{k:AV→Prop}:nfq q (.agg x) k=k (.agg x):=by cases q <;> rfl
theorem MD{q x}{k:AV→Prop}:nfq q (.tup x) k=k (.tup x):=by cases q <;> rfl
theorem Ti{x}{k:AV→Prop}:nfq false (.nf x) k=k x:=(rfl)
theorem Up{f l}:Ju (.fn f l)=some (f,[],l):=(rfl)
end
attribute [go_sem ↓] D3 Fc D6 B6
attribute [go_sem] D3 Fc D6 B6
@[congr] theorem asl_c {P G H t x x' lo lo' hi hi' k} (h:x=x') (h1:lo=lo') (h2:hi=hi'):asl P G H t x lo hi k=asl P G H t x' lo' hi' k:=h▸h1▸h2▸rfl
@[congr] theorem aeqNil_c {op x x' k} (h:x=x'):oI op x k=oI op x' k:=h▸rfl
theorem F8{α:Type}{a:α}{l r:List α}:List.append (a::l) r=a::List.append l r:=(rfl)
theorem J8{α:Type}{r:List α}:List.append [] r=r:=(rfl)
attribute [go_sem] F8 J8
attribute [go_sem] qH
@[congr] theorem amax_c {x x' y y' K} (h:x=x') (h':y=y'):Lp x y K=Lp x' y' K:=h▸h'▸rfl
@[congr] theorem amin_c {x x' y y' K} (h:x=x') (h':y=y'):KN x y K=KN x' y' K:=h▸h'▸rfl
attribute [go_sem ↓] UG TE Qu Re
attribute [go_sem] Qu Re
@[congr] theorem pinEnd_c {l l' H K ρ H'} (h:l=l'):mO l H K ρ H'=mO l' H K ρ H':=h▸rfl
attribute [go_sem] Ed List.set_cons_zero List.set_cons_succ
attribute [go_sem ↓] NR TN UF XG
attribute [go_sem ↓] O0 Vf Uq
attribute [go_sem ↓] P3 WI WQ Tr N0 PW VW Ta VV VU HY JT EO D9 DX DV
attribute [go_sem] PW VW Ta VV VU HY JT EO D9 DX DV
attribute [go_sem ↓] V0 MH MD Ti
attribute [go_sem ↓] Lt I1 Dh KJ Gk Ci MW Jd
attribute [go_sem] MW Jd
attribute [go_sem] V0 MH MD Ti
attribute [go_sem ↓] GX Di Pq MP Jk Is Il Ny Hq AR Nx M6 MJ Ji Jm
attribute [go_sem] MP Jk Is Il Ny Hq AR Nx M6 MJ Ji Wd Up
attribute [go_sem] MM VQ
@[congr] theorem ownNils_c {l l' z z' H K} (h:l=l') (h':z=z'):jJ l z H K=jJ l' z' H K:=h▸h'▸rfl
theorem JD{z H K}:jJ [] z H K=K z H:=(rfl)
theorem Gx{o e sz r z H K}:jJ ((o,e,sz)::r) z H K=nI H ⟨e,sz,[]⟩ fun k H'=>jJ r (z.set o (.os k)) H' K:=(rfl)
attribute [go_sem ↓] JD Gx
attribute [go_sem ↓] SB BC Kj MN Jl Fj Fs Pn Ij S9 U2 QC N7 Ks PX Vv Kx NJ IB NT
attribute [go_sem ↓] wM mY PI Q0 Pb Tj Gc TF Wp PY FO Iu Iq Dk OE Dy OH IY Kv Px Vy CX Po Si U7 K8
attribute [go_sem ↓] NG Mq MC MO Ie Jy IN Hs JQ Jc Ir G1 HZ IU J7 Ev EK Ez EN Fn DE DN IC IP JU NP ME DF Em Eh Fa Mn NM NF Nn M9 wJ wD wO wK wI wN Nm Nh Er E6 JC ES JX J4 Ce Fd Eu Ej ET C7 IM El DJ Fh DT EZ V4 VZ AS AC RB Jp Mm Ml Ig G6 Nq MV Nk BW Ea Ff HK J9 JB Mj Fo G5
attribute [go_sem] NG Mq MC MO Ie Jy IN Hs JQ Jc Ir G1 HZ IU J7 Ev EK Ez EN Fn DE DN IC IP JU NP ME DF Em Eh Fa Mn NM NF Nn M9 wJ wD wO wK wI wN Nm Nh Er E6 JC ES JX J4 Ce Fd Eu Ej ET C7 IM El DJ Fh DT EZ V4 VZ AS AC RB Jp Mm Ml Ig G6 Nq MV Nk BW Ea Ff HK J9 JB Mj Fo G5
attribute [go_sem] W8 Qp tN pL oB JH gt gok wr uM gD IZ Value.oneCell' FV dP oF Option.map_some oM mS aB
attribute [go_sem] Bool.false_eq_true if_false if_true reduceCtorEq true_and and_true false_and and_false false_implies true_implies implies_true forall_const and_self imp_self ne_eq not_true_eq_false not_false_eq_true
attribute [go_sem] List.getD_cons_zero List.getD_cons_succ List.getD_nil List.length_cons List.length_nil List.drop_zero List.drop_succ_cons List.take_succ_cons List.take_zero Option.getD_some Option.getD_none Nat.zero_add Nat.add_zero List.map_cons List.map_nil List.cons_append List.nil_append List.append_nil
attribute [go_sem] Option.bind_some List.getElem?_toArray List.getElem?_cons_zero List.getElem?_cons_succ
attribute [go_sem ↓] reduceIte
attribute [go_sem] Nat.reduceEqDiff Nat.reduceAdd Nat.reduceMul Nat.reduceSub Nat.reduceLT Nat.reduceLeDiff Nat.reduceBEq
end Go.Aw
