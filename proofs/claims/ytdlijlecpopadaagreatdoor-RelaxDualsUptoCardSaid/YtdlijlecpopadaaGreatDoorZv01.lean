/- Texts joined by a program: AwCore. -/
import Derived.StillTail
import Derived.WalkKit
import Derived.Deep.Quiet
import Derived.Deep.QuietTactic
import Derived.Maps.AppendAt
import Derived.Laws.BytesArg
set_option linter.unusedSimpArgs false
set_option linter.unusedVariables false
set_option maxRecDepth 100000
namespace Go.Aw
open Go.RowKit
inductive AV where
 | v (x:Value)
 | any
 | sl (es:List (List AV))
 | rp (cs:List AV) (off:Nat)
 | agg (cs:List AV)
 | tup (vs:List AV)
 | os (k:Nat)
 | op (k i f:Nat)
 | gd (g:Bool) (x:AV)
 | fn (f:FuncId) (cap:List AV)
 | oz (k a b:Nat)
 | nf (x:AV)
 | om (k:Nat)
 | cl (es:List (List AV))
 deriving Inhabited
structure Row where
 e:TypeId
 sz:Nat
 es:List (List AV)
abbrev Env:=Nat→AV
abbrev aF:=Nat→Option Row
inductive Ex where
 | normal
 | exit (id:Nat)
 | ret
def upd(ρ:Env)(d:Option Nat)(x:AV):Env:=
 match d with
 | some d=>fun t=>if t=d then x else ρ t
 | none=>ρ
def aJ(H:aF)(k:Nat)(r:Option Row):aF:=fun j=>if j=k then r else H j
theorem WJ(ρ:Env)(d:Nat)(x:AV)(t:Nat):upd ρ (some d) x t=if t=d then x else ρ t:=rfl
theorem Sd(ρ:Env)(x:AV):upd ρ none x=ρ:=rfl
theorem aB(H:aF)(k:Nat)(r:Option Row):aJ H k r k=r:=by simp[aJ]
theorem aD(H:aF)(k:Nat)(r:Option Row)(j:Nat)(h:j≠k):aJ H k r j=H j:=by simp[aJ,h]
def ldT(P:Program)(t:TypeId):Option (Option Nat):=
 match P.underlying t,P.info? t with
 | some (.struct _),some i=>some (some i.size)
 | some (.array _ _),some i=>some (some i.size)
 | some _,some _=>some none
 | _,_=>none
def aK(P:Program)(t:TypeId)(f:Nat):Option (Nat×Option Nat):=
 match P.underlying t with
 | some (.struct fs)=>match fs[f]? with
   | some fd=>match P.info? fd.type with
     | some i=>if i.size=0 then none else(ldT P fd.type).map fun l=>(fd.offset,l)
     | none=>none
   | none=>none
 | _=>none
def bY(P:Program)(t:TypeId):Option (TypeId×Nat×Nat):=
 match P.underlying t with
 | some (.slice e)=>match P.info? e with
   | some i=>if i.size=0∨i.bytes=0∨i.zero.map (·.cells.size)≠some i.size then none else some (e,i.size,i.bytes)
   | none=>none
 | _=>none
def qL(P:Program)(t:TypeId):Option (Nat×Nat×Option Nat):=
 match P.underlying t with
 | some (.array n e)=>match P.info? e with
   | some i=>if i.size=0 then none else(ldT P e).map fun l=>(n,i.size,l)
   | none=>none
 | _=>none
def oA:Value→AV
 | .slice none 0 0=>.sl []
 | x=>.v x
def eH(P:Program)(t:TypeId):Option (List AV):=
 match P.info? t with
 | some i=>match i.zero with
   | some z=>if z.cells.size=i.size∧i.size≠0∧z.cells.toList.all (·.oneCell')=true then some (z.cells.toList.map oA)else none
   | none=>none
 | none=>none
def Gp(P:Program):Nat→TypeId→Nat→List (Nat×TypeId×Nat)
 | 0,_,_=>[]
 | n+1,t,o=>match P.underlying t with
   | some (.slice _)=>match bY P t with
     | some (e,sz,_)=>[(o,e,sz)]
     | none=>[]
   | some (.struct fs)=>fs.toList.flatMap fun f=>Gp P n f.type (o+f.offset)
   | some (.array m e)=>(List.range m).flatMap fun j=>Gp P n e (o+j*((P.info? e).map (·.size)).getD 0)
   | _=>[]
def QA:Option Value→Bool
 | some (.slice none 0 0)=>true
 | _=>false
def oJ(P:Program)(t:TypeId):Option (List (Nat×TypeId×Nat)):=
 match P.info? t with
 | some i=>match i.zero with
   | some z=>if(Gp P 8 t 0).all (fun x=>QA z.cells.toList[x.1]?&&decide (0<x.2.2))=true then some (Gp P 8 t 0)else none
   | none=>none
 | none=>none
def fL(P:Program)(t:TypeId):Option (List (Nat×Nat)):=
 match P.underlying t with
 | some (.struct fs)=>fs.toList.mapM fun f=>(P.info? f.type).map fun i=>(f.offset,i.size)
 | some (.array n e)=>(P.info? e).map fun i=>(List.range n).map fun j=>(j*i.size,i.size)
 | _=>none
def dI(P:Program)(t:TypeId):Bool:=match P.underlying t with|some .string=>true|_=>false
def cG(P:Program)(t:TypeId):Bool:=match P.underlying t with|some (.slice _)=>true|_=>false
def vN(P:Program)(t:TypeId):Bool:=match P.underlying t with|some .bool=>true|_=>false
def aev(ρ:Env):Operand→AV
 | .tmp t=>ρ t
 | .const v=>oA v
 | .global _=>.any
 | .func f=>.v (.func (.func f) #[] #[])
def gt:Option Bool→Prop
 | none=>True
 | some b=>b=true
def gok:Option Bool→Bool→Prop
 | none,g=>g=true
 | some b,g=>b=true→g=true
def wr:Option Bool→AV→AV
 | none,x=>x
 | some b,x=>.gd b x
def bH(G:Option Bool)(x:AV)(k:AV→Prop):Prop:=
 match x with
 | .gd g y=>gok G g∧k y
 | x=>k x
def kT(x:AV)(K:List AV→Prop):Prop:=
 match x with
 | .agg cs=>K cs
 | .v y=>y.oneCell'=true∧K [.v y]
 | .sl es=>K [.sl es]
 | .rp cs o=>K [.rp cs o]
 | .os k=>K [.os k]
 | .op k i f=>K [.op k i f]
 | _=>False
def pY(P:Program)(t:TypeId):Option Nat:=match P.underlying t with|some (.int _)=>some 0|some .string=>some 1|some .bool=>some 2|_=>none
def uZ(c:Nat)(x y:AV):Option Bool:=
 match c,x,y with
 | 0,.v (.int k a),.v (.int k' b)=>if k=k' then some (a == b)else none
 | 1,.v (.string a),.v (.string b)=>some (a.toList == b.toList)
 | 2,.v (.bool a),.v (.bool b)=>some (a == b)
 | _,_,_=>none
def Jn:Option Bool→Option Bool→Option Bool
 | some a,some b=>some (a&&b)
 | _,_=>none
def gB:List Nat→List AV→List AV→Option Bool
 | [],[],[]=>some true
 | c::l,x::r,y::s=>Jn (uZ c x y) (gB l r s)
 | _,_,_=>none
def nC(P:Program):Nat→List Field→Option (List Nat)
 | _,[]=>some []
 | o,f::r=>if f.name != "_" && f.offset == o&&(P.info? f.type).isSome then match pY P f.type,nC P (o+1) r with
   | some c,some l=>some (c::l)
   | _,_=>none
   else none
def wG(P:Program)(t:TypeId):Option (List Nat):=
 match P.underlying t with
 | some (.struct fs)=>if P.stoodInHeld t=false∧P.eqGuardType P.depth t=false then nC P 0 fs.toList else none
 | some (.array n e)=>if(P.info? e).map (·.size)=some 1∧P.eqGuardType P.depth t=false then(pY P e).map (List.replicate n)else none
 | _=>none
def sX:BinOp→Bool
 | .shl=>true
 | .shr=>true
 | _=>false
def shV(op:BinOp)(k:IntKind)(a b:Int):Int:=match op with
 | .shl=>k.wrap (a*2^min b.toNat k.bits)
 | _=>a.fdiv (2^min b.toNat k.bits)
def pV(op:BinOp)(k:IntKind)(a b:Int):Int:=match op with
 | .and=>k.wrap ((BitVec.ofInt k.bits a &&& BitVec.ofInt k.bits b).toNat:Nat)
 | .or=>k.wrap ((BitVec.ofInt k.bits a ||| BitVec.ofInt k.bits b).toNat:Nat)
 | .xor=>k.wrap ((BitVec.ofInt k.bits a ^^^ BitVec.ofInt k.bits b).toNat:Nat)
 | _=>k.wrap ((BitVec.ofInt k.bits a &&& ~~~(BitVec.ofInt k.bits b)).toNat:Nat)
def fP(P:Program)(G:Option Bool)(op:BinOp)(t:TypeId)(x y:AV)(K:AV→Prop):Prop:=
 match x,y with
 | .v (.int k a),.v (.int k' b)=>
   if sX op=true then(gt G→0≤b)∧K (.v (.int k (shV op k a b)))
   else if k=k' then
     match op with
     | .and=>K (.v (.int k (pV .and k a b)))
     | .or=>K (.v (.int k (pV .or k a b)))
     | .xor=>K (.v (.int k (pV .xor k a b)))
     | .andNot=>K (.v (.int k (pV .andNot k a b)))
     | .add=>K (.v (.int k (k.wrap (a+b))))
     | .sub=>K (.v (.int k (k.wrap (a-b))))
     | .mul=>K (.v (.int k (k.wrap (a*b))))
     | .quo=>(gt G→b≠0)∧K (.v (.int k (k.wrap (a.tdiv b))))
     | .rem=>(gt G→b≠0)∧K (.v (.int k (a.tmod b)))
     | .eql=>K (.v (.bool (a == b)))
     | .neq=>K (.v (.bool (a != b)))
     | .lss=>K (.v (.bool (decide (a<b))))
     | .leq=>K (.v (.bool (decide (a≤b))))
     | .gtr=>K (.v (.bool (decide (a>b))))
     | .geq=>K (.v (.bool (decide (a≥b))))
     | _=>False
   else False
 | .v (.string a),.v (.string b)=>
   match op with
   | .add=>(gt G→((a.size+b.size:Nat):Int)≤IntKind.i64.max)∧K (.v (.string (a++b)))
   | .eql=>K (.v (.bool (a.toList == b.toList)))
   | .neq=>K (.v (.bool !(a.toList == b.toList)))
   | .lss=>K (.v (.bool (Op.bytesLess a.toList b.toList)))
   | _=>False
 | .v (.bool a),.v (.bool b)=>
   if vN P t then
     match op with
     | .eql=>K (.v (.bool (a == b)))
     | .neq=>K (.v (.bool !(a == b)))
     | _=>False
   else False
 | .agg xs,.agg ys=>match wG P t with
   | some l=>match gB l xs ys with
     | some b=>match op with
       | .eql=>K (.v (.bool b))
       | .neq=>K (.v (.bool !b))
       | _=>False
     | none=>False
   | none=>False
 | _,_=>(gt G→False)∧K .any
def Ud(P:Program)(t:TypeId):Option (TypeId×TypeId):=match P.underlying t with|some (.map k e)=>some (k,e)|_=>none
def Ml(P:Program)(t:TypeId):Option AV:=
 match P.info? t with
 | some i=>match i.zero with
   | some (.agg cs)=>if cs.toList.all (·.oneCell')=true then some (.agg (cs.toList.map oA))else none
   | some v=>if v.oneCell'=true then some (oA v)else none
   | none=>none
 | none=>none
def Ia(P:Program)(kt:TypeId)(x y:AV):Option Bool:=
 match x,y with
 | .v a,.v b=>match pY P kt with
   | some c=>uZ c (.v a) (.v b)
   | none=>none
 | _,_=>none
def xS(P:Program)(kt:TypeId):AV→Bool
 | .v (.int _ _)=>pY P kt == some 0
 | .v (.string _)=>pY P kt == some 1
 | .v (.bool _)=>pY P kt == some 2
 | _=>false
def DV(eq:AV→Option Bool):List (List AV)→Nat→Option (Option Nat)
 | [],_=>some none
 | e::r,i=>match eq (e.getD 0 .any)with
   | some true=>some (some i)
   | some false=>DV eq r (i+1)
   | none=>none
def OM(ok:Bool)(z:AV)(es:List (List AV))(oi:Option Nat):AV:=
 match oi with
 | some i=>if ok=true then .tup [(es.getD i []).getD 1 .any,.v (.bool true)]else(es.getD i []).getD 1 .any
 | none=>if ok=true then .tup [z,.v (.bool false)]else z
def mput(es:List (List AV))(oi:Option Nat)(k v:AV):List (List AV):=
 match oi with
 | some i=>es.set i [k,v]
 | none=>es++[[k,v]]
def Es(P:Program)(H:aF)(t:TypeId)(x key:AV)(K:Nat→Row→TypeId×TypeId→Option Nat→Prop):Prop:=
 match x with
 | .om j=>match H j,Ud P t with
   | some r,some kt=>match DV (Ia P kt.1 key) r.es 0 with
     | some oi=>xS P kt.1 key=true∧K j r kt oi
     | none=>False
   | _,_=>False
 | _=>False
def vM(P:Program)(H:aF)(t:TypeId)(x key:AV)(ok:Bool)(K:AV→Prop):Prop:=
 Es P H t x key fun _ r kt oi=>match Ml P kt.2 with
   | some z=>K (OM ok z r.es oi)
   | none=>False
def rB(c:Bool):AV→AV→AV
 | .v (.bool true),.v (.bool b)=>.v (.bool (c||b))
 | .v (.bool a),.v (.bool false)=>.v (.bool (c&&a))
 | .v (.bool a),.v (.bool b)=>.v (.bool (bif c then a else b))
 | x,y=>bif c then x else y
def wI(G:Option Bool)(c:Bool)(x y:AV)(K:AV→Prop):Prop:=
 match x,y with
 | .gd g x,.gd g' y=>(gt G→c=true→g=true)∧(gt G→c=false→g'=true)∧K (rB c x y)
 | .gd g x,y=>(gt G→c=true→g=true)∧K (rB c x y)
 | x,.gd g' y=>(gt G→c=false→g'=true)∧K (rB c x y)
 | x,y=>K (rB c x y)
def lX(G:Option Bool)(H:aF)(l:Option Nat)(x:AV)(K:AV→Prop):Prop:=
 match x with
 | .rp cs off=>match l with
   | none=>(gt G→off<cs.length)∧K (cs.getD off .any)
   | some n=>(gt G→off+n≤cs.length)∧K (.agg ((cs.drop off).take n))
 | .op k i f=>match H k with
   | some r=>match l with
     | none=>(gt G→i<r.es.length∧f<r.sz)∧K ((r.es.getD i []).getD f .any)
     | some n=>(gt G→i<r.es.length∧f+n≤r.sz)∧K (.agg (((r.es.getD i []).drop f).take n))
   | none=>False
 | _=>False
def apart(G:Option Bool)(off:Nat)(l:Option Nat)(x:AV)(K:AV→Prop):Prop:=
 match x with
 | .agg cs=>match l with
   | none=>(gt G→off<cs.length)∧K (cs.getD off .any)
   | some n=>(gt G→off+n≤cs.length)∧K (.agg ((cs.drop off).take n))
 | _=>False
def Dh(P:Program)(H:aF)(t:TypeId)(x:AV)(K:AV→Prop):Prop:=
 match x with
 | .sl es=>if cG P t then K (.v (.int .i64 es.length))else False
 | .os k=>match H k with
   | some r=>if cG P t then K (.v (.int .i64 r.es.length))else False
   | none=>False
 | .v (.string s)=>if dI P t then K (.v (.int .i64 s.size))else False
 | _=>False
def kC(a b:Int):Int:=if b>a then b else a
def tQ(a b:Int):Int:=if b<a then b else a
def KW(x y:AV)(K:AV→Prop):Prop:=
 match x,y with
 | .v (.int k a),.v (.int _ b)=>K (.v (.int k (kC a b)))
 | _,_=>False
def L8(x y:AV)(K:AV→Prop):Prop:=
 match x,y with
 | .v (.int k a),.v (.int _ b)=>K (.v (.int k (tQ a b)))
 | _,_=>False
def eX(P:Program)(G:Option Bool)(H:aF)(t:TypeId)(x i:AV)(K:AV→Prop):Prop:=
 match x,i with
 | .sl es,.v (.int _ n)=>match bY P t with
   | some (_,sz,_)=>(gt G→(0≤n∧n<es.length)∧(es.getD n.toNat []).length=sz)∧K (.rp (es.getD n.toNat []) 0)
   | none=>False
 | .os k,.v (.int _ n)=>match H k,bY P t with
   | some r,some (_,sz,_)=>(gt G→(0≤n∧n<r.es.length)∧r.sz=sz)∧K (.op k n.toNat 0)
   | _,_=>False
 | .rp cs off,.v (.int _ n)=>match qL P t with
   | some (m,s,_)=>(gt G→0≤n∧n<m)∧K (.rp cs (off+n.toNat*s))
   | none=>False
 | .op k j f,.v (.int _ n)=>match qL P t with
   | some (m,s,_)=>(gt G→0≤n∧n<m)∧K (.op k j (f+n.toNat*s))
   | none=>False
 | _,_=>False
def iN(P:Program)(t:TypeId)(f:Nat)(x:AV)(K:AV→Prop):Prop:=
 match x with
 | .rp cs off=>match aK P t f with
   | some (o,_)=>K (.rp cs (off+o))
   | none=>False
 | .op k i g=>match aK P t f with
   | some (o,_)=>K (.op k i (g+o))
   | none=>False
 | _=>False
def oK(places:List (Nat×Nat)):List AV→List (Nat×List AV)→Option (List AV)
 | cs,[]=>some cs
 | cs,(i,x)::rest=>match places[i]? with
   | some (off,n)=>if x.length=n∧off+n≤cs.length then oK places (cs.take off++x++cs.drop (off+n)) rest else none
   | none=>none
def mV(G:Option Bool)(ρ:Env):List (Nat×Operand)→(List (Nat×List AV)→Prop)→Prop
 | [],K=>K []
 | (i,x)::rest,K=>bH G (aev ρ x) fun y=>kT y fun cs=>mV G ρ rest fun l=>K ((i,cs)::l)
def wE(G:Option Bool)(ρ:Env):List Operand→(List AV→Prop)→Prop
 | [],K=>K []
 | x::rest,K=>bH G (aev ρ x) fun y=>wE G ρ rest fun l=>K (y::l)
def tG(P:Program)(t:TypeId)(parts:List (Nat×List AV))(K:AV→Prop):Prop:=
 match eH P t,fL P t with
 | some z,some pl=>match oK pl z parts with
   | some cs=>K (.agg cs)
   | none=>False
 | _,_=>False
def GK:Nat→Nat→List Nat
 | _,0=>[]
 | i,n+1=>i::GK (i+1) n
def dK(n:Nat):List (List AV)→Prop
 | []=>True
 | cs::r=>cs.length=n∧dK n r
def kU(P:Program)(G:Option Bool)(t:TypeId)(x:AV)(lo hi:Option AV)(K:AV→Prop):Prop:=
 match x,lo,hi with
 | .sl es,some (.v (.int _ a)),some (.v (.int _ b))=>match bY P t with
   | some (_,sz,_)=>(gt G→(0≤a∧a≤b∧b≤es.length)∧dK sz es)∧K (.sl ((es.take b.toNat).drop a.toNat))
   | none=>False
 | .sl es,some (.v (.int _ a)),none=>match bY P t with
   | some (_,sz,_)=>(gt G→(0≤a∧a≤es.length)∧dK sz es)∧K (.sl (es.drop a.toNat))
   | none=>False
 | .sl es,none,some (.v (.int _ b))=>match bY P t with
   | some _=>(gt G→0≤b∧b≤es.length)∧K (.sl (es.take b.toNat))
   | none=>False
 | .v (.string s),some (.v (.int _ a)),some (.v (.int _ b))=>
   if dI P t then(gt G→0≤a∧a≤b∧b≤s.size)∧K (.v (.string (s.extract a.toNat b.toNat)))else False
 | .v (.string s),some (.v (.int _ a)),none=>
   if dI P t then(gt G→0≤a∧a≤s.size)∧K (.v (.string (s.extract a.toNat s.size)))else False
 | .v (.string s),none,some (.v (.int _ b))=>
   if dI P t then(gt G→0≤b∧b≤s.size)∧K (.v (.string (s.extract 0 b.toNat)))else False
 | _,_,_=>False
def asl(P:Program)(G:Option Bool)(H:aF)(t:TypeId)(x:AV)(lo hi:Option AV)(K:AV→Prop):Prop:=
 match x with
 | .os k=>match H k,bY P t with
   | some r,some (_,sz,_)=>match lo,hi with
     | some (.v (.int _ a)),some (.v (.int _ b))=>(gt G→(0≤a∧a≤b∧b≤r.es.length)∧r.sz=sz)∧K (.oz k a.toNat b.toNat)
     | some (.v (.int _ a)),none=>(gt G→(0≤a∧a≤r.es.length)∧r.sz=sz)∧K (.oz k a.toNat r.es.length)
     | none,some (.v (.int _ b))=>(gt G→(0≤b∧b≤r.es.length)∧r.sz=sz)∧K (.oz k 0 b.toNat)
     | _,_=>False
   | _,_=>False
 | x=>kU P G t x lo hi K
def Az(P:Program)(G:Option Bool)(t:TypeId)(x a b:AV)(K:AV→Prop):Prop:=
 match x,a,b with
 | .sl es,.v (.int _ a),.v (.int _ b)=>match bY P t with
   | some _=>(gt G→a=es.length∧b=es.length)∧K (.cl es)
   | none=>False
 | _,_,_=>False
def sE(P:Program)(G:Option Bool)(t:TypeId)(x i:AV)(K:AV→Prop):Prop:=
 match x,i with
 | .v (.string s),.v (.int _ n)=>
   if dI P t then(gt G→0≤n∧n<s.size)∧K (.v (.int .u8 ((s.data.getD n.toNat 0).toNat:Int)))else False
 | .agg cs,.v (.int _ n)=>match qL P t with
   | some (m,s,l)=>(gt G→0≤n∧n<m)∧apart G (n.toNat*s) l (.agg cs) K
   | none=>False
 | _,_=>False
def aun(op:UnOp)(x:AV)(K:AV→Prop):Prop:=
 match op,x with
 | .not,.v (.bool b)=>K (.v (.bool !b))
 | .neg,.v (.int k n)=>K (.v (.int k (k.wrap (0-n))))
 | _,_=>False
def oG:List (List AV)→Option (List Int)
 | []=>some []
 | [.v (.int .u8 n)]::r=>(oG r).map (n::·)
 | _=>none
def zI(P:Program)(t:TypeId):Bool:=
 match P.underlying t with
 | some (.slice e)=>match P.underlying e with
   | some (.int .u8)=>true
   | _=>false
 | _=>false
def Bb(P:Program)(t:TypeId):Option IntKind:=match P.underlying t with|some (.int k)=>some k|_=>none
def tO(P:Program)(src dst:TypeId)(x:AV)(K:AV→Prop):Prop:=
 match x with
 | .v (.int _ n)=>match Bb P dst,Bb P src with
   | some k,some _=>K (.v (.int k (k.wrap n)))
   | _,_=>False
 | .v (.string s)=>if dI P src∧dI P dst then K (.v (.string s))else False
 | .sl es => if zI P src ∧ dI P dst then
     match oG es with
     | some ns=>K (.v (.string (strOfNums ns)))
     | none=>False
   else False
 | _=>False
def pD:Operand→Bool
 | .const (.slice none 0 0)=>true
 | _=>false
def oC(op:BinOp)(x:AV)(K:AV→Prop):Prop:=
 match op,x with
 | .eql,.sl es=>(es=[]→K (.v (.bool true)))∧K (.v (.bool false))
 | .neq,.sl es=>(es=[]→K (.v (.bool false)))∧K (.v (.bool true))
 | .eql,.os _=>K (.v (.bool true))∧K (.v (.bool false))
 | .neq,.os _=>K (.v (.bool false))∧K (.v (.bool true))
 | .eql,.v (.slice none 0 0)=>K (.v (.bool true))
 | .neq,.v (.slice none 0 0)=>K (.v (.bool false))
 | _,_=>False
def fY(P:Program)(G:Option Bool)(ρ:Env)(H:aF)(op:Op)(K:AV→Prop):Prop:=
 match op with
 | .move x| .assign x=>bH G (aev ρ x) K
 | .pick c a b=>bH G (aev ρ c) fun
   | .v (.bool c)=>wI G c (aev ρ a) (aev ρ b) K
   | _=>False
 | .build t parts=>mV G ρ parts.toList fun l=>tG P t l K
 | .load t a=>match ldT P t with
   | some l=>bH G (aev ρ a) fun a=>lX G H l a K
   | none=>False
 | .nilCheck x=>bH G (aev ρ x) fun
   | .rp cs off=>K (.rp cs off)
   | .op k i f=>K (.op k i f)
   | _=>False
 | .binOp op t x y _=>if pD y=true then bH G (aev ρ x) fun x=>cG P t=true∧oC op x K else bH G (aev ρ x) fun x=>bH G (aev ρ y) fun y=>fP P G op t x y K
 | .unOp op _ x=>bH G (aev ρ x) fun x=>aun op x K
 | .convert src dst x=>bH G (aev ρ x) fun x=>tO P src dst x K
 | .slice t x lo hi none=>bH G (aev ρ x) fun x=>match lo,hi with
   | some lo,some hi=>bH G (aev ρ lo) fun lo=>bH G (aev ρ hi) fun hi=>asl P G H t x (some lo) (some hi) K
   | some lo,none=>bH G (aev ρ lo) fun lo=>asl P G H t x (some lo) none K
   | none,some hi=>bH G (aev ρ hi) fun hi=>asl P G H t x none (some hi) K
   | none,none=>False
 | .slice t x none (some hi) (some m)=>bH G (aev ρ x) fun x=>bH G (aev ρ hi) fun hi=>bH G (aev ρ m) fun m=>Az P G t x hi m K
 | .fieldAddr t x f=>bH G (aev ρ x) fun x=>iN P t f x K
 | .field t x f=>match aK P t f with
   | some (o,l)=>bH G (aev ρ x) fun x=>apart G o l x K
   | none=>False
 | .indexAddr t x i=>bH G (aev ρ x) fun x=>bH G (aev ρ i) fun i=>eX P G H t x i K
 | .index t x i=>bH G (aev ρ x) fun x=>bH G (aev ρ i) fun i=>sE P G t x i K
 | .extract x i=>bH G (aev ρ x) fun
   | .tup vs=>(gt G→i<vs.length)∧K (vs.getD i .any)
   | _=>False
 | .lookup t x i ok=>bH G (aev ρ x) fun x=>bH G (aev ρ i) fun i=>vM P H t x i ok K
 | .makeFunc f first cap=>match f with
   | .func f=>first=#[]∧wE G ρ cap.toList fun l=>K (.fn f l)
   | _=>False
 | _=>False
def bZ(ops:Array Oper)(ρ:Env)(g:Option (Nat×Bool))(K:Option Bool→Prop):Prop:=
 match g with
 | none=>K none
 | some (j,want)=>match (ops[j]?).bind (·.dst)with
   | some t=>match ρ t with
     | .v (.bool b)=>K (some (b == want))
     | .gd g (.v (.bool b))=>K (some (g&&(b == want)))
     | _=>False
   | none=>False
def tJ(mt:Nat→Bool):Option Nat→Bool
 | some d=>mt d
 | none=>false
def mS(H:aF)(r:Row)(K:Nat→aF→Prop):Prop:=∀k,H k=none→K k (aJ H k (some r))
def lT(cs:List AV)(f:Nat)(xs:List AV):List AV:=cs.take f++xs++cs.drop (f+xs.length)
def jI:List (Nat×TypeId×Nat)→List AV→aF→(List AV→aF→Prop)→Prop
 | [],cs,H,K=>K cs H
 | x::r,cs,H,K=>mS H ⟨x.2.1,x.2.2,[]⟩ fun k H'=>jI r (cs.set x.1 (.os k)) H' K
def xW(P:Program)(mt:Nat→Bool)(quiet:Bool)(G:Option Bool)(o:Oper)(x:Operand)(ρ:Env)(H:aF)(K:Env→aF→Prop):Prop:=
 if tJ mt o.dst=true∧G=none∧quiet=false∧pD x=true then
   match bY P o.type with
   | some (e,sz,_)=>mS H ⟨e,sz,[]⟩ fun k H'=>K (upd ρ o.dst (.os k)) H'
   | none=>False
 else bH G (aev ρ x) fun y=>K (upd ρ o.dst (wr G y)) H
def TZ(mt:Nat→Bool)(o:Oper)(t:TypeId)(cs:List AV)(ρ:Env)(H:aF)(K:Env→aF→Prop):Prop:=
 if tJ mt o.dst=true then
   0<cs.length∧mS H ⟨t,cs.length,[cs]⟩ fun k H'=>K (upd ρ o.dst (.op k 0 0)) H'
 else K (upd ρ o.dst (.rp cs 0)) H
def lO(P:Program)(mt:Nat→Bool)(G:Option Bool)(o:Oper)(t:TypeId)(n:Nat)(parts:List (Nat×List AV))(ρ:Env)(H:aF)(K:Env→aF→Prop):Prop:=
 match bY P t with
 | some (e,sz,_)=>
   (parts.map (·.1)=GK 0 n∧dK sz (parts.map (·.2))∧n*sz≤16777216) ∧
   (if tJ mt o.dst=true∧G=none then mS H ⟨e,sz,parts.map (·.2)⟩ fun k H'=>K (upd ρ o.dst (.os k)) H'
    else K (upd ρ o.dst (wr G (.sl (parts.map (·.2))))) H)
 | none=>False
def vC(P:Program)(o:Oper)(t:TypeId)(a:AV)(cs:List AV)(ρ:Env)(H:aF)(K:Env→aF→Prop):Prop:=
 match a with
 | .op k i f=>match H k,ldT P t with
   | some r, some l => (i < r.es.length ∧ cs.length = l.getD 1 ∧ f + cs.length ≤ r.sz ∧ (l = none → ∃ i, P.info? t = some i ∧ i.size = 1)) ∧
       K (upd ρ o.dst .any) (aJ H k (some { r with es:=r.es.set i (lT (r.es.getD i []) f cs) }))
   | _,_=>False
 | _=>False
def qB(P:Program)(o:Oper)(t:TypeId)(a:AV)(cs:List AV)(ρ:Env)(H:aF)(K:Env→aF→Prop):Prop:=
 vC P o t a cs ρ H K∨((ldT P t).isSome=true∧∃nl:List (Nat×TypeId×Nat),(∀x∈nl,cs[x.1]?=some (.v (.slice none 0 0))∧0<x.2.2)∧jI nl cs H fun cs H=>vC P o t a cs ρ H K)
def vT(x:Operand)(ρ:Env)(d:Option Nat)(H:aF)(K:Env→aF→Prop):Prop:=
 match x with
 | .tmp t=>match ρ t with
   | .os j=>match H j with
     | some r=>∀Hr:aF,Hr j=none→(∀k,k≠j→Hr k=H k)→K (upd (upd ρ (some t) (.sl r.es)) d (.sl r.es)) Hr
     | none=>False
   | _=>False
 | _=>False
theorem zU{t j:Nat}{r:Row}{ρ:Env}{d:Option Nat}{H:aF}{K:Env→aF→Prop}(hj:ρ t=.os j)(hr:H j=some r)(h:∀Hr:aF,Hr j=none→(∀k,k≠j→Hr k=H k)→K (upd (upd ρ (some t) (.sl r.es)) d (.sl r.es)) Hr):vT (.tmp t) ρ d H K:=by
 unfold vT;simp only[hj,hr];exact h
def EW(l:List Nat)(H:aF):List AV→List AV→Prop
 | [],[]=>True
 | x::xs,y::ys=>(x=y∨∃j r,j∈l∧x=.os j∧H j=some r∧y=.sl r.es)∧EW l H xs ys
 | _,_=>False
def EH(x:AV)(ρ:Env)(d:Option Nat)(H:aF)(K:Env→aF→Prop):Prop:=
 match x with
 | .agg cs=>∃(l:List Nat) (ys:List AV),EW l H cs ys∧∀Hr:aF,(∀k,k∈l→Hr k=none)→(∀k,¬k∈l→Hr k=H k)→K (upd ρ d (.agg ys)) Hr
 | _=>False
def B0(H:aF)(x:AV)(K:List (List AV)→Prop):Prop:=
 match x with
 | .sl es=>K es
 | .os k=>match H k with
   | some r=>K r.es
   | none=>False
 | .oz k a b=>match H k with
   | some r=>K ((r.es.take b).drop a)
   | none=>False
 | _=>False
def Ko(H:aF)(x:AV)(K:Nat→Nat→Nat→Row→Prop):Prop:=
 match x with
 | .os k=>match H k with
   | some r=>K k 0 r.es.length r
   | none=>False
 | .oz k a b=>match H k with
   | some r=>K k a (b-a) r
   | none=>False
 | _=>False
def PK(P:Program)(o:Oper)(t:TypeId)(x y:AV)(ρ:Env)(H:aF)(K:Env→aF→Prop):Prop:=
 Ko H x fun k a n r=>B0 H y fun news=>match bY P t with
   | some (_,sz,_)=>(r.sz=sz∧dK sz news)∧K (upd ρ o.dst (.v (.int .i64 (min news.length n:Nat)))) (aJ H k (some { r with es:=r.es.take a++news.take (min news.length n)++r.es.drop (a+min news.length n) }))
   | none=>False
def Gf(P:Program)(o:Oper)(t:TypeId)(x:AV)(ρ:Env)(H:aF)(K:Env→aF→Prop):Prop:=
 Ko H x fun k a n r=>match bY P t with
   | some (e,sz,_)=>match eH P e with
     | some zs=>r.sz=sz∧K (upd ρ o.dst .any) (aJ H k (some { r with es:=r.es.take a++List.replicate n zs++r.es.drop (a+n) }))
     | none=>False
   | none=>False
def vV(P:Program)(o:Oper)(t:TypeId)(s x:AV)(ρ:Env)(H:aF)(K:Env→aF→Prop):Prop:=
 match s,bY P t with
 | .os k,some (e,sz,bytes)=>match H k with
   | some r => B0 H x fun news =>
       (r.e=e∧r.sz=sz∧dK sz news∧(r.es.length+news.length)*bytes≤140737488355328) ∧
       ∀k',H k'=none→K (upd ρ o.dst (.os k')) (aJ (aJ H k none) k' (some ⟨e,sz,r.es++news⟩))
   | none=>False
 | .cl es, some (e, sz, bytes) => B0 H x fun news =>
     (news≠[]∧dK sz es∧dK sz news∧(es.length+news.length)*bytes≤140737488355328) ∧
     ∀k',H k'=none→K (upd ρ o.dst (.os k')) (aJ H k' (some ⟨e,sz,es++news⟩))
 | _,_=>False
def DT:List (Nat×TypeId×Nat)→List AV→List AV
 | [],z=>z
 | x::r,z=>DT r (z.set x.1 (.v (.slice none 0 0)))
def vO(P:Program)(o:Oper)(t:TypeId)(parts:List (Nat×Operand))(ρ:Env)(H:aF)(K:Env→aF→Prop):Prop:=
 mV none ρ parts fun l=>match eH P t,fL P t,oJ P t with
   | some z,some pl,some nl=>match oK pl (DT nl z) l with
     | some cs=>K (upd ρ o.dst (.agg cs)) H
     | none=>False
   | _,_,_=>False
def xY(P:Program)(o:Oper)(t:TypeId)(parts:List (Nat×Operand))(ρ:Env)(H:aF)(K:Env→aF→Prop):Prop:=
 mV none ρ parts fun l=>match eH P t,fL P t,oJ P t with
   | some z,some pl,some nl=>jI nl z H fun z H=>match oK pl z l with
     | some cs=>K (upd ρ o.dst (.agg cs)) H
     | none=>False
   | _,_,_=>False
def lD(P:Program)(o:Oper)(t:TypeId)(m x v:AV)(ρ:Env)(H:aF)(K:Env→aF→Prop):Prop:=
 Es P H t m x fun j r _ oi=>K (upd ρ o.dst .any) (aJ H j (some { r with es:=mput r.es oi x v }))
def vQ(P:Program)(o:Oper)(t:TypeId)(m x:AV)(ρ:Env)(H:aF)(K:Env→aF→Prop):Prop:=
 Es P H t m x fun j r kt oi=>match oi with
   | some i=>K (upd ρ o.dst (.tup [(r.es.getD i []).getD 1 .any,.v (.int .i64 i)])) H
   | none=>match Ml P kt.2 with
     | some z=>K (upd ρ o.dst (.tup [z,.v (.int .i64 r.es.length)])) (aJ H j (some { r with es:=r.es++[[x,z]] }))
     | none=>False
def qG(o:Oper)(m s v:AV)(ρ:Env)(H:aF)(K:Env→aF→Prop):Prop:=
 match m,s with
 | .om j,.v (.int _ i)=>match H j with
   | some r=>(0≤i∧i<r.es.length)∧K (upd ρ o.dst .any) (aJ H j (some { r with es:=r.es.set i.toNat [(r.es.getD i.toNat []).getD 0 .any,v] }))
   | none=>False
 | _,_=>False
def pT(P:Program)(o:Oper)(t:TypeId)(l c:AV)(ρ:Env)(H:aF)(K:Env→aF→Prop):Prop:=
 match l,c with
 | .v (.int _ a),.v (.int _ b)=>match bY P t with
   | some (e,sz,bytes)=>match eH P e with
     | some z=>((0≤a∧a≤b)∧(bytes:Int)*b≤140737488355328)∧mS H ⟨e,sz,List.replicate a.toNat z⟩ fun k H'=>K (upd ρ o.dst (.os k)) H'
     | none=>False
   | none=>False
 | _,_=>False
def Hl:AV→Option (FuncId×List AV×List AV)
 | .v (.func (.func f) first captured)=>some (f,first.toList.map .v,captured.toList.map .v)
 | .fn f cap=>some (f,[],cap)
 | _=>none
def aC(P:Program)(f:FuncId):Bool:=match P.funcs[f]? with|some fn=>fn.name != "runtime.NumGoroutine" && fn.body.isSome|none=>false
abbrev kP:=FuncId→List AV→aF→(AV→aF→Prop)→Prop
def nfq(quiet:Bool)(r:AV)(K:AV→Prop):Prop:=match quiet,r with
 | true,.nf _=>False
 | false,.nf x=>K x
 | _,r=>K r
def xL(P:Program)(C:kP)(PC:FuncId→List AV→aF→AV→Prop)(quiet:Bool)(G:Option Bool)(o:Oper)(c:Call)(ρ:Env)(H:aF)(K:Env→aF→Prop):Prop:=
 match c.callee with
 | .builtin b=>wE G ρ c.args.toList fun l=>match b,l,c.argTypes.toList with
   | .len,[x],[t]=>Dh P H t x fun y=>K (upd ρ o.dst (wr G y)) H
   | .append,[s,x],[t,t']=>if t=t'∧G=none∧quiet=false then vV P o t s x ρ H K else False
   | .copy,[x,y],[t,_]=>if G=none∧quiet=false then PK P o t x y ρ H K else False
   | .clear,[x],[t]=>if G=none∧quiet=false then Gf P o t x ρ H K else False
   | .max,[x,y],[_,_]=>KW x y fun z=>K (upd ρ o.dst (wr G z)) H
   | .min,[x,y],[_,_]=>L8 x y fun z=>K (upd ρ o.dst (wr G z)) H
   | _,_,_=>False
 | .value f=>bH G (aev ρ f) fun x=>match Hl x with
   | some (f,first,captured)=>wE G ρ c.args.toList fun l=>
     aC P f=true∧if G=none∧quiet=false then C f (first++l++captured) H fun r H'=>K (upd ρ o.dst r) H'
     else ∃r,(gt G→PC f (first++l++captured) H r)∧nfq quiet r fun r=>K (upd ρ o.dst (wr G r)) H
   | none=>False
 | .invoke _ _=>False
def aop(P:Program)(C:kP)(PC:FuncId→List AV→aF→AV→Prop)(mt:Nat→Bool)(quiet:Bool)(ops:Array Oper)(o:Oper)(ρ:Env)(H:aF)(K:Env→aF→Prop):Prop:=
 bZ ops ρ o.guard fun G=>
 match o.op with
 | .assign x=>xW P mt quiet G o x ρ H K
 | .alloc t=>match eH P t with
   | some z => G = none ∧ quiet = false ∧ (if tJ mt o.dst = true then match oJ P t with
       | some nl=>jI nl z H fun z H=>mS H ⟨t,z.length,[z]⟩ fun k H'=>K (upd ρ o.dst (.op k 0 0)) H'
       | none=>False
     else mS H ⟨t,z.length,[z]⟩ fun k H'=>K (upd ρ o.dst (.op k 0 0)) H')
   | none=>False
 | .box t x=>G=none∧quiet=false∧bH G (aev ρ x) fun x=>kT x fun cs=>TZ mt o t cs ρ H K
 | .buildSlice t n parts=>quiet=false∧mV G ρ parts.toList fun l=>lO P mt G o t n l ρ H K
 | .store t a x => G = none ∧ quiet = false ∧ (if pD x = true then bH G (aev ρ a) fun a => match bY P t with
       | some (e,sz,_)=>mS H ⟨e,sz,[]⟩ fun k H=>qB P o t a [.os k] ρ H K
       | none=>False
     else bH G (aev ρ a) fun a=>bH G (aev ρ x) fun x=>kT x fun cs=>qB P o t a cs ρ H K)
 | .call c=>xL P C PC quiet G o c ρ H K
 | .move x=>if tJ mt o.dst=true then G=none∧quiet=false∧vT x ρ o.dst H K else fY P G ρ H (.move x) fun x=>K (upd ρ o.dst (wr G x)) H
 | .pick c a b=>fY P G ρ H (.pick c a b) fun x=>K (upd ρ o.dst (wr G x)) H
 | .build t parts=>if tJ mt o.dst=true then G=none∧(if quiet=true then vO P o t parts.toList ρ H K else xY P o t parts.toList ρ H K)else fY P G ρ H (.build t parts) fun x=>K (upd ρ o.dst (wr G x)) H
 | .load t a=>if tJ mt o.dst=true then G=none∧quiet=false∧fY P none ρ H (.load t a) fun x=>EH x ρ o.dst H K else fY P G ρ H (.load t a) fun x=>K (upd ρ o.dst (wr G x)) H
 | .nilCheck x=>fY P G ρ H (.nilCheck x) fun x=>K (upd ρ o.dst (wr G x)) H
 | .binOp op t x y t'=>fY P G ρ H (.binOp op t x y t') fun x=>K (upd ρ o.dst (wr G x)) H
 | .unOp op t x=>fY P G ρ H (.unOp op t x) fun x=>K (upd ρ o.dst (wr G x)) H
 | .convert s d x=>fY P G ρ H (.convert s d x) fun x=>K (upd ρ o.dst (wr G x)) H
 | .slice t x lo hi m=>fY P G ρ H (.slice t x lo hi m) fun x=>K (upd ρ o.dst (wr G x)) H
 | .fieldAddr t x f=>fY P G ρ H (.fieldAddr t x f) fun x=>K (upd ρ o.dst (wr G x)) H
 | .field t x f=>fY P G ρ H (.field t x f) fun x=>K (upd ρ o.dst (wr G x)) H
 | .indexAddr t x i=>fY P G ρ H (.indexAddr t x i) fun x=>K (upd ρ o.dst (wr G x)) H
 | .index t x i=>fY P G ρ H (.index t x i) fun x=>K (upd ρ o.dst (wr G x)) H
 | .extract x i=>fY P G ρ H (.extract x i) fun x=>K (upd ρ o.dst (wr G x)) H
 | .makeFunc f a b=>fY P G ρ H (.makeFunc f a b) fun x=>K (upd ρ o.dst (wr G x)) H
 | .makeSlice t l c=>G=none∧quiet=false∧bH G (aev ρ l) fun l=>bH G (aev ρ c) fun c=>pT P o t l c ρ H K
 | .lookup t x i ok=>fY P G ρ H (.lookup t x i ok) fun x=>K (upd ρ o.dst (wr G x)) H
 | .makeMap _ none=>G=none∧quiet=false∧mS H ⟨0,2,[]⟩ fun k H'=>K (upd ρ o.dst (.om k)) H'
 | .mapUpdate t m x v=>G=none∧quiet=false∧bH G (aev ρ m) fun m=>bH G (aev ρ x) fun x=>bH G (aev ρ v) fun v=>lD P o t m x v ρ H K
 | .insert t m x v=>G=none∧quiet=false∧bH G (aev ρ m) fun m=>bH G (aev ρ x) fun x=>bH G (aev ρ v) fun v=>lD P o t m x v ρ H K
 | .mapEntry t m x=>G=none∧quiet=false∧bH G (aev ρ m) fun m=>bH G (aev ρ x) fun x=>vQ P o t m x ρ H K
 | .entryStore _ m s v=>G=none∧quiet=false∧bH G (aev ρ m) fun m=>bH G (aev ρ s) fun s=>bH G (aev ρ v) fun v=>qG o m s v ρ H K
 | _=>False
def sS(P:Program)(C:kP)(PC:FuncId→List AV→aF→AV→Prop)(mt:Nat→Bool)(quiet:Bool)(ops:Array Oper)(K:Env→aF→Prop):List Oper→Env→aF→Prop
 | [],ρ,H=>K ρ H
 | o::rest,ρ,H=>aop P C PC mt quiet ops o ρ H (sS P C PC mt quiet ops K rest)
def Ex.seq(K:Env→aF→Prop)(Q:Ex→Env→aF→Prop):Ex→Env→aF→Prop
 | .normal,ρ,H=>K ρ H
 | e,ρ,H=>Q e ρ H
def Ex.blk(id:Nat)(Q:Ex→Env→aF→Prop):Ex→Env→aF→Prop
 | .exit i,ρ,H=>if i=id then Q .normal ρ H else Q (.exit i) ρ H
 | e,ρ,H=>Q e ρ H
def Nc(W:(Ex→Env→aF→Prop)→Env→aF→Prop)(Q:Ex→Env→aF→Prop)(ρ:Env)(H:aF):Prop:=
 ∃(I:Env→aF→Prop) (μ:Env→aF→Nat),I ρ H∧∀ρ' H',I ρ' H'→W (Ex.seq (fun ρ'' H''=>I ρ'' H''∧μ ρ'' H''<μ ρ' H') Q) ρ' H'
def V1(mt:Nat→Bool)(o:Oper):Bool:=match o.op with
 | .alloc _=>true
 | .buildSlice ..=>true
 | .store ..=>true
 | .makeSlice ..=>true
 | .makeMap ..=>true
 | .mapUpdate ..=>true
 | .insert ..=>true
 | .mapEntry ..=>true
 | .entryStore ..=>true
 | .call ⟨.builtin .append,_,_⟩=>true
 | .call ⟨.builtin .copy,_,_⟩=>true
 | .call ⟨.builtin .clear,_,_⟩=>true
 | _=>tJ mt o.dst
def MD(mt:Nat→Bool):List Oper→Nat
 | []=>0
 | o::r=>if V1 mt o=true then 0 else MD mt r+1
def MG(ops:Array Oper)(n:Nat):Bool:=Region.noSelect ops&&decide (n≤ops.size)&&Region.lexHead .any ops (ops.size-n) n 0 (Array.replicate ops.size false)
def qH(o:Oper)(H:aF):aF:=match o.op with
 | .slice ..=>H
 | _=>fun _=>none
def uE(P:Program)(C:kP)(PC:FuncId→List AV→aF→AV→Prop)(mt:Nat→Bool)(ops:Array Oper)(K:Env→aF→Prop):List (Nat×Bool)→Env→aF→Prop
 | [],ρ,H=>K ρ H
 | (k,b)::f,ρ,H=>match ops[k]? with
   | some o=>if b=true then aop P C PC mt true ops o ρ (qH o H) fun ρ' _=>uE P C PC mt ops K f ρ' H
     else aop P C PC mt false ops o ρ H (uE P C PC mt ops K f)
   | none=>False
def nV(P:Program)(C:kP)(PC:FuncId→List AV→aF→AV→Prop)(mt:Nat→Bool)(ops:Array Oper)(K:Env→aF→Prop)(Hp:aF):List (Nat×Bool)→Env→aF→Prop
 | [],ρ,H=>K ρ H
 | (k,b)::f,ρ,H=>match ops[k]? with
   | some o=>if b=true then aop P C PC mt true ops o ρ Hp fun ρ' _=>nV P C PC mt ops K Hp f ρ' H
     else aop P C PC mt false ops o ρ H (nV P C PC mt ops K Hp f)
   | none=>False
def lZ(l:List Nat)(H:aF)(K:Env→aF→Prop)(ρ':Env)(H':aF):Prop:=
 (∀k,k∈l→H' k=none)→∀Hm:aF,(∀k,k∈l→Hm k=H k)→(∀k,k∉l→Hm k=H' k)→K ρ' Hm
theorem kA{l:List Nat}{H:aF}{K:Env→aF→Prop}{ρ':Env}{H':aF}(h:(∀k,k∈l→H' k=none)→∀Hm:aF,(∀k,k∈l→Hm k=H k)→(∀k,k∉l→Hm k=H' k)→K ρ' Hm):lZ l H K ρ' H':=h
def mC(ops:Array Oper):List (Nat×Bool)→Array Bool→Bool
 | [],listed=>(Region.ready .any ops listed).isEmpty
 | (k,true)::f,listed=>(Region.ready .any ops listed).contains k&&Region.free .any ops listed k&&mC ops f (listed.setIfInBounds k true)
 | (k,false)::f,listed=>decide (Region.ready .any ops listed=[k])&&mC ops f (listed.setIfInBounds k true)
def JF(ops:Array Oper)(f:List (Nat×Bool)):Bool:=Region.noSelect ops&&decide (f.length=ops.size)&&mC ops f (Array.replicate ops.size false)
inductive Mx where
 | nil
 | q (k:Nat) (t:Mx)
 | a1 (k:Nat) (t:Mx)
 | a2 (k:Nat) (t:Mx) (k':Nat) (t':Mx)
 | a3 (k:Nat) (t:Mx) (k':Nat) (t':Mx) (k'':Nat) (t'':Mx)
def xD(P:Program)(C:kP)(PC:FuncId→List AV→aF→AV→Prop)(mt:Nat→Bool)(quiet:Bool)(ops:Array Oper)(k:Nat)(ρ:Env)(H:aF)(K:Env→aF→Prop):Prop:=
 match ops[k]? with
 | some o=>aop P C PC mt quiet ops o ρ H K
 | none=>False
def lQ(P:Program)(C:kP)(PC:FuncId→List AV→aF→AV→Prop)(mt:Nat→Bool)(ops:Array Oper)(K:Env→aF→Prop)(Hp:aF):Mx→Env→aF→Prop
 | .nil,ρ,H=>K ρ H
 | .q k t,ρ,H=>xD P C PC mt true ops k ρ Hp fun ρ' _=>lQ P C PC mt ops K Hp t ρ' H
 | .a1 k t,ρ,H=>xD P C PC mt false ops k ρ H (lQ P C PC mt ops K Hp t)
 | .a2 k t k' t',ρ,H=>xD P C PC mt false ops k ρ H (lQ P C PC mt ops K Hp t)∧xD P C PC mt false ops k' ρ H (lQ P C PC mt ops K Hp t')
 | .a3 k t k' t' k'' t'',ρ,H=>xD P C PC mt false ops k ρ H (lQ P C PC mt ops K Hp t)∧xD P C PC mt false ops k' ρ H (lQ P C PC mt ops K Hp t')∧xD P C PC mt false ops k'' ρ H (lQ P C PC mt ops K Hp t'')
def fA(ops:Array Oper):Mx→Nat→Array Bool→Bool
 | .nil,0,listed=>(Region.ready .any ops listed).isEmpty
 | .q k t,n+1,listed=>(Region.ready .any ops listed).contains k&&Region.free .any ops listed k&&fA ops t n (listed.setIfInBounds k true)
 | .a1 k t,n+1,listed=>decide (Region.ready .any ops listed=[k])&&fA ops t n (listed.setIfInBounds k true)
 | .a2 k t k' t',n+1,listed=>decide (Region.ready .any ops listed=[k,k'])&&fA ops t n (listed.setIfInBounds k true)&&fA ops t' n (listed.setIfInBounds k' true)
 | .a3 k t k' t' k'' t'',n+1,listed=>decide (Region.ready .any ops listed=[k,k',k''])&&fA ops t n (listed.setIfInBounds k true)&&fA ops t' n (listed.setIfInBounds k' true)&&fA ops t'' n (listed.setIfInBounds k'' true)
 | _,_,_=>false
def tX(ops:Array Oper)(t:Mx):Bool:=Region.noSelect ops&&fA ops t ops.size (Array.replicate ops.size false)
def rE(P:Program)(C:kP)(PC:FuncId→List AV→aF→AV→Prop)(mt:Nat→Bool)(ops:Array Oper)(K:Env→aF→Prop)(m:Nat)(ρ:Env)(H:aF):Prop:=
 (m=ops.size∧Region.lexB .any ops=true∧sS P C PC mt true ops K ops.toList ρ H) ∨
 (MG ops m=true∧sS P C PC mt true ops (fun ρ' _=>sS P C PC mt false ops K (ops.toList.drop m) ρ' H) (ops.toList.take m) ρ fun _=>none) ∨
 (∃f,JF ops f=true∧uE P C PC mt ops K f ρ H) ∨
 (∃l f,(∀k,k∈l→(H k).isSome=true)∧JF ops f=true∧∀Hp Hr:aF,(∀k,k∈l→Hp k=H k)→(∀k,k∉l→Hr k=H k)→(∀k,k∉l→Hp k=none)→(∀k,k∈l→Hr k=none)→nV P C PC mt ops (lZ l H K) Hp f ρ Hr) ∨
 ∃l t,(∀k,k∈l→(H k).isSome=true)∧tX ops t=true∧∀Hp Hr:aF,(∀k,k∈l→Hp k=H k)→(∀k,k∉l→Hr k=H k)→(∀k,k∉l→Hp k=none)→(∀k,k∈l→Hr k=none)→lQ P C PC mt ops (lZ l H K) Hp t ρ Hr
theorem gL{P:Program}{C:kP}{PC:FuncId→List AV→aF→AV→Prop}{mt:Nat→Bool}{l:List Oper}{K:Env→aF→Prop}{m:Nat}{ρ:Env}{H:aF}(hm:(m == l.length)=true)(hl:Region.lexB .any l.toArray=true)
 (h:sS P C PC mt true l.toArray K l ρ H):rE P C PC mt l.toArray K m ρ H:=.inl ⟨by simpa using hm,hl,h⟩
theorem Ft{P:Program}{C:kP}{PC:FuncId→List AV→aF→AV→Prop}{mt:Nat→Bool}{l:List Oper}{K:Env→aF→Prop}{m:Nat}{ρ:Env}{H:aF}(hB:MG l.toArray m=true)
 (h:sS P C PC mt true l.toArray (fun ρ' _=>sS P C PC mt false l.toArray K (l.drop m) ρ' H) (l.take m) ρ fun _=>none):rE P C PC mt l.toArray K m ρ H:=.inr (.inl ⟨hB,h⟩)
theorem kK{P:Program}{C:kP}{PC:FuncId→List AV→aF→AV→Prop}{mt:Nat→Bool}{l:List Oper}{K:Env→aF→Prop}{m:Nat}{ρ:Env}{H:aF}(f:List (Nat×Bool))(hB:JF l.toArray f=true)
 (h:uE P C PC mt l.toArray K f ρ H):rE P C PC mt l.toArray K m ρ H:=.inr (.inr (.inl ⟨f,hB,h⟩))
theorem gE{P:Program}{C:kP}{PC:FuncId→List AV→aF→AV→Prop}{mt:Nat→Bool}{ops:List Oper}{K:Env→aF→Prop}{m:Nat}{ρ:Env}{H:aF}(l:List Nat)(f:List (Nat×Bool))(hl:∀k,k∈l→(H k).isSome=true)(hB:JF ops.toArray f=true)
 (h:∀Hp Hr:aF,(∀k,k∈l→Hp k=H k)→(∀k,k∉l→Hr k=H k)→(∀k,k∉l→Hp k=none)→(∀k,k∈l→Hr k=none)→nV P C PC mt ops.toArray (lZ l H K) Hp f ρ Hr):rE P C PC mt ops.toArray K m ρ H:=.inr (.inr (.inr (.inl ⟨l,f,hl,hB,h⟩)))
theorem Bm{P:Program}{C:kP}{PC:FuncId→List AV→aF→AV→Prop}{mt:Nat→Bool}{ops:List Oper}{K:Env→aF→Prop}{m:Nat}{ρ:Env}{H:aF}(l:List Nat)(t:Mx)(hl:∀k,k∈l→(H k).isSome=true)(hB:tX ops.toArray t=true)
 (h:∀Hp Hr:aF,(∀k,k∈l→Hp k=H k)→(∀k,k∉l→Hr k=H k)→(∀k,k∉l→Hp k=none)→(∀k,k∈l→Hr k=none)→lQ P C PC mt ops.toArray (lZ l H K) Hp t ρ Hr):rE P C PC mt ops.toArray K m ρ H:=.inr (.inr (.inr (.inr ⟨l,t,hl,hB,h⟩)))
def awp(P:Program)(C:kP)(PC:FuncId→List AV→aF→AV→Prop)(mt:Nat→Bool):Code→(Ex→Env→aF→Prop)→Env→aF→Prop
 | .skip,Q,ρ,H=>Q .normal ρ H
 | .region _ ops draw,Q,ρ,H=>if draw=true then rE P C PC mt ops (Q .normal) (MD mt ops.toList) ρ H else sS P C PC mt false ops (Q .normal) ops.toList ρ H
 | .seq a b,Q,ρ,H=>awp P C PC mt a (Ex.seq (awp P C PC mt b Q) Q) ρ H
 | .cond c a b,Q,ρ,H=>match aev ρ c with
   | .v (.bool t)=>(t=true→awp P C PC mt a Q ρ H)∧(t=false→awp P C PC mt b Q ρ H)
   | _=>False
 | .block id c,Q,ρ,H=>awp P C PC mt c (Ex.blk id Q) ρ H
 | .loop c,Q,ρ,H=>Nc (awp P C PC mt c) Q ρ H
 | .scope c,Q,ρ,H=>awp P C PC mt c Q ρ H
 | .label _,Q,ρ,H=>Q .normal ρ H
 | .exit id,Q,ρ,H=>Q (.exit id) ρ H
 | .ret,Q,ρ,H=>Q .ret ρ H
 | _,_,_,_=>False
def uF(x:AV)(A B:Env→aF→Prop)(ρ:Env)(H:aF):Prop:=
 match x with
 | .v (.bool t)=>(t=true→A ρ H)∧(t=false→B ρ H)
 | _=>False
section
variable{P:Program}{C:kP}{PC:FuncId→List AV→aF→AV→Prop}{mt:Nat→Bool}{Q:Ex→Env→aF→Prop}{K:Env→aF→Prop}{ρ:Env}{H:aF}{a b c:Code}{id:Nat}{ops:Array Oper}{draw:Bool}
theorem PG:awp P C PC mt .skip Q ρ H=Q .normal ρ H:=(rfl)
theorem CM:awp P C PC mt (.region id ops false) Q ρ H=sS P C PC mt false ops (Q .normal) ops.toList ρ H:=by simp[awp]
theorem Iu:awp P C PC mt (.region id ops true) Q ρ H=rE P C PC mt ops (Q .normal) (MD mt ops.toList) ρ H:=by simp[awp]
@[congr] theorem adraw_c {m m':Nat} (h:m=m'):rE P C PC mt ops K m ρ H=rE P C PC mt ops K m' ρ H:=h▸rfl
theorem MK:awp P C PC mt (.seq a b) Q ρ H=awp P C PC mt a (Ex.seq (awp P C PC mt b Q) Q) ρ H:=(rfl)
theorem JO{x:Operand}:awp P C PC mt (.cond x a b) Q ρ H=uF (aev ρ x) (awp P C PC mt a Q) (awp P C PC mt b Q) ρ H:=(rfl)
theorem Ev:awp P C PC mt (.block id c) Q ρ H=awp P C PC mt c (Ex.blk id Q) ρ H:=(rfl)
theorem IJ:awp P C PC mt (.loop c) Q ρ H=Nc (awp P C PC mt c) Q ρ H:=(rfl)
theorem ED:awp P C PC mt (.scope c) Q ρ H=awp P C PC mt c Q ρ H:=(rfl)
theorem Og{l:Nat}:awp P C PC mt (.label l) Q ρ H=Q .normal ρ H:=(rfl)
theorem Pz:awp P C PC mt (.exit id) Q ρ H=Q (.exit id) ρ H:=(rfl)
theorem TI:awp P C PC mt .ret Q ρ H=Q .ret ρ H:=(rfl)
theorem S1:sS P C PC mt draw ops K [] ρ H=K ρ H:=(rfl)
theorem OH{o:Oper}{r:List Oper}:sS P C PC mt draw ops K (o::r) ρ H=aop P C PC mt draw ops o ρ H (sS P C PC mt draw ops K r):=(rfl)
theorem LU:Ex.seq K Q .normal ρ H=K ρ H:=(rfl)
theorem Ra:Ex.seq K Q (.exit id) ρ H=Q (.exit id) ρ H:=(rfl)
theorem Vp:Ex.seq K Q .ret ρ H=Q .ret ρ H:=(rfl)
theorem Lu:Ex.blk id Q .normal ρ H=Q .normal ρ H:=(rfl)
theorem M4:Ex.blk id Q .ret ρ H=Q .ret ρ H:=(rfl)
theorem JT:Ex.blk id Q (.exit id) ρ H=Q .normal ρ H:=by simp[Ex.blk]
theorem Pf{i:Nat}(h:(i == id)=false):Ex.blk id Q (.exit i) ρ H=Q (.exit i) ρ H:=by
 have:i≠id:=by simpa using h
 simp[Ex.blk,this]
end
@[congr] theorem wopd_c {G x x' k} (h:x=x'):bH G x k=bH G x' k:=h▸rfl
@[congr] theorem abin_c {P G op t x x' y y' k} (h:x=x') (h':y=y'):fP P G op t x y k=fP P G op t x' y' k:=h▸h'▸rfl
@[congr] theorem apick_c {G c c' x x' y y' k} (h0:c=c') (h:x=x') (h':y=y'):wI G c x y k=wI G c' x' y' k:=h0▸h▸h'▸rfl
@[congr] theorem aload_c {G H l l' x x' k} (h:l=l') (h':x=x'):lX G H l x k=lX G H l' x' k:=h▸h'▸rfl
@[congr] theorem apart_c {G o o' l l' x x' k} (h0:o=o') (h:l=l') (h':x=x'):apart G o l x k=apart G o' l' x' k:=h0▸h▸h'▸rfl
@[congr] theorem alen_c {P H t x x' k} (h':x=x'):Dh P H t x k=Dh P H t x' k:=h'▸rfl
@[congr] theorem aindexAddr_c {P G H t x x' y y' k} (h:x=x') (h':y=y'):eX P G H t x y k=eX P G H t x' y' k:=h▸h'▸rfl
@[congr] theorem aindex_c {P G t x x' y y' k} (h:x=x') (h':y=y'):sE P G t x y k=sE P G t x' y' k:=h▸h'▸rfl
@[congr] theorem afieldAddr_c {P t f x x' k} (h':x=x'):iN P t f x k=iN P t f x' k:=h'▸rfl
@[congr] theorem abuild_c {P t l l' k} (h':l=l'):tG P t l k=tG P t l' k:=h'▸rfl
@[congr] theorem aslice_c {P G t x x' lo lo' hi hi' k} (h:x=x') (h1:lo=lo') (h2:hi=hi'):kU P G t x lo hi k=kU P G t x' lo' hi' k:=h▸h1▸h2▸rfl
@[congr] theorem aun_c {op x x' k} (h':x=x'):aun op x k=aun op x' k:=h'▸rfl
@[congr] theorem aconv_c {P s t x x' k} (h':x=x'):tO P s t x k=tO P s t x' k:=h'▸rfl
@[congr] theorem wcells_c {x x' K} (h:x=x'):kT x K=kT x' K:=h▸rfl
@[congr] theorem acond_c {x x' A B ρ H} (h':x=x'):uF x A B ρ H=uF x' A B ρ H:=h'▸rfl
@[congr] theorem abox_c {mt o t x x' ρ H K} (h:x=x'):TZ mt o t x ρ H K=TZ mt o t x' ρ H K:=h▸rfl
@[congr] theorem abuildSlice_c {P mt G o t n x x' ρ H K} (h:x=x'):lO P mt G o t n x ρ H K=lO P mt G o t n x' ρ H K:=h▸rfl
@[congr] theorem astore_c {P o t a a' x x' ρ H K} (h:a=a') (h':x=x'):vC P o t a x ρ H K=vC P o t a' x' ρ H K:=h▸h'▸rfl
@[congr] theorem aappend_c {P o t a a' x x' ρ H K} (h:a=a') (h':x=x'):vV P o t a x ρ H K=vV P o t a' x' ρ H K:=h▸h'▸rfl
@[congr] theorem asrc_c {H x x' K} (h:x=x'):B0 H x K=B0 H x' K:=h▸rfl
@[congr] theorem anew_c {H r r' K} (h:r=r'):mS H r K=mS H r' K:=h▸rfl
theorem aA{t:Bool}{A B:Env→aF→Prop}{ρ:Env}{H:aF}(h1:t=true→A ρ H)(h2:t=false→B ρ H):uF (.v (.bool t)) A B ρ H:=⟨h1,h2⟩
def Hh(args:List AV):Env:=fun t=>args.getD t .any
def bQ:AV→Nat
 | .v (.int _ n)=>n.toNat
 | _=>0
theorem aI{k n}:bQ (.v (.int k n))=n.toNat:=(rfl)
section
variable{G:Option Bool}{k:AV→Prop}
theorem RX{x}:bH G (.v x) k=k (.v x):=(rfl)
theorem I8:bH G .any k=k .any:=(rfl)
theorem MR{x}:bH G (.sl x) k=k (.sl x):=(rfl)
theorem Mn{x o}:bH G (.rp x o) k=k (.rp x o):=(rfl)
theorem Jf{x}:bH G (.agg x) k=k (.agg x):=(rfl)
theorem G9{x}:bH G (.tup x) k=k (.tup x):=(rfl)
theorem ME{x}:bH G (.os x) k=k (.os x):=(rfl)
theorem Nf{x i f}:bH G (.op x i f) k=k (.op x i f):=(rfl)
theorem Mi{f l}:bH G (.fn f l) k=k (.fn f l):=(rfl)
theorem Nd{j a b}:bH G (.oz j a b) k=k (.oz j a b):=(rfl)
theorem Nn{es}:bH G (.cl es) k=k (.cl es):=(rfl)
theorem No{j}:bH G (.om j) k=k (.om j):=(rfl)
theorem ML{g x}:bH G (.gd g x) k=(gok G g∧k x):=(rfl)
end
def MX(K:Env→aF→Prop)(ρ:Env)(d:Option Tmp)(j:Nat)(H:aF):Prop:=K (upd ρ d (.os j)) H
def Mr(K:Env→aF→Prop)(ρ:Env)(d:Option Tmp)(j:Nat)(H:aF):Prop:=K (upd ρ d (.op j 0 0)) H
def SM(K:Env→aF→Prop)(ρ:Env)(d:Option Tmp)(r:AV)(H:aF):Prop:=K (upd ρ d r) H
theorem Hs{K ρ d j H}:MX K ρ d j H=K (upd ρ d (.os j)) H:=(rfl)
theorem Jz{K ρ d j H}:Mr K ρ d j H=K (upd ρ d (.op j 0 0)) H:=(rfl)
theorem JV{K ρ d r H}:SM K ρ d r H=K (upd ρ d r) H:=(rfl)
def wpick(G:Option Bool)(c x y:AV)(k:AV→Prop):Prop:=match c with
 | .v (.bool c)=>wI G c x y k
 | _=>False
@[congr] theorem wpick_c {G c c' x y k} (h:c=c'):wpick G c x y k=wpick G c' x y k:=h▸rfl
theorem MH{G c x y k}:wpick G (.v (.bool c)) x y k=wI G c x y k:=(rfl)
def Tr(x:AV)(k:AV→Prop):Prop:=match x with
 | .rp cs off=>k (.rp cs off)
 | .op j i f=>k (.op j i f)
 | _=>False
@[congr] theorem wptr_c {x x' k} (h:x=x'):Tr x k=Tr x' k:=h▸rfl
theorem Ni{cs o k}:Tr (.rp cs o) k=k (.rp cs o):=(rfl)
theorem Np{j i f k}:Tr (.op j i f) k=k (.op j i f):=(rfl)
def Vt(G:Option Bool)(x:AV)(i:Nat)(k:AV→Prop):Prop:=match x with
 | .tup vs=>(gt G→i<vs.length)∧k (vs.getD i .any)
 | _=>False
@[congr] theorem wtup_c {G x x' i k} (h:x=x'):Vt G x i k=Vt G x' i k:=h▸rfl
theorem Nw{G vs i k}:Vt G (.tup vs) i k=((gt G→i<vs.length)∧k (vs.getD i .any)):=(rfl)
def OO(P:Program)(d:Option Tmp)(t:TypeId)(a:AV)(cs:List AV)(ρ:Env)(H:aF)(K:Env→aF→Prop):Prop:=qB P ⟨d,.move (.tmp 0),0,"",#[],none⟩ t a cs ρ H K
@[congr] theorem wput_c {P d t a a' cs cs' ρ H K} (h:a=a') (h':cs=cs'):OO P d t a cs ρ H K=OO P d t a' cs' ρ H K:=h▸h'▸rfl
def Tj(P:Program)(d:Option Tmp)(t:TypeId)(s x:AV)(ρ:Env)(H:aF)(K:Env→aF→Prop):Prop:=vV P ⟨d,.move (.tmp 0),0,"",#[],none⟩ t s x ρ H K
@[congr] theorem wapp_c {P d t s s' x x' ρ H K} (h:s=s') (h':x=x'):Tj P d t s x ρ H K=Tj P d t s' x' ρ H K:=h▸h'▸rfl
def Hq(P:Program)(d:Option Tmp)(t:TypeId)(l c:AV)(ρ:Env)(H:aF)(K:Env→aF→Prop):Prop:=pT P ⟨d,.move (.tmp 0),0,"",#[],none⟩ t l c ρ H K
@[congr] theorem wmake_c {P d t s s' x x' ρ H K} (h:s=s') (h':x=x'):Hq P d t s x ρ H K=Hq P d t s' x' ρ H K:=h▸h'▸rfl
def Qb(P:Program)(d:Option Tmp)(t:TypeId)(x y:AV)(ρ:Env)(H:aF)(K:Env→aF→Prop):Prop:=PK P ⟨d,.move (.tmp 0),0,"",#[],none⟩ t x y ρ H K
@[congr] theorem wcopy_c {P d t s s' x x' ρ H K} (h:s=s') (h':x=x'):Qb P d t s x ρ H K=Qb P d t s' x' ρ H K:=h▸h'▸rfl
def CY(P:Program)(d:Option Tmp)(t:TypeId)(x:AV)(ρ:Env)(H:aF)(K:Env→aF→Prop):Prop:=Gf P ⟨d,.move (.tmp 0),0,"",#[],none⟩ t x ρ H K
@[congr] theorem wclear_c {P d t s s' ρ H K} (h:s=s'):CY P d t s ρ H K=CY P d t s' ρ H K:=h▸rfl
theorem RW{P:Program}{d:Option Tmp}{t:TypeId}{x:AV}{ρ:Env}{H:aF}{K:Env→aF→Prop}{e:TypeId}{sz bytes j a n:Nat}{r:Row}{zs:List AV}(he:bY P t=some (e,sz,bytes))(hz:eH P e=some zs)(hj:H j=some r)
   (hx:(x=.os j∧a=0∧n=r.es.length)∨∃b,x=.oz j a b∧n=b-a) (h1:r.sz=sz) (h:K (upd ρ d .any) (aJ H j (some { r with es:=r.es.take a++List.replicate n zs++r.es.drop (a+n) }))):CY P d t x ρ H K:=by
 unfold CY Gf;have ht:∀F:Nat→Nat→Nat→Row→Prop,F j a n r→Ko H x F:=by
   intro F hF;rcases hx with⟨rfl,rfl,rfl⟩|⟨b,rfl,rfl⟩
   · simp only[Ko,hj];exact hF
   · simp only[Ko,hj];exact hF
 refine ht _ ?_;simp only[he,hz];exact⟨h1,h⟩
theorem aN{H:aF}{r:Row}{F:Nat→aF→Prop}(h:∀j,H j=none→F j (aJ H j (some r))):mS H r F:=h
def aW{α:Type}(o:Option α)(f:α→Prop):Prop:=match o with|some x=>f x|none=>False
theorem CL{α:Type}{x:α}{f:α→Prop}:aW (some x) f=f x:=(rfl)
@[congr] theorem withO_c {α:Type} {o o':Option α} {f:α→Prop} (h:o=o'):aW o f=aW o' f:=h▸rfl
section
variable{P:Program}{C:kP}{PC:FuncId→List AV→aF→AV→Prop}{mt:Nat→Bool}{q:Bool}{ops:Array Oper}{d:Option Tmp}{ty:TypeId}{pos:String}{aft:Array Edge}{ρ:Env}{H:aF}{K:Env→aF→Prop}{G:Option Bool}{k:AV→Prop}
theorem MU{t}:aev ρ (.tmp t)=ρ t:=(rfl)
theorem DF{v}:aev ρ (.const v)=oA v:=(rfl)
theorem JA{f}:aev ρ (.func f)=.v (.func (.func f) #[] #[]):=(rfl)
theorem HZ{t n a b}:fP P G .add t (.v (.int n a)) (.v (.int n b)) k=k (.v (.int n (n.wrap (a+b)))):=by simp[fP,sX]
theorem If{t n a b}:fP P G .sub t (.v (.int n a)) (.v (.int n b)) k=k (.v (.int n (n.wrap (a-b)))):=by simp[fP,sX]
theorem Jx{t n a b}:fP P G .mul t (.v (.int n a)) (.v (.int n b)) k=k (.v (.int n (n.wrap (a*b)))):=by simp[fP,sX]
theorem JD{t n a b}:fP P G .quo t (.v (.int n a)) (.v (.int n b)) k=((gt G→b≠0)∧k (.v (.int n (n.wrap (a.tdiv b))))):=by simp[fP,sX]
theorem IP{t n a b}:fP P G .rem t (.v (.int n a)) (.v (.int n b)) k=((gt G→b≠0)∧k (.v (.int n (a.tmod b)))):=by simp[fP,sX]
theorem Ja{t n a b}:fP P G .eql t (.v (.int n a)) (.v (.int n b)) k=k (.v (.bool (a == b))):=by simp[fP,sX]
theorem Jm{t n a b}:fP P G .neq t (.v (.int n a)) (.v (.int n b)) k=k (.v (.bool (a != b))):=by simp[fP,sX]
theorem Jc{t n a b}:fP P G .lss t (.v (.int n a)) (.v (.int n b)) k=k (.v (.bool (decide (a<b)))):=by simp[fP,sX]
theorem Il{t n a b}:fP P G .leq t (.v (.int n a)) (.v (.int n b)) k=k (.v (.bool (decide (a≤b)))):=by simp[fP,sX]
theorem JR{t n a b}:fP P G .gtr t (.v (.int n a)) (.v (.int n b)) k=k (.v (.bool (decide (a>b)))):=by simp[fP,sX]
theorem JG{t n a b}:fP P G .geq t (.v (.int n a)) (.v (.int n b)) k=k (.v (.bool (decide (a≥b)))):=by simp[fP,sX]
theorem Hy{t n m a b}:fP P G .shl t (.v (.int n a)) (.v (.int m b)) k=((gt G→0≤b)∧k (.v (.int n (shV .shl n a b)))):=by simp[fP,sX]
theorem J2{t n m a b}:fP P G .shr t (.v (.int n a)) (.v (.int m b)) k=((gt G→0≤b)∧k (.v (.int n (shV .shr n a b)))):=by simp[fP,sX]
theorem HW{t n a b}:fP P G .and t (.v (.int n a)) (.v (.int n b)) k=k (.v (.int n (pV .and n a b))):=by simp[fP,sX]
theorem Nh{t n a b}:fP P G .or t (.v (.int n a)) (.v (.int n b)) k=k (.v (.int n (pV .or n a b))):=by simp[fP,sX]
theorem IK{t n a b}:fP P G .xor t (.v (.int n a)) (.v (.int n b)) k=k (.v (.int n (pV .xor n a b))):=by simp[fP,sX]
theorem AA{t n a b}:fP P G .andNot t (.v (.int n a)) (.v (.int n b)) k=k (.v (.int n (pV .andNot n a b))):=by simp[fP,sX]
theorem ET{op t x}:fP P G op t (.v x) .any k=((gt G→False)∧k .any):=by cases x <;> rfl
theorem DO{op t x}:fP P G op t .any (.v x) k=((gt G→False)∧k .any):=by cases x <;> rfl
theorem D9{x}:rB false .any (.v x)=.v x:=by cases x <;> rfl
theorem CR{x}:rB true (.v x) .any=.v x:=by cases x with
 | bool b=>cases b <;> rfl
 | _=>rfl
theorem D4{t a b}:fP P G .add t (.v (.string a)) (.v (.string b)) k=((gt G→((a.size+b.size:Nat):Int)≤IntKind.i64.max)∧k (.v (.string (a++b)))):=(rfl)
theorem EB{t a b}:fP P G .eql t (.v (.string a)) (.v (.string b)) k=k (.v (.bool (a.toList == b.toList))):=(rfl)
theorem ER{t a b}:fP P G .neq t (.v (.string a)) (.v (.string b)) k=k (.v (.bool !(a.toList == b.toList))):=(rfl)
theorem DE{t a b}:fP P G .eql t (.v (.bool a)) (.v (.bool b)) k=if vN P t then k (.v (.bool (a == b)))else False:=(rfl)
theorem En{t a b}:fP P G .neq t (.v (.bool a)) (.v (.bool b)) k=if vN P t then k (.v (.bool !(a == b)))else False:=(rfl)
theorem ES{t x y}:fP P G .eql t (.agg x) (.agg y) k=aW (wG P t) fun l=>aW (gB l x y) fun b=>k (.v (.bool b)):=by
 cases h1:wG P t with
 | none=>simp[fP,aW,h1]
 | some l=>cases h2:gB l x y <;> simp[fP,aW,h1,h2]
theorem Eh{t x y}:fP P G .neq t (.agg x) (.agg y) k=aW (wG P t) fun l=>aW (gB l x y) fun b=>k (.v (.bool !b)):=by
 cases h1:wG P t with
 | none=>simp[fP,aW,h1]
 | some l=>cases h2:gB l x y <;> simp[fP,aW,h1,h2]
theorem G6{c x y}:wI G c (.v x) (.v y) k=k (rB c (.v x) (.v y)):=(rfl)
theorem G3{c x g y}:wI G c (.v x) (.gd g y) k=((gt G→c=false→g=true)∧k (rB c (.v x) y)):=(rfl)
theorem HJ{c g x y}:wI G c (.gd g x) (.v y) k=((gt G→c=true→g=true)∧k (rB c x (.v y))):=(rfl)
theorem Nv{c b}:rB c (.v (.bool true)) (.v (.bool b))=.v (.bool (c||b)):=(rfl)
theorem Nx{c a}:rB c (.v (.bool a)) (.v (.bool false))=.v (.bool (c&&a)):=by cases a <;> cases c <;> rfl
theorem E7{cs o}:lX G H none (.rp cs o) k=((gt G→o<cs.length)∧k (cs.getD o .any)):=(rfl)
theorem E8{cs o n}:lX G H (some n) (.rp cs o) k=((gt G→o+n≤cs.length)∧k (.agg ((cs.drop o).take n))):=(rfl)
theorem Ez{j i f}:lX G H none (.op j i f) k=aW (H j) fun r=>(gt G→i<r.es.length∧f<r.sz)∧k ((r.es.getD i []).getD f .any):=by
 cases h1:H j <;> simp[lX,aW,h1]
theorem Fj{j i f n}:lX G H (some n) (.op j i f) k=aW (H j) fun r=>(gt G→i<r.es.length∧f+n≤r.sz)∧k (.agg (((r.es.getD i []).drop f).take n)):=by
 cases h1:H j <;> simp[lX,aW,h1]
theorem MQ{o cs}:apart G o none (.agg cs) k=((gt G→o<cs.length)∧k (cs.getD o .any)):=(rfl)
theorem NB{o n cs}:apart G o (some n) (.agg cs) k=((gt G→o+n≤cs.length)∧k (.agg ((cs.drop o).take n))):=(rfl)
theorem Mm{t es}:Dh P H t (.sl es) k=if cG P t then k (.v (.int .i64 es.length))else False:=(rfl)
theorem Mo{t j}:Dh P H t (.os j) k=aW (H j) fun r=>if cG P t then k (.v (.int .i64 r.es.length))else False:=by
 cases h1:H j <;> simp[Dh,aW,h1]
theorem NF{t s}:Dh P H t (.v (.string s)) k=if dI P t then k (.v (.int .i64 s.size))else False:=(rfl)
theorem wC{t es n i}:eX P G H t (.sl es) (.v (.int n i)) k=aW (bY P t) fun e=>(gt G→(0≤i∧i<es.length)∧(es.getD i.toNat []).length=e.2.1)∧k (.rp (es.getD i.toNat []) 0):=by
 cases h1:bY P t <;> simp[eX,aW,h1]
theorem wN{t j n i}:eX P G H t (.os j) (.v (.int n i)) k=aW (H j) fun r=>aW (bY P t) fun e=>(gt G→(0≤i∧i<r.es.length)∧r.sz=e.2.1)∧k (.op j i.toNat 0):=by
 cases h1:H j <;> cases h2:bY P t <;> simp[eX,aW,h1,h2]
theorem wP{t cs o n i}:eX P G H t (.rp cs o) (.v (.int n i)) k=aW (qL P t) fun e=>(gt G→0≤i∧i<e.1)∧k (.rp cs (o+i.toNat*e.2.1)):=by
 cases h1:qL P t <;> simp[eX,aW,h1]
theorem wK{t j a o n i}:eX P G H t (.op j a o) (.v (.int n i)) k=aW (qL P t) fun e=>(gt G→0≤i∧i<e.1)∧k (.op j a (o+i.toNat*e.2.1)):=by
 cases h1:qL P t <;> simp[eX,aW,h1]
theorem wM{t f cs o}:iN P t f (.rp cs o) k=aW (aK P t f) fun e=>k (.rp cs (o+e.1)):=by
 cases h1:aK P t f <;> simp[iN,aW,h1]
theorem wD{t f j i o}:iN P t f (.op j i o) k=aW (aK P t f) fun e=>k (.op j i (o+e.1)):=by
 cases h1:aK P t f <;> simp[iN,aW,h1]
theorem M5{b}:aun .not (.v (.bool b)) k=k (.v (.bool !b)):=(rfl)
theorem NA{n i}:aun .neg (.v (.int n i)) k=k (.v (.int n (n.wrap (0-i)))):=(rfl)
theorem Et{s t n i}:tO P s t (.v (.int n i)) k=aW (Bb P t) fun m=>aW (Bb P s) fun _=>k (.v (.int m (m.wrap i))):=by
 cases h1:Bb P t <;> cases h2:Bb P s <;> simp[tO,aW,h1,h2]
theorem Fi{s t x}:tO P s t (.v (.string x)) k=if dI P s∧dI P t then k (.v (.string x))else False:=(rfl)
theorem HH{s t es}:tO P s t (.sl es) k=if zI P s∧dI P t then aW (oG es) fun ns=>k (.v (.string (strOfNums ns)))else False:=by
 by_cases hc:zI P s∧dI P t
 · cases h1:oG es <;> simp[tO,aW,hc,h1]
 · simp[tO,hc]
theorem Eo{t es n a m b}:kU P G t (.sl es) (some (.v (.int n a))) (some (.v (.int m b))) k=aW (bY P t) fun e=>(gt G→(0≤a∧a≤b∧b≤es.length)∧dK e.2.1 es)∧k (.sl ((es.take b.toNat).drop a.toNat)):=by
 cases h1:bY P t <;> simp[kU,aW,h1]
theorem Jv{t es n a}:kU P G t (.sl es) (some (.v (.int n a))) none k=aW (bY P t) fun e=>(gt G→(0≤a∧a≤es.length)∧dK e.2.1 es)∧k (.sl (es.drop a.toNat)):=by
 cases h1:bY P t <;> simp[kU,aW,h1]
theorem JX{t es m b}:kU P G t (.sl es) none (some (.v (.int m b))) k=aW (bY P t) fun _=>(gt G→0≤b∧b≤es.length)∧k (.sl (es.take b.toNat)):=by
 cases h1:bY P t <;> simp[kU,aW,h1]
theorem Cz{t s n a m b}:kU P G t (.v (.string s)) (some (.v (.int n a))) (some (.v (.int m b))) k=if dI P t then(gt G→0≤a∧a≤b∧b≤s.size)∧k (.v (.string (s.extract a.toNat b.toNat)))else False:=(rfl)
theorem EP{t s n a}:kU P G t (.v (.string s)) (some (.v (.int n a))) none k=if dI P t then(gt G→0≤a∧a≤s.size)∧k (.v (.string (s.extract a.toNat s.size)))else False:=(rfl)
theorem Fl{t s m b}:kU P G t (.v (.string s)) none (some (.v (.int m b))) k=if dI P t then(gt G→0≤b∧b≤s.size)∧k (.v (.string (s.extract 0 b.toNat)))else False:=(rfl)
theorem HM{P:Program}{t es n m}{a b:Int}:Az P G t (.sl es) (.v (.int n a)) (.v (.int m b)) k=aW (bY P t) fun _=>(gt G→a=es.length∧b=es.length)∧k (.cl es):=by
 unfold Az aW;cases bY P t <;> rfl
@[congr] theorem aclip_c {P:Program} {t x x' a a' b b'} (h:x=x') (h1:a=a') (h2:b=b'):Az P G t x a b k=Az P G t x' a' b' k:=h▸h1▸h2▸rfl
theorem Ew{t s n i}:sE P G t (.v (.string s)) (.v (.int n i)) k=if dI P t then(gt G→0≤i∧i<s.size)∧k (.v (.int .u8 ((s.data.getD i.toNat 0).toNat:Int)))else False:=(rfl)
theorem Dx{t cs n i}:sE P G t (.agg cs) (.v (.int n i)) k=aW (qL P t) fun e=>(gt G→0≤i∧i<e.1)∧apart G (i.toNat*e.2.1) e.2.2 (.agg cs) k:=by
 cases h1:qL P t <;> simp[sE,aW,h1]
theorem CJ{cs}{k:List AV→Prop}:kT (.agg cs) k=k cs:=(rfl)
theorem IQ{v}{k:List AV→Prop}:kT (.v v) k=(v.oneCell'=true∧k [.v v]):=(rfl)
theorem DB{es}{k:List AV→Prop}:kT (.sl es) k=k [.sl es]:=(rfl)
theorem D7{cs o}{k:List AV→Prop}:kT (.rp cs o) k=k [.rp cs o]:=(rfl)
theorem Ei{j}{k:List AV→Prop}:kT (.os j) k=k [.os j]:=(rfl)
theorem E9{j i f}{k:List AV→Prop}:kT (.op j i f) k=k [.op j i f]:=(rfl)
theorem Dz{t l}:tG P t l k=aW (eH P t) fun z=>aW (fL P t) fun pl=>aW (oK pl z l) fun cs=>k (.agg cs):=by
 cases h1:eH P t with
 | none=>simp[tG,aW,h1]
 | some z=>cases h2:fL P t with
   | none=>simp[tG,aW,h1,h2]
   | some pl=>cases h3:oK pl z l <;> simp[tG,aW,h1,h2,h3]
def wgd(x:AV)(w:Bool)(F:Option Bool→Prop):Prop:=match x with
 | .v (.bool b)=>F (some (b == w))
 | .gd g (.v (.bool b))=>F (some (g&&(b == w)))
 | _=>False
@[congr] theorem wgd_c {x x' w F} (h:x=x'):wgd x w F=wgd x' w F:=h▸rfl
theorem V6{b w F}:wgd (.v (.bool b)) w F=F (some (b == w)):=(rfl)
theorem VQ{g b w F}:wgd (.gd g (.v (.bool b))) w F=F (some (g&&(b == w))):=(rfl)
theorem AT{F}:bZ ops ρ none F=F none:=(rfl)
theorem AN{j w F}:bZ ops ρ (some (j,w)) F=aW ((ops[j]?).bind (·.dst)) fun t=>wgd (ρ t) w F:=by
 cases h1:(ops[j]?).bind (·.dst)with
 | none=>simp[bZ,aW,h1]
 | some t=>simp only[bZ,aW,h1,wgd]
def kM(K:Env→aF→Prop)(ρ:Env)(d:Option Tmp)(G:Option Bool)(H:aF)(x:AV):Prop:=K (upd ρ d (wr G x)) H
theorem Ff{x}:kM K ρ d none H x=K (upd ρ d x) H:=(rfl)
theorem D0{b x}:kM K ρ d (some b) H x=K (upd ρ d (.gd b x)) H:=(rfl)
end
section
variable{P:Program}{C:kP}{PC:FuncId→List AV→aF→AV→Prop}{mt:Nat→Bool}{q:Bool}{ops:Array Oper}{d:Option Tmp}{ty:TypeId}{pos:String}{aft:Array Edge}{gd:Option (Nat×Bool)}{ρ:Env}{H:aF}{K:Env→aF→Prop}
theorem Sa{x}:aop P C PC mt q ops ⟨d,.move x,ty,pos,aft,gd⟩ ρ H K=bZ ops ρ gd fun G=>if tJ mt d=true then G=none∧q=false∧vT x ρ d H K else bH G (aev ρ x) (kM K ρ d G H):=(rfl)
theorem SU{c a b}:aop P C PC mt q ops ⟨d,.pick c a b,ty,pos,aft,gd⟩ ρ H K=bZ ops ρ gd fun G=>bH G (aev ρ c) fun x=>wpick G x (aev ρ a) (aev ρ b) (kM K ρ d G H):=(rfl)
theorem Pp{t l}: aop P C PC mt q ops ⟨d, .build t l, ty, pos, aft, gd⟩ ρ H K = bZ ops ρ gd fun G => if tJ mt d = true then G = none ∧ (if q = true then mV none ρ l.toList (fun l => aW (eH P t) fun z => aW (fL P t) fun pl => aW (oJ P t) fun nl => aW (oK pl (DT nl z) l) fun cs => kM K ρ d none H (.agg cs)) else
     mV none ρ l.toList (fun l=>aW (eH P t) fun z=>aW (fL P t) fun pl=>aW (oJ P t) fun nl=>jI nl z H fun z H=>aW (oK pl z l) fun cs=>kM K ρ d none H (.agg cs)))
   else mV G ρ l.toList fun l=>tG P t l (kM K ρ d G H):=by
 show bZ ops ρ gd (fun G=>if tJ mt d=true then G=none∧(if q=true then vO P ⟨d,.build t l,ty,pos,aft,gd⟩ t l.toList ρ H K else xY P ⟨d,.build t l,ty,pos,aft,gd⟩ t l.toList ρ H K)else _)=_
 congr 1;funext G;congr 3
 · unfold vO
   congr 1;funext l
   cases h1:eH P t with
   | none=>simp[aW]
   | some z=>cases h2:fL P t with
     | none=>simp[aW]
     | some pl=>cases h3:oJ P t with
       | none=>simp[aW]
       | some nl=>simp only[aW];cases h4:oK pl (DT nl z) l <;> rfl
 unfold xY
 congr 1;funext l
 cases h1:eH P t with
 | none=>simp[aW]
 | some z=>cases h2:fL P t with
   | none=>simp[aW]
   | some pl=>cases h3:oJ P t with
     | none=>simp[aW]
     | some nl=>simp only[aW];congr 1;funext z H;cases h4:oK pl z l <;> rfl
theorem RR{t x}:aop P C PC mt q ops ⟨d,.load t x,ty,pos,aft,gd⟩ ρ H K=bZ ops ρ gd fun G=>if tJ mt d=true then G=none∧q=false∧aW (ldT P t) fun l=>bH none (aev ρ x) fun y=>lX none H l y fun z=>EH z ρ d H K else aW (ldT P t) fun l=>bH G (aev ρ x) fun y=>lX G H l y (kM K ρ d G H):=by
 show bZ ops ρ gd (fun G=>if tJ mt d=true then G=none∧q=false∧fY P none ρ H (.load t x) fun z=>EH z ρ d H K else fY P G ρ H (.load t x) (kM K ρ d G H))=_
 congr 1;funext G;cases h1:ldT P t <;> simp[fY,aW,h1]
theorem FS{x}:aop P C PC mt q ops ⟨d,.nilCheck x,ty,pos,aft,gd⟩ ρ H K=bZ ops ρ gd fun G=>bH G (aev ρ x) fun y=>Tr y (kM K ρ d G H):=(rfl)
theorem TJ{op t x y t'}:aop P C PC mt q ops ⟨d,.binOp op t x y t',ty,pos,aft,gd⟩ ρ H K=bZ ops ρ gd fun G=>if pD y=true then bH G (aev ρ x) fun x=>cG P t=true∧oC op x (kM K ρ d G H)else bH G (aev ρ x) fun x=>bH G (aev ρ y) fun y=>fP P G op t x y (kM K ρ d G H):=(rfl)
theorem Xo{op t x}:aop P C PC mt q ops ⟨d,.unOp op t x,ty,pos,aft,gd⟩ ρ H K=bZ ops ρ gd fun G=>bH G (aev ρ x) fun x=>aun op x (kM K ρ d G H):=(rfl)
theorem Rg{s t x}:aop P C PC mt q ops ⟨d,.convert s t x,ty,pos,aft,gd⟩ ρ H K=bZ ops ρ gd fun G=>bH G (aev ρ x) fun x=>tO P s t x (kM K ρ d G H):=(rfl)
theorem Fy{t x lo hi}:aop P C PC mt q ops ⟨d,.slice t x (some lo) (some hi) none,ty,pos,aft,gd⟩ ρ H K=bZ ops ρ gd fun G=>bH G (aev ρ x) fun x=>bH G (aev ρ lo) fun lo=>bH G (aev ρ hi) fun hi=>asl P G H t x (some lo) (some hi) (kM K ρ d G H):=(rfl)
theorem JN{t x hi m}:aop P C PC mt q ops ⟨d,.slice t x none (some hi) (some m),ty,pos,aft,gd⟩ ρ H K=bZ ops ρ gd fun G=>bH G (aev ρ x) fun x=>bH G (aev ρ hi) fun hi=>bH G (aev ρ m) fun m=>Az P G t x hi m (kM K ρ d G H):=(rfl)
theorem JM{t x lo}:aop P C PC mt q ops ⟨d,.slice t x (some lo) none none,ty,pos,aft,gd⟩ ρ H K=bZ ops ρ gd fun G=>bH G (aev ρ x) fun x=>bH G (aev ρ lo) fun lo=>asl P G H t x (some lo) none (kM K ρ d G H):=(rfl)
theorem Jy{t x hi}:aop P C PC mt q ops ⟨d,.slice t x none (some hi) none,ty,pos,aft,gd⟩ ρ H K=bZ ops ρ gd fun G=>bH G (aev ρ x) fun x=>bH G (aev ρ hi) fun hi=>asl P G H t x none (some hi) (kM K ρ d G H):=(rfl)
theorem Dp{t x f}:aop P C PC mt q ops ⟨d,.fieldAddr t x f,ty,pos,aft,gd⟩ ρ H K=bZ ops ρ gd fun G=>bH G (aev ρ x) fun x=>iN P t f x (kM K ρ d G H):=(rfl)
theorem On{t x f}:aop P C PC mt q ops ⟨d,.field t x f,ty,pos,aft,gd⟩ ρ H K=bZ ops ρ gd fun G=>aW (aK P t f) fun e=>bH G (aev ρ x) fun x=>apart G e.1 e.2 x (kM K ρ d G H):=by
 show bZ ops ρ gd (fun G=>fY P G ρ H (.field t x f) (kM K ρ d G H))=_
 congr 1;funext G;cases h1:aK P t f <;> simp[fY,aW,h1]
theorem Do{t x i}:aop P C PC mt q ops ⟨d,.indexAddr t x i,ty,pos,aft,gd⟩ ρ H K=bZ ops ρ gd fun G=>bH G (aev ρ x) fun x=>bH G (aev ρ i) fun i=>eX P G H t x i (kM K ρ d G H):=(rfl)
theorem OC{t x i}:aop P C PC mt q ops ⟨d,.index t x i,ty,pos,aft,gd⟩ ρ H K=bZ ops ρ gd fun G=>bH G (aev ρ x) fun x=>bH G (aev ρ i) fun i=>sE P G t x i (kM K ρ d G H):=(rfl)
theorem Kb{x i}:aop P C PC mt q ops ⟨d,.extract x i,ty,pos,aft,gd⟩ ρ H K=bZ ops ρ gd fun G=>bH G (aev ρ x) fun x=>Vt G x i (kM K ρ d G H):=(rfl)
theorem KA{x}:aop P C PC mt q ops ⟨d,.assign x,ty,pos,aft,gd⟩ ρ H K=bZ ops ρ gd fun G=>if tJ mt d=true∧G=none∧q=false∧pD x=true then aW (bY P ty) fun e=>mS H ⟨e.1,e.2.1,[]⟩ (MX K ρ d)else bH G (aev ρ x) (kM K ρ d G H):=by
 show bZ ops ρ gd (fun G=>xW P mt q G ⟨d,.assign x,ty,pos,aft,gd⟩ x ρ H K)=_
 congr 1;funext G
 unfold xW;cases h1:bY P ty <;> rfl
theorem Pi{t}:aop P C PC mt q ops ⟨d,.alloc t,ty,pos,aft,gd⟩ ρ H K=bZ ops ρ gd fun G=>aW (eH P t) fun z=>G=none∧q=false∧(if tJ mt d=true then aW (oJ P t) fun nl=>jI nl z H fun z H=>mS H ⟨t,z.length,[z]⟩ (Mr K ρ d)else mS H ⟨t,z.length,[z]⟩ (Mr K ρ d)):=by
 show bZ ops ρ gd (fun G=>match eH P t with
   | some z => G = none ∧ q = false ∧ (if tJ mt d = true then match oJ P t with
       | some nl=>jI nl z H fun z H=>mS H ⟨t,z.length,[z]⟩ fun k H'=>K (upd ρ d (.op k 0 0)) H'
       | none=>False
     else mS H ⟨t,z.length,[z]⟩ fun k H'=>K (upd ρ d (.op k 0 0)) H')
   | none=>False)=_
 congr 1;funext G;cases h1:eH P t <;> cases h2:oJ P t <;> rfl
theorem Va{t x}:aop P C PC mt q ops ⟨d,.box t x,ty,pos,aft,gd⟩ ρ H K=bZ ops ρ gd fun G=>G=none∧q=false∧bH G (aev ρ x) fun x=>kT x fun cs=>
 if tJ mt d=true then 0<cs.length∧mS H ⟨t,cs.length,[cs]⟩ (Mr K ρ d)else K (upd ρ d (.rp cs 0)) H:=(rfl)
theorem CB{t n l}:aop P C PC mt q ops ⟨d,.buildSlice t n l,ty,pos,aft,gd⟩ ρ H K=bZ ops ρ gd fun G=>q=false∧mV G ρ l.toList fun l=>aW (bY P t) fun e=>
   (l.map (·.1)=GK 0 n∧dK e.2.1 (l.map (·.2))∧n*e.2.1≤16777216)∧(if tJ mt d=true∧G=none then mS H ⟨e.1,e.2.1,l.map (·.2)⟩ (MX K ρ d)else kM K ρ d G H (.sl (l.map (·.2)))):=by
 show bZ ops ρ gd (fun G=>q=false∧mV G ρ l.toList fun l'=>lO P mt G ⟨d,.buildSlice t n l,ty,pos,aft,gd⟩ t n l' ρ H K)=_
 congr 1;funext G;congr 2;funext l;unfold lO;cases h1:bY P t <;> rfl
theorem OP{t x y}:aop P C PC mt q ops ⟨d,.store t x y,ty,pos,aft,gd⟩ ρ H K=bZ ops ρ gd fun G=>G=none∧q=false∧(if pD y=true then bH G (aev ρ x) fun x=>aW (bY P t) fun e=>mS H ⟨e.1,e.2.1,[]⟩ (fun j H=>OO P d t x [.os j] ρ H K)else bH G (aev ρ x) fun x=>bH G (aev ρ y) fun y=>kT y fun cs=>OO P d t x cs ρ H K):=by
 show bZ ops ρ gd (fun G => G = none ∧ q = false ∧ (if pD y = true then bH G (aev ρ x) fun a => match bY P t with
       | some (e,sz,_)=>mS H ⟨e,sz,[]⟩ fun k H=>qB P _ t a [.os k] ρ H K
       | none=>False
     else bH G (aev ρ x) fun a=>bH G (aev ρ y) fun x=>kT x fun cs=>qB P _ t a cs ρ H K))=_
 congr 1;funext G;congr 4;funext a
 cases h1:bY P t <;> rfl
theorem QW:uE P C PC mt ops K [] ρ H=K ρ H:=(rfl)
theorem WO{k f}:uE P C PC mt ops K ((k,true)::f) ρ H=aW ops[k]? fun o=>aop P C PC mt true ops o ρ (qH o H) fun ρ' _=>uE P C PC mt ops K f ρ' H:=by
 cases h:ops[k]? <;> simp[uE,aW,h]
theorem Xi{k f}:uE P C PC mt ops K ((k,false)::f) ρ H=aW ops[k]? fun o=>aop P C PC mt false ops o ρ H (uE P C PC mt ops K f):=by
 cases h:ops[k]? <;> simp[uE,aW,h]
theorem O5{Hp}:nV P C PC mt ops K Hp [] ρ H=K ρ H:=(rfl)
theorem TM{Hp k f}:nV P C PC mt ops K Hp ((k,true)::f) ρ H=aW ops[k]? fun o=>aop P C PC mt true ops o ρ Hp fun ρ' _=>nV P C PC mt ops K Hp f ρ' H:=by
 cases h:ops[k]? <;> simp[nV,aW,h]
theorem TD{Hp k f}:nV P C PC mt ops K Hp ((k,false)::f) ρ H=aW ops[k]? fun o=>aop P C PC mt false ops o ρ H (nV P C PC mt ops K Hp f):=by
 cases h:ops[k]? <;> simp[nV,aW,h]
theorem WV{k}:xD P C PC mt q ops k ρ H K=aW ops[k]? fun o=>aop P C PC mt q ops o ρ H K:=by
 cases h:ops[k]? <;> simp[xD,aW,h]
theorem NT{Hp}:lQ P C PC mt ops K Hp .nil ρ H=K ρ H:=(rfl)
theorem TO{Hp k t}:lQ P C PC mt ops K Hp (.q k t) ρ H=xD P C PC mt true ops k ρ Hp fun ρ' _=>lQ P C PC mt ops K Hp t ρ' H:=(rfl)
theorem UM{Hp k t}:lQ P C PC mt ops K Hp (.a1 k t) ρ H=xD P C PC mt false ops k ρ H (lQ P C PC mt ops K Hp t):=(rfl)
theorem yR{Hp k t k' t'}(h:xD P C PC mt false ops k ρ H (lQ P C PC mt ops K Hp t))(h':xD P C PC mt false ops k' ρ H (lQ P C PC mt ops K Hp t')):lQ P C PC mt ops K Hp (.a2 k t k' t') ρ H:=⟨h,h'⟩
theorem FT{f cap}:aop P C PC mt q ops ⟨d,.makeFunc (.func f) #[] cap,ty,pos,aft,gd⟩ ρ H K=bZ ops ρ gd fun G=>wE G ρ cap.toList fun l=>kM K ρ d G H (.fn f l):=by
 show bZ ops ρ gd (fun G=>fY P G ρ H (.makeFunc (.func f) #[] cap) (kM K ρ d G H))=_
 congr 1;funext G;simp[fY]
def VW(K:Env→aF→Prop)(ρ:Env)(d:Option Tmp)(j:Nat)(H:aF):Prop:=K (upd ρ d (.om j)) H
theorem IS{j}:VW K ρ d j H=K (upd ρ d (.om j)) H:=(rfl)
theorem Lc{t x i ok}:aop P C PC mt q ops ⟨d,.lookup t x i ok,ty,pos,aft,gd⟩ ρ H K=bZ ops ρ gd fun G=>bH G (aev ρ x) fun x=>bH G (aev ρ i) fun i=>vM P H t x i ok (kM K ρ d G H):=(rfl)
theorem IM{t}:aop P C PC mt q ops ⟨d,.makeMap t none,ty,pos,aft,gd⟩ ρ H K=bZ ops ρ gd fun G=>G=none∧q=false∧mS H ⟨0,2,[]⟩ (VW K ρ d):=(rfl)
def Nz(P:Program)(d:Option Tmp)(t:TypeId)(m x v:AV)(ρ:Env)(H:aF)(K:Env→aF→Prop):Prop:=lD P ⟨d,.move (.tmp 0),0,"",#[],none⟩ t m x v ρ H K
@[congr] theorem wmapU_c {P d t m m' x x' v v' ρ H K} (h0:m=m') (h1:x=x') (h2:v=v'):Nz P d t m x v ρ H K=Nz P d t m' x' v' ρ H K:=h0▸h1▸h2▸rfl
def Tb(P:Program)(d:Option Tmp)(t:TypeId)(m x:AV)(ρ:Env)(H:aF)(K:Env→aF→Prop):Prop:=vQ P ⟨d,.move (.tmp 0),0,"",#[],none⟩ t m x ρ H K
@[congr] theorem wmapE_c {P d t m m' x x' ρ H K} (h0:m=m') (h1:x=x'):Tb P d t m x ρ H K=Tb P d t m' x' ρ H K:=h0▸h1▸rfl
def Rv(d:Option Tmp)(m s v:AV)(ρ:Env)(H:aF)(K:Env→aF→Prop):Prop:=qG ⟨d,.move (.tmp 0),0,"",#[],none⟩ m s v ρ H K
@[congr] theorem wmapS_c {d m m' x x' v v' ρ H K} (h0:m=m') (h1:x=x') (h2:v=v'):Rv d m x v ρ H K=Rv d m' x' v' ρ H K:=h0▸h1▸h2▸rfl
@[congr] theorem alookup_c {P H t x x' i i' ok k} (h0:x=x') (h1:i=i'):vM P H t x i ok k=vM P H t x' i' ok k:=h0▸h1▸rfl
theorem Db{t m x v}:aop P C PC mt q ops ⟨d,.mapUpdate t m x v,ty,pos,aft,gd⟩ ρ H K=bZ ops ρ gd fun G=>G=none∧q=false∧bH G (aev ρ m) fun m=>bH G (aev ρ x) fun x=>bH G (aev ρ v) fun v=>Nz P d t m x v ρ H K:=(rfl)
theorem L0{t m x v}:aop P C PC mt q ops ⟨d,.insert t m x v,ty,pos,aft,gd⟩ ρ H K=bZ ops ρ gd fun G=>G=none∧q=false∧bH G (aev ρ m) fun m=>bH G (aev ρ x) fun x=>bH G (aev ρ v) fun v=>Nz P d t m x v ρ H K:=(rfl)
theorem FN{t m x}:aop P C PC mt q ops ⟨d,.mapEntry t m x,ty,pos,aft,gd⟩ ρ H K=bZ ops ρ gd fun G=>G=none∧q=false∧bH G (aev ρ m) fun m=>bH G (aev ρ x) fun x=>Tb P d t m x ρ H K:=(rfl)
theorem Ci{t m s v}:aop P C PC mt q ops ⟨d,.entryStore t m s v,ty,pos,aft,gd⟩ ρ H K=bZ ops ρ gd fun G=>G=none∧q=false∧bH G (aev ρ m) fun m=>bH G (aev ρ s) fun s=>bH G (aev ρ v) fun v=>Rv d m s v ρ H K:=(rfl)
theorem Dg{t l c}:aop P C PC mt q ops ⟨d,.makeSlice t l c,ty,pos,aft,gd⟩ ρ H K=bZ ops ρ gd fun G=>G=none∧q=false∧bH G (aev ρ l) fun l=>bH G (aev ρ c) fun c=>Hq P d t l c ρ H K:=(rfl)
theorem N7{t args tys}:aop P C PC mt q ops ⟨d,.call ⟨.value (.tmp t),args,tys⟩,ty,pos,aft,gd⟩ ρ H K=bZ ops ρ gd fun G=>bH G (ρ t) fun x=>aW (Hl x) fun y=>wE G ρ args.toList fun l=>
   aC P y.1=true∧(if G=none∧q=false then C y.1 (y.2.1++l++y.2.2) H (SM K ρ d)else ∃r,(gt G→PC y.1 (y.2.1++l++y.2.2) H r)∧nfq q r (kM K ρ d G H)):=by
 show bZ ops ρ gd (fun G=>xL P C PC q G ⟨d,.call ⟨.value (.tmp t),args,tys⟩,ty,pos,aft,gd⟩ ⟨.value (.tmp t),args,tys⟩ ρ H K)=_
 congr 1;funext G
 simp only[xL,aev]
 congr 1;funext x
 cases h:Hl x with
 | none=>simp[aW]
 | some y=>obtain⟨a,b,c⟩:=y;rfl
theorem Rr{f args tys}:aop P C PC mt q ops ⟨d,.call ⟨.value (.func f),args,tys⟩,ty,pos,aft,gd⟩ ρ H K=bZ ops ρ gd fun G=>wE G ρ args.toList fun l=>
   aC P f=true∧(if G=none∧q=false then C f l H (SM K ρ d)else ∃r,(gt G→PC f l H r)∧nfq q r (kM K ρ d G H)):=by
 show bZ ops ρ gd (fun G=>xL P C PC q G ⟨d,.call ⟨.value (.func f),args,tys⟩,ty,pos,aft,gd⟩ ⟨.value (.func f),args,tys⟩ ρ H K)=_
 congr 1;funext G
 simp only[xL,aev,bH,Hl,List.map_nil,List.nil_append,List.append_nil];rfl
theorem T9{x t}:aop P C PC mt q ops ⟨d,.call ⟨.builtin .len,#[x],#[t]⟩,ty,pos,aft,gd⟩ ρ H K=bZ ops ρ gd fun G=>bH G (aev ρ x) fun x=>Dh P H t x (kM K ρ d G H):=(rfl)
theorem Vm{x y t t'}:aop P C PC mt q ops ⟨d,.call ⟨.builtin .max,#[x,y],#[t,t']⟩,ty,pos,aft,gd⟩ ρ H K=bZ ops ρ gd fun G=>bH G (aev ρ x) fun x=>bH G (aev ρ y) fun y=>KW x y (kM K ρ d G H):=(rfl)
theorem TP{x y t t'}:aop P C PC mt q ops ⟨d,.call ⟨.builtin .min,#[x,y],#[t,t']⟩,ty,pos,aft,gd⟩ ρ H K=bZ ops ρ gd fun G=>bH G (aev ρ x) fun x=>bH G (aev ρ y) fun y=>L8 x y (kM K ρ d G H):=(rfl)
theorem Px{n m a b}{k:AV→Prop}:KW (.v (.int n a)) (.v (.int m b)) k=k (.v (.int n (kC a b))):=(rfl)
theorem RE{n m a b}{k:AV→Prop}:L8 (.v (.int n a)) (.v (.int m b)) k=k (.v (.int n (tQ a b))):=(rfl)
theorem Ry{x y t t'}:aop P C PC mt q ops ⟨d,.call ⟨.builtin .copy,#[x,y],#[t,t']⟩,ty,pos,aft,gd⟩ ρ H K=bZ ops ρ gd fun G=>bH G (aev ρ x) fun x=>bH G (aev ρ y) fun y=>
 if G=none∧q=false then Qb P d t x y ρ H K else False:=(rfl)
theorem Ou{x t}:aop P C PC mt q ops ⟨d,.call ⟨.builtin .clear,#[x],#[t]⟩,ty,pos,aft,gd⟩ ρ H K=bZ ops ρ gd fun G=>bH G (aev ρ x) fun x=>
 if G=none∧q=false then CY P d t x ρ H K else False:=(rfl)
theorem PE{G:Option Bool}{k:AV→Prop}{t es lo hi}:asl P G H t (.sl es) lo hi k=kU P G t (.sl es) lo hi k:=(rfl)
theorem VZ{G:Option Bool}{k:AV→Prop}{t v lo hi}:asl P G H t (.v v) lo hi k=kU P G t (.v v) lo hi k:=(rfl)
theorem RL{G:Option Bool}{k:AV→Prop}{t j n a m b}:asl P G H t (.os j) (some (.v (.int n a))) (some (.v (.int m b))) k=aW (H j) fun r=>aW (bY P t) fun e=>(gt G→(0≤a∧a≤b∧b≤r.es.length)∧r.sz=e.2.1)∧k (.oz j a.toNat b.toNat):=by
 cases h1:H j <;> cases h2:bY P t <;> simp[asl,aW,h1,h2]
theorem VN{G:Option Bool}{k:AV→Prop}{t j n a}:asl P G H t (.os j) (some (.v (.int n a))) none k=aW (H j) fun r=>aW (bY P t) fun e=>(gt G→(0≤a∧a≤r.es.length)∧r.sz=e.2.1)∧k (.oz j a.toNat r.es.length):=by
 cases h1:H j <;> cases h2:bY P t <;> simp[asl,aW,h1,h2]
theorem V4{G:Option Bool}{k:AV→Prop}{t j m b}:asl P G H t (.os j) none (some (.v (.int m b))) k=aW (H j) fun r=>aW (bY P t) fun e=>(gt G→(0≤b∧b≤r.es.length)∧r.sz=e.2.1)∧k (.oz j 0 b.toNat):=by
 cases h1:H j <;> cases h2:bY P t <;> simp[asl,aW,h1,h2]
theorem Hc{k:AV→Prop}{es}:oC .eql (.sl es) k=((es=[]→k (.v (.bool true)))∧k (.v (.bool false))):=(rfl)
theorem IZ{k:AV→Prop}{es}:oC .neq (.sl es) k=((es=[]→k (.v (.bool false)))∧k (.v (.bool true))):=(rfl)
theorem EV{k:AV→Prop}{j}:oC .eql (.os j) k=(k (.v (.bool true))∧k (.v (.bool false))):=(rfl)
theorem EI{k:AV→Prop}:oC .eql (.v (.slice none 0 0)) k=k (.v (.bool true)):=(rfl)
theorem Fk{k:AV→Prop}:oC .neq (.v (.slice none 0 0)) k=k (.v (.bool false)):=(rfl)
theorem DI{k:AV→Prop}{j}:oC .neq (.os j) k=(k (.v (.bool false))∧k (.v (.bool true))):=(rfl)
theorem Lz{s x t t'}:aop P C PC mt q ops ⟨d,.call ⟨.builtin .append,#[s,x],#[t,t']⟩,ty,pos,aft,gd⟩ ρ H K=bZ ops ρ gd fun G=>bH G (aev ρ s) fun s=>bH G (aev ρ x) fun x=>
 if t=t'∧G=none∧q=false then Tj P d t s x ρ H K else False:=(rfl)
end
section
variable{P:Program}{d:Option Tmp}{ρ:Env}{H:aF}{K:Env→aF→Prop}
theorem My{t n a m b}:Hq P d t (.v (.int n a)) (.v (.int m b)) ρ H K=aW (bY P t) fun e=>aW (eH P e.1) fun z=>((0≤a∧a≤b)∧(e.2.2:Int)*b≤140737488355328)∧mS H ⟨e.1,e.2.1,List.replicate a.toNat z⟩ (MX K ρ d):=by
 unfold Hq pT;cases h1:bY P t with
 | none=>simp[aW]
 | some e=>obtain⟨x,y,z⟩:=e;cases h2:eH P x <;> simp[aW,h2] <;> intros <;> rfl
theorem Xt{f first captured}:Hl (.v (.func (.func f) first captured))=some (f,first.toList.map .v,captured.toList.map .v):=(rfl)
theorem V5{q x}{k:AV→Prop}:nfq q (.v x) k=k (.v x):=by cases q <;> rfl
theorem MB{q x}{k:AV→Prop}:nfq q (.agg x) k=k (.agg x):=by cases q <;> rfl
theorem Nq{q x}{k:AV→Prop}:nfq q (.tup x) k=k (.tup x):=by cases q <;> rfl
theorem RY{x}{k:AV→Prop}:nfq false (.nf x) k=k x:=(rfl)
theorem Ui{f l}:Hl (.fn f l)=some (f,[],l):=(rfl)
end
attribute [go_sem ↓] ET DO D9 CR
attribute [go_sem] ET DO D9 CR
@[congr] theorem asl_c {P G H t x x' lo lo' hi hi' k} (h:x=x') (h1:lo=lo') (h2:hi=hi'):asl P G H t x lo hi k=asl P G H t x' lo' hi' k:=h▸h1▸h2▸rfl
@[congr] theorem aeqNil_c {op x x' k} (h:x=x'):oC op x k=oC op x' k:=h▸rfl
theorem FI{α:Type}{a:α}{l r:List α}:List.append (a::l) r=a::List.append l r:=(rfl)
theorem Hj{α:Type}{r:List α}:List.append [] r=r:=(rfl)
attribute [go_sem] FI Hj
attribute [go_sem] qH
@[congr] theorem amax_c {x x' y y' K} (h:x=x') (h':y=y'):KW x y K=KW x' y' K:=h▸h'▸rfl
@[congr] theorem amin_c {x x' y y' K} (h:x=x') (h':y=y'):L8 x y K=L8 x' y' K:=h▸h'▸rfl
attribute [go_sem ↓] Vm TP Px RE
attribute [go_sem] Px RE
@[congr] theorem pinEnd_c {l l' H K ρ H'} (h:l=l'):lZ l H K ρ H'=lZ l' H K ρ H':=h▸rfl
attribute [go_sem] DT List.set_cons_zero List.set_cons_succ
attribute [go_sem ↓] NT TO UM WV
attribute [go_sem ↓] O5 TM TD
attribute [go_sem ↓] QW WO Xi Ry Ou PE VZ RL VN V4 Hc IZ EV DI EI Fk
attribute [go_sem] PE VZ RL VN V4 Hc IZ EV DI EI Fk
attribute [go_sem ↓] V5 MB Nq RY
attribute [go_sem ↓] Lc IM Db L0 FN Ci No IS
attribute [go_sem] No IS
attribute [go_sem] V5 MB Nq RY
attribute [go_sem ↓] FT Dg N7 My Hy J2 HW Nh IK AA Mi Nd Nn HM JN
attribute [go_sem] My Hy J2 HW Nh IK AA Mi Nd Nn HM Xt Ui
attribute [go_sem] MD V1
@[congr] theorem ownNils_c {l l' z z' H K} (h:l=l') (h':z=z'):jI l z H K=jI l' z' H K:=h▸h'▸rfl
theorem HY{z H K}:jI [] z H K=K z H:=(rfl)
theorem FZ{o e sz r z H K}:jI ((o,e,sz)::r) z H K=mS H ⟨e,sz,[]⟩ fun k H'=>jI r (z.set o (.os k)) H' K:=(rfl)
attribute [go_sem ↓] HY FZ
attribute [go_sem ↓] PG CM Iu MK JO Ev ED Og IJ Pz TI S1 OH LU Ra Vp Lu M4 JT Pf
attribute [go_sem ↓] wE mV Sa SU Pp RR FS TJ Xo Rg Fy JM Jy Dp On Do OC Kb KA Pi Va CB OP Rr T9 Lz
attribute [go_sem ↓] MH Ni Np Nw HZ If Jx JD IP Ja Jm Jc Il JR JG D4 EB ER DE En ES Eh G6 G3 HJ Nv Nx E7 E8 Ez Fj MQ NB Mm Mo NF wC wN wP wK wM wD M5 NA Et Fi HH Eo Jv JX Cz EP Fl Ew Dx CJ IQ DB D7 Ei E9 Dz V6 VQ AT AN RX I8 MR Mn Jf G9 ME Nf ML CL Ff D0 Hs Jz JV MU DF JA
attribute [go_sem] MH Ni Np Nw HZ If Jx JD IP Ja Jm Jc Il JR JG D4 EB ER DE En ES Eh G6 G3 HJ Nv Nx E7 E8 Ez Fj MQ NB Mm Mo NF wC wN wP wK wM wD M5 NA Et Fi HH Eo Jv JX Cz EP Fl Ew Dx CJ IQ DB D7 Ei E9 Dz V6 VQ AT AN RX I8 MR Mn Jf G9 ME Nf ML CL Ff D0 Hs Jz JV MU DF JA
attribute [go_sem] WJ Sd tJ pD oA Hh gt gok wr uZ gB Jn Value.oneCell' GK dK oG Option.map_some oK lT aB
attribute [go_sem] Bool.false_eq_true if_false if_true reduceCtorEq true_and and_true false_and and_false false_implies true_implies implies_true forall_const and_self imp_self ne_eq not_true_eq_false not_false_eq_true
attribute [go_sem] List.getD_cons_zero List.getD_cons_succ List.getD_nil List.length_cons List.length_nil List.drop_zero List.drop_succ_cons List.take_succ_cons List.take_zero Option.getD_some Option.getD_none Nat.zero_add Nat.add_zero List.map_cons List.map_nil List.cons_append List.nil_append List.append_nil
attribute [go_sem] Option.bind_some List.getElem?_toArray List.getElem?_cons_zero List.getElem?_cons_succ
attribute [go_sem ↓] reduceIte
attribute [go_sem] Nat.reduceEqDiff Nat.reduceAdd Nat.reduceMul Nat.reduceSub Nat.reduceLT Nat.reduceLeDiff Nat.reduceBEq
end Go.Aw
