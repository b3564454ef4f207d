/- Texts joined by a program: AwCore. -/
import Derived.StillTail
import Derived.WalkKit
import Derived.Deep.Quiet
import Derived.Deep.QuietTactic
import Derived.Maps.AppendAt
import Derived.Laws.BytesArg

set_option linter.unusedSimpArgs false
set_option linter.unusedVariables false
namespace Go.Aw
open Go.RowKit
inductive AV where
 | v (x:Value)
 | any
 | sl (es:List (List AV))
 | rp (cs:List AV) (off:Nat)
 | agg (cs:List AV)
 | tup (vs:List AV)
 | os (k:Nat)
 | op (k i f:Nat)
 | gd (g:Bool) (x:AV)
 | fn (f:FuncId) (cap:List AV)
 | oz (k a b:Nat)
 | nf (x:AV)
 | om (k:Nat)
 | cl (es:List (List AV))
 deriving Inhabited
structure Row where
 e:TypeId
 sz:Nat
 es:List (List AV)
abbrev Env:=Nat→AV
abbrev aE:=Nat→Option Row
inductive Ex where
 | normal
 | exit (id:Nat)
 | ret
def upd(ρ:Env)(d:Option Nat)(x:AV):Env:=
 match d with
 | some d=>fun t=>if t=d then x else ρ t
 | none=>ρ
def aG(H:aE)(k:Nat)(r:Option Row):aE:=fun j=>if j=k then r else H j
theorem ZN(ρ:Env)(d:Nat)(x:AV)(t:Nat):upd ρ (some d) x t=if t=d then x else ρ t:=rfl
theorem SZ(ρ:Env)(x:AV):upd ρ none x=ρ:=rfl
theorem aA(H:aE)(k:Nat)(r:Option Row):aG H k r k=r:=by simp[aG]
theorem aC(H:aE)(k:Nat)(r:Option Row)(j:Nat)(h:j≠k):aG H k r j=H j:=by simp[aG,h]
def ldT(P:Program)(t:TypeId):Option (Option Nat):=
 match P.underlying t,P.info? t with
 | some (.struct _),some i=>some (some i.size)
 | some (.array _ _),some i=>some (some i.size)
 | some _,some _=>some none
 | _,_=>none
def aK(P:Program)(t:TypeId)(f:Nat):Option (Nat×Option Nat):=
 match P.underlying t with
 | some (.struct fs)=>match fs[f]? with
   | some fd=>match P.info? fd.type with
     | some i=>if i.size=0 then none else(ldT P fd.type).map fun l=>(fd.offset,l)
     | none=>none
   | none=>none
 | _=>none
def cG(P:Program)(t:TypeId):Option (TypeId×Nat×Nat):=
 match P.underlying t with
 | some (.slice e)=>match P.info? e with
   | some i=>if i.size=0∨i.bytes=0∨i.zero.map (·.cells.size)≠some i.size then none else some (e,i.size,i.bytes)
   | none=>none
 | _=>none
def sB(P:Program)(t:TypeId):Option (Nat×Nat×Option Nat):=
 match P.underlying t with
 | some (.array n e)=>match P.info? e with
   | some i=>if i.size=0 then none else(ldT P e).map fun l=>(n,i.size,l)
   | none=>none
 | _=>none
def oP:Value→AV
 | .slice none 0 0=>.sl []
 | x=>.v x
def eF(P:Program)(t:TypeId):Option (List AV):=
 match P.info? t with
 | some i=>match i.zero with
   | some z=>if z.cells.size=i.size∧i.size≠0∧z.cells.toList.all (·.oneCell')=true then some (z.cells.toList.map oP)else none
   | none=>none
 | none=>none
def HS(P:Program):Nat→TypeId→Nat→List (Nat×TypeId×Nat)
 | 0,_,_=>[]
 | n+1,t,o=>match P.underlying t with
   | some (.slice _)=>match cG P t with
     | some (e,sz,_)=>[(o,e,sz)]
     | none=>[]
   | some (.struct fs)=>fs.toList.flatMap fun f=>HS P n f.type (o+f.offset)
   | some (.array m e)=>(List.range m).flatMap fun j=>HS P n e (o+j*((P.info? e).map (·.size)).getD 0)
   | _=>[]
def Sh:Option Value→Bool
 | some (.slice none 0 0)=>true
 | _=>false
def oU(P:Program)(t:TypeId):Option (List (Nat×TypeId×Nat)):=
 match P.info? t with
 | some i=>match i.zero with
   | some z=>if(HS P 8 t 0).all (fun x=>Sh z.cells.toList[x.1]?&&decide (0<x.2.2))=true then some (HS P 8 t 0)else none
   | none=>none
 | none=>none
def fB(P:Program)(t:TypeId):Option (List (Nat×Nat)):=
 match P.underlying t with
 | some (.struct fs)=>fs.toList.mapM fun f=>(P.info? f.type).map fun i=>(f.offset,i.size)
 | some (.array n e)=>(P.info? e).map fun i=>(List.range n).map fun j=>(j*i.size,i.size)
 | _=>none
def dS(P:Program)(t:TypeId):Bool:=match P.underlying t with|some .string=>true|_=>false
def cP(P:Program)(t:TypeId):Bool:=match P.underlying t with|some (.slice _)=>true|_=>false
def xI(P:Program)(t:TypeId):Bool:=match P.underlying t with|some .bool=>true|_=>false
def aev(ρ:Env):Operand→AV
 | .tmp t=>ρ t
 | .const v=>oP v
 | .global _=>.any
 | .func f=>.v (.func (.func f) #[] #[])
def gt:Option Bool→Prop
 | none=>True
 | some b=>b=true
def gok:Option Bool→Bool→Prop
 | none,g=>g=true
 | some b,g=>b=true→g=true
def wr:Option Bool→AV→AV
 | none,x=>x
 | some b,x=>.gd b x
def bK(G:Option Bool)(x:AV)(k:AV→Prop):Prop:=
 match x with
 | .gd g y=>gok G g∧k y
 | x=>k x
def lV(x:AV)(K:List AV→Prop):Prop:=
 match x with
 | .agg cs=>K cs
 | .v y=>y.oneCell'=true∧K [.v y]
 | .sl es=>K [.sl es]
 | .rp cs o=>K [.rp cs o]
 | .os k=>K [.os k]
 | .op k i f=>K [.op k i f]
 | _=>False
def rB(P:Program)(t:TypeId):Option Nat:=match P.underlying t with|some (.int _)=>some 0|some .string=>some 1|some .bool=>some 2|_=>none
def wH(c:Nat)(x y:AV):Option Bool:=
 match c,x,y with
 | 0,.v (.int k a),.v (.int k' b)=>if k=k' then some (a == b)else none
 | 1,.v (.string a),.v (.string b)=>some (a.toList == b.toList)
 | 2,.v (.bool a),.v (.bool b)=>some (a == b)
 | _,_,_=>none
def Lc:Option Bool→Option Bool→Option Bool
 | some a,some b=>some (a&&b)
 | _,_=>none
def gV:List Nat→List AV→List AV→Option Bool
 | [],[],[]=>some true
 | c::l,x::r,y::s=>Lc (wH c x y) (gV l r s)
 | _,_,_=>none
def nU(P:Program):Nat→List Field→Option (List Nat)
 | _,[]=>some []
 | o,f::r=>if f.name != "_" && f.offset == o&&(P.info? f.type).isSome then match rB P f.type,nU P (o+1) r with
   | some c,some l=>some (c::l)
   | _,_=>none
   else none
def xN(P:Program)(t:TypeId):Option (List Nat):=
 match P.underlying t with
 | some (.struct fs)=>if P.stoodInHeld t=false∧P.eqGuardType P.depth t=false then nU P 0 fs.toList else none
 | some (.array n e)=>if(P.info? e).map (·.size)=some 1∧P.eqGuardType P.depth t=false then(rB P e).map (List.replicate n)else none
 | _=>none
def tT:BinOp→Bool
 | .shl=>true
 | .shr=>true
 | _=>false
def shV(op:BinOp)(k:IntKind)(a b:Int):Int:=match op with
 | .shl=>k.wrap (a*2^min b.toNat k.bits)
 | _=>a.fdiv (2^min b.toNat k.bits)
def qQ(op:BinOp)(k:IntKind)(a b:Int):Int:=match op with
 | .and=>k.wrap ((BitVec.ofInt k.bits a &&& BitVec.ofInt k.bits b).toNat:Nat)
 | .or=>k.wrap ((BitVec.ofInt k.bits a ||| BitVec.ofInt k.bits b).toNat:Nat)
 | .xor=>k.wrap ((BitVec.ofInt k.bits a ^^^ BitVec.ofInt k.bits b).toNat:Nat)
 | _=>k.wrap ((BitVec.ofInt k.bits a &&& ~~~(BitVec.ofInt k.bits b)).toNat:Nat)
def gH(P:Program)(G:Option Bool)(op:BinOp)(t:TypeId)(x y:AV)(K:AV→Prop):Prop:=
 match x,y with
 | .v (.int k a),.v (.int k' b)=>
   if tT op=true then(gt G→0≤b)∧K (.v (.int k (shV op k a b)))
   else if k=k' then
     match op with
     | .and=>K (.v (.int k (qQ .and k a b)))
     | .or=>K (.v (.int k (qQ .or k a b)))
     | .xor=>K (.v (.int k (qQ .xor k a b)))
     | .andNot=>K (.v (.int k (qQ .andNot k a b)))
     | .add=>K (.v (.int k (k.wrap (a+b))))
     | .sub=>K (.v (.int k (k.wrap (a-b))))
     | .mul=>K (.v (.int k (k.wrap (a*b))))
     | .quo=>(gt G→b≠0)∧K (.v (.int k (k.wrap (a.tdiv b))))
     | .rem=>(gt G→b≠0)∧K (.v (.int k (a.tmod b)))
     | .eql=>K (.v (.bool (a == b)))
     | .neq=>K (.v (.bool (a != b)))
     | .lss=>K (.v (.bool (decide (a<b))))
     | .leq=>K (.v (.bool (decide (a≤b))))
     | .gtr=>K (.v (.bool (decide (a>b))))
     | .geq=>K (.v (.bool (decide (a≥b))))
     | _=>False
   else False
 | .v (.string a),.v (.string b)=>
   match op with
   | .add=>(gt G→((a.size+b.size:Nat):Int)≤IntKind.i64.max)∧K (.v (.string (a++b)))
   | .eql=>K (.v (.bool (a.toList == b.toList)))
   | .neq=>K (.v (.bool !(a.toList == b.toList)))
   | .lss=>K (.v (.bool (Op.bytesLess a.toList b.toList)))
   | _=>False
 | .v (.bool a),.v (.bool b)=>
   if xI P t then
     match op with
     | .eql=>K (.v (.bool (a == b)))
     | .neq=>K (.v (.bool !(a == b)))
     | _=>False
   else False
 | .agg xs,.agg ys=>match xN P t with
   | some l=>match gV l xs ys with
     | some b=>match op with
       | .eql=>K (.v (.bool b))
       | .neq=>K (.v (.bool !b))
       | _=>False
     | none=>False
   | none=>False
 | _,_=>(gt G→False)∧K .any
def XL(P:Program)(t:TypeId):Option (TypeId×TypeId):=match P.underlying t with|some (.map k e)=>some (k,e)|_=>none
def OW(P:Program)(t:TypeId):Option AV:=
 match P.info? t with
 | some i=>match i.zero with
   | some (.agg cs)=>if cs.toList.all (·.oneCell')=true then some (.agg (cs.toList.map oP))else none
   | some v=>if v.oneCell'=true then some (oP v)else none
   | none=>none
 | none=>none
def Iz(P:Program)(kt:TypeId)(x y:AV):Option Bool:=
 match x,y with
 | .v a,.v b=>match rB P kt with
   | some c=>wH c (.v a) (.v b)
   | none=>none
 | _,_=>none
def zG(P:Program)(kt:TypeId):AV→Bool
 | .v (.int _ _)=>rB P kt == some 0
 | .v (.string _)=>rB P kt == some 1
 | .v (.bool _)=>rB P kt == some 2
 | _=>false
def Gd(eq:AV→Option Bool):List (List AV)→Nat→Option (Option Nat)
 | [],_=>some none
 | e::r,i=>match eq (e.getD 0 .any)with
   | some true=>some (some i)
   | some false=>Gd eq r (i+1)
   | none=>none
def PR(ok:Bool)(z:AV)(es:List (List AV))(oi:Option Nat):AV:=
 match oi with
 | some i=>if ok=true then .tup [(es.getD i []).getD 1 .any,.v (.bool true)]else(es.getD i []).getD 1 .any
 | none=>if ok=true then .tup [z,.v (.bool false)]else z
def mput(es:List (List AV))(oi:Option Nat)(k v:AV):List (List AV):=
 match oi with
 | some i=>es.set i [k,v]
 | none=>es++[[k,v]]
def EW(P:Program)(H:aE)(t:TypeId)(x key:AV)(K:Nat→Row→TypeId×TypeId→Option Nat→Prop):Prop:=
 match x with
 | .om j=>match H j,XL P t with
   | some r,some kt=>match Gd (Iz P kt.1 key) r.es 0 with
     | some oi=>zG P kt.1 key=true∧K j r kt oi
     | none=>False
   | _,_=>False
 | _=>False
def xG(P:Program)(H:aE)(t:TypeId)(x key:AV)(ok:Bool)(K:AV→Prop):Prop:=
 EW P H t x key fun _ r kt oi=>match OW P kt.2 with
   | some z=>K (PR ok z r.es oi)
   | none=>False
def sS(c:Bool):AV→AV→AV
 | .v (.bool true),.v (.bool b)=>.v (.bool (c||b))
 | .v (.bool a),.v (.bool false)=>.v (.bool (c&&a))
 | .v (.bool a),.v (.bool b)=>.v (.bool (bif c then a else b))
 | x,y=>bif c then x else y
def xU(G:Option Bool)(c:Bool)(x y:AV)(K:AV→Prop):Prop:=
 match x,y with
 | .gd g x,.gd g' y=>(gt G→c=true→g=true)∧(gt G→c=false→g'=true)∧K (sS c x y)
 | .gd g x,y=>(gt G→c=true→g=true)∧K (sS c x y)
 | x,.gd g' y=>(gt G→c=false→g'=true)∧K (sS c x y)
 | x,y=>K (sS c x y)
def mZ(G:Option Bool)(H:aE)(l:Option Nat)(x:AV)(K:AV→Prop):Prop:=
 match x with
 | .rp cs off=>match l with
   | none=>(gt G→off<cs.length)∧K (cs.getD off .any)
   | some n=>(gt G→off+n≤cs.length)∧K (.agg ((cs.drop off).take n))
 | .op k i f=>match H k with
   | some r=>match l with
     | none=>(gt G→i<r.es.length∧f<r.sz)∧K ((r.es.getD i []).getD f .any)
     | some n=>(gt G→i<r.es.length∧f+n≤r.sz)∧K (.agg (((r.es.getD i []).drop f).take n))
   | none=>False
 | _=>False
def apart(G:Option Bool)(off:Nat)(l:Option Nat)(x:AV)(K:AV→Prop):Prop:=
 match x with
 | .agg cs=>match l with
   | none=>(gt G→off<cs.length)∧K (cs.getD off .any)
   | some n=>(gt G→off+n≤cs.length)∧K (.agg ((cs.drop off).take n))
 | _=>False
def EH(P:Program)(H:aE)(t:TypeId)(x:AV)(K:AV→Prop):Prop:=
 match x with
 | .sl es=>if cP P t then K (.v (.int .i64 es.length))else False
 | .os k=>match H k with
   | some r=>if cP P t then K (.v (.int .i64 r.es.length))else False
   | none=>False
 | .v (.string s)=>if dS P t then K (.v (.int .i64 s.size))else False
 | _=>False
def kX(a b:Int):Int:=if b>a then b else a
def rN(a b:Int):Int:=if b<a then b else a
def Nd(x y:AV)(K:AV→Prop):Prop:=
 match x,y with
 | .v (.int k a),.v (.int _ b)=>K (.v (.int k (kX a b)))
 | _,_=>False
def LH(x y:AV)(K:AV→Prop):Prop:=
 match x,y with
 | .v (.int k a),.v (.int _ b)=>K (.v (.int k (rN a b)))
 | _,_=>False
def fO(P:Program)(G:Option Bool)(H:aE)(t:TypeId)(x i:AV)(K:AV→Prop):Prop:=
 match x,i with
 | .sl es,.v (.int _ n)=>match cG P t with
   | some (_,sz,_)=>(gt G→(0≤n∧n<es.length)∧(es.getD n.toNat []).length=sz)∧K (.rp (es.getD n.toNat []) 0)
   | none=>False
 | .os k,.v (.int _ n)=>match H k,cG P t with
   | some r,some (_,sz,_)=>(gt G→(0≤n∧n<r.es.length)∧r.sz=sz)∧K (.op k n.toNat 0)
   | _,_=>False
 | .rp cs off,.v (.int _ n)=>match sB P t with
   | some (m,s,_)=>(gt G→0≤n∧n<m)∧K (.rp cs (off+n.toNat*s))
   | none=>False
 | .op k j f,.v (.int _ n)=>match sB P t with
   | some (m,s,_)=>(gt G→0≤n∧n<m)∧K (.op k j (f+n.toNat*s))
   | none=>False
 | _,_=>False
def jI(P:Program)(t:TypeId)(f:Nat)(x:AV)(K:AV→Prop):Prop:=
 match x with
 | .rp cs off=>match aK P t f with
   | some (o,_)=>K (.rp cs (off+o))
   | none=>False
 | .op k i g=>match aK P t f with
   | some (o,_)=>K (.op k i (g+o))
   | none=>False
 | _=>False
def pE(places:List (Nat×Nat)):List AV→List (Nat×List AV)→Option (List AV)
 | cs,[]=>some cs
 | cs,(i,x)::rest=>match places[i]? with
   | some (off,n)=>if x.length=n∧off+n≤cs.length then pE places (cs.take off++x++cs.drop (off+n)) rest else none
   | none=>none
def oB(G:Option Bool)(ρ:Env):List (Nat×Operand)→(List (Nat×List AV)→Prop)→Prop
 | [],K=>K []
 | (i,x)::rest,K=>bK G (aev ρ x) fun y=>lV y fun cs=>oB G ρ rest fun l=>K ((i,cs)::l)
def xV(G:Option Bool)(ρ:Env):List Operand→(List AV→Prop)→Prop
 | [],K=>K []
 | x::rest,K=>bK G (aev ρ x) fun y=>xV G ρ rest fun l=>K (y::l)
def uM(P:Program)(t:TypeId)(parts:List (Nat×List AV))(K:AV→Prop):Prop:=
 match eF P t,fB P t with
 | some z,some pl=>match pE pl z parts with
   | some cs=>K (.agg cs)
   | none=>False
 | _,_=>False
def HM:Nat→Nat→List Nat
 | _,0=>[]
 | i,n+1=>i::HM (i+1) n
def dY(n:Nat):List (List AV)→Prop
 | []=>True
 | cs::r=>cs.length=n∧dY n r
def lT(P:Program)(G:Option Bool)(t:TypeId)(x:AV)(lo hi:Option AV)(K:AV→Prop):Prop:=
 match x,lo,hi with
 | .sl es,some (.v (.int _ a)),some (.v (.int _ b))=>match cG P t with
   | some (_,sz,_)=>(gt G→(0≤a∧a≤b∧b≤es.length)∧dY sz es)∧K (.sl ((es.take b.toNat).drop a.toNat))
   | none=>False
 | .sl es,some (.v (.int _ a)),none=>match cG P t with
   | some (_,sz,_)=>(gt G→(0≤a∧a≤es.length)∧dY sz es)∧K (.sl (es.drop a.toNat))
   | none=>False
 | .sl es,none,some (.v (.int _ b))=>match cG P t with
   | some _=>(gt G→0≤b∧b≤es.length)∧K (.sl (es.take b.toNat))
   | none=>False
 | .v (.string s),some (.v (.int _ a)),some (.v (.int _ b))=>
   if dS P t then(gt G→0≤a∧a≤b∧b≤s.size)∧K (.v (.string (s.extract a.toNat b.toNat)))else False
 | .v (.string s),some (.v (.int _ a)),none=>
   if dS P t then(gt G→0≤a∧a≤s.size)∧K (.v (.string (s.extract a.toNat s.size)))else False
 | .v (.string s),none,some (.v (.int _ b))=>
   if dS P t then(gt G→0≤b∧b≤s.size)∧K (.v (.string (s.extract 0 b.toNat)))else False
 | _,_,_=>False
def asl(P:Program)(G:Option Bool)(H:aE)(t:TypeId)(x:AV)(lo hi:Option AV)(K:AV→Prop):Prop:=
 match x with
 | .os k=>match H k,cG P t with
   | some r,some (_,sz,_)=>match lo,hi with
     | some (.v (.int _ a)),some (.v (.int _ b))=>(gt G→(0≤a∧a≤b∧b≤r.es.length)∧r.sz=sz)∧K (.oz k a.toNat b.toNat)
     | some (.v (.int _ a)),none=>(gt G→(0≤a∧a≤r.es.length)∧r.sz=sz)∧K (.oz k a.toNat r.es.length)
     | none,some (.v (.int _ b))=>(gt G→(0≤b∧b≤r.es.length)∧r.sz=sz)∧K (.oz k 0 b.toNat)
     | _,_=>False
   | _,_=>False
 | x=>lT P G t x lo hi K
def BT(P:Program)(G:Option Bool)(t:TypeId)(x a b:AV)(K:AV→Prop):Prop:=
 match x,a,b with
 | .sl es,.v (.int _ a),.v (.int _ b)=>match cG P t with
   | some _=>(gt G→a=es.length∧b=es.length)∧K (.cl es)
   | none=>False
 | _,_,_=>False
def uD(P:Program)(G:Option Bool)(t:TypeId)(x i:AV)(K:AV→Prop):Prop:=
 match x,i with
 | .v (.string s),.v (.int _ n)=>
   if dS P t then(gt G→0≤n∧n<s.size)∧K (.v (.int .u8 ((s.data.getD n.toNat 0).toNat:Int)))else False
 | .agg cs,.v (.int _ n)=>match sB P t with
   | some (m,s,l)=>(gt G→0≤n∧n<m)∧apart G (n.toNat*s) l (.agg cs) K
   | none=>False
 | _,_=>False
def aun(op:UnOp)(x:AV)(K:AV→Prop):Prop:=
 match op,x with
 | .not,.v (.bool b)=>K (.v (.bool !b))
 | .neg,.v (.int k n)=>K (.v (.int k (k.wrap (0-n))))
 | _,_=>False
def oZ:List (List AV)→Option (List Int)
 | []=>some []
 | [.v (.int .u8 n)]::r=>(oZ r).map (n::·)
 | _=>none
def A7(P:Program)(t:TypeId):Bool:=
 match P.underlying t with
 | some (.slice e)=>match P.underlying e with
   | some (.int .u8)=>true
   | _=>false
 | _=>false
def DI(P:Program)(t:TypeId):Option IntKind:=match P.underlying t with|some (.int k)=>some k|_=>none
def uY(P:Program)(src dst:TypeId)(x:AV)(K:AV→Prop):Prop:=
 match x with
 | .v (.int _ n)=>match DI P dst,DI P src with
   | some k,some _=>K (.v (.int k (k.wrap n)))
   | _,_=>False
 | .v (.string s)=>if dS P src∧dS P dst then K (.v (.string s))else False
 | .sl es => if A7 P src ∧ dS P dst then
     match oZ es with
     | some ns=>K (.v (.string (strOfNums ns)))
     | none=>False
   else False
 | _=>False
def qG:Operand→Bool
 | .const (.slice none 0 0)=>true
 | _=>false
def pC(op:BinOp)(x:AV)(K:AV→Prop):Prop:=
 match op,x with
 | .eql,.sl es=>(es=[]→K (.v (.bool true)))∧K (.v (.bool false))
 | .neq,.sl es=>(es=[]→K (.v (.bool false)))∧K (.v (.bool true))
 | .eql,.os _=>K (.v (.bool true))∧K (.v (.bool false))
 | .neq,.os _=>K (.v (.bool false))∧K (.v (.bool true))
 | .eql,.v (.slice none 0 0)=>K (.v (.bool true))
 | .neq,.v (.slice none 0 0)=>K (.v (.bool false))
 | _,_=>False
def gM(P:Program)(G:Option Bool)(ρ:Env)(H:aE)(op:Op)(K:AV→Prop):Prop:=
 match op with
 | .move x| .assign x=>bK G (aev ρ x) K
 | .pick c a b=>bK G (aev ρ c) fun
   | .v (.bool c)=>xU G c (aev ρ a) (aev ρ b) K
   | _=>False
 | .build t parts=>oB G ρ parts.toList fun l=>uM P t l K
 | .load t a=>match ldT P t with
   | some l=>bK G (aev ρ a) fun a=>mZ G H l a K
   | none=>False
 | .nilCheck x=>bK G (aev ρ x) fun
   | .rp cs off=>K (.rp cs off)
   | .op k i f=>K (.op k i f)
   | _=>False
 | .binOp op t x y _=>if qG y=true then bK G (aev ρ x) fun x=>cP P t=true∧pC op x K else bK G (aev ρ x) fun x=>bK G (aev ρ y) fun y=>gH P G op t x y K
 | .unOp op _ x=>bK G (aev ρ x) fun x=>aun op x K
 | .convert src dst x=>bK G (aev ρ x) fun x=>uY P src dst x K
 | .slice t x lo hi none=>bK G (aev ρ x) fun x=>match lo,hi with
   | some lo,some hi=>bK G (aev ρ lo) fun lo=>bK G (aev ρ hi) fun hi=>asl P G H t x (some lo) (some hi) K
   | some lo,none=>bK G (aev ρ lo) fun lo=>asl P G H t x (some lo) none K
   | none,some hi=>bK G (aev ρ hi) fun hi=>asl P G H t x none (some hi) K
   | none,none=>False
 | .slice t x none (some hi) (some m)=>bK G (aev ρ x) fun x=>bK G (aev ρ hi) fun hi=>bK G (aev ρ m) fun m=>BT P G t x hi m K
 | .fieldAddr t x f=>bK G (aev ρ x) fun x=>jI P t f x K
 | .field t x f=>match aK P t f with
   | some (o,l)=>bK G (aev ρ x) fun x=>apart G o l x K
   | none=>False
 | .indexAddr t x i=>bK G (aev ρ x) fun x=>bK G (aev ρ i) fun i=>fO P G H t x i K
 | .index t x i=>bK G (aev ρ x) fun x=>bK G (aev ρ i) fun i=>uD P G t x i K
 | .extract x i=>bK G (aev ρ x) fun
   | .tup vs=>(gt G→i<vs.length)∧K (vs.getD i .any)
   | _=>False
 | .lookup t x i ok=>bK G (aev ρ x) fun x=>bK G (aev ρ i) fun i=>xG P H t x i ok K
 | .makeFunc f first cap=>match f with
   | .func f=>first=#[]∧xV G ρ cap.toList fun l=>K (.fn f l)
   | _=>False
 | _=>False
def cJ(ops:Array Oper)(ρ:Env)(g:Option (Nat×Bool))(K:Option Bool→Prop):Prop:=
 match g with
 | none=>K none
 | some (j,want)=>match (ops[j]?).bind (·.dst)with
   | some t=>match ρ t with
     | .v (.bool b)=>K (some (b == want))
     | .gd g (.v (.bool b))=>K (some (g&&(b == want)))
     | _=>False
   | none=>False
def uB(mt:Nat→Bool):Option Nat→Bool
 | some d=>mt d
 | none=>false
def nX(H:aE)(r:Row)(K:Nat→aE→Prop):Prop:=∀k,H k=none→K k (aG H k (some r))
def nC(cs:List AV)(f:Nat)(xs:List AV):List AV:=cs.take f++xs++cs.drop (f+xs.length)
def jQ:List (Nat×TypeId×Nat)→List AV→aE→(List AV→aE→Prop)→Prop
 | [],cs,H,K=>K cs H
 | x::r,cs,H,K=>nX H ⟨x.2.1,x.2.2,[]⟩ fun k H'=>jQ r (cs.set x.1 (.os k)) H' K
def Aj(P:Program)(mt:Nat→Bool)(quiet:Bool)(G:Option Bool)(o:Oper)(x:Operand)(ρ:Env)(H:aE)(K:Env→aE→Prop):Prop:=
 if uB mt o.dst=true∧G=none∧quiet=false∧qG x=true then
   match cG P o.type with
   | some (e,sz,_)=>nX H ⟨e,sz,[]⟩ fun k H'=>K (upd ρ o.dst (.os k)) H'
   | none=>False
 else bK G (aev ρ x) fun y=>K (upd ρ o.dst (wr G y)) H
def Wi(mt:Nat→Bool)(o:Oper)(t:TypeId)(cs:List AV)(ρ:Env)(H:aE)(K:Env→aE→Prop):Prop:=
 if uB mt o.dst=true then
   0<cs.length∧nX H ⟨t,cs.length,[cs]⟩ fun k H'=>K (upd ρ o.dst (.op k 0 0)) H'
 else K (upd ρ o.dst (.rp cs 0)) H
def mS(P:Program)(mt:Nat→Bool)(G:Option Bool)(o:Oper)(t:TypeId)(n:Nat)(parts:List (Nat×List AV))(ρ:Env)(H:aE)(K:Env→aE→Prop):Prop:=
 match cG P t with
 | some (e,sz,_)=>
   (parts.map (·.1)=HM 0 n∧dY sz (parts.map (·.2))∧n*sz≤16777216) ∧
   (if uB mt o.dst=true∧G=none then nX H ⟨e,sz,parts.map (·.2)⟩ fun k H'=>K (upd ρ o.dst (.os k)) H'
    else K (upd ρ o.dst (wr G (.sl (parts.map (·.2))))) H)
 | none=>False
def wN(P:Program)(o:Oper)(t:TypeId)(a:AV)(cs:List AV)(ρ:Env)(H:aE)(K:Env→aE→Prop):Prop:=
 match a with
 | .op k i f=>match H k,ldT P t with
   | some r, some l => (i < r.es.length ∧ cs.length = l.getD 1 ∧ f + cs.length ≤ r.sz ∧ (l = none → ∃ i, P.info? t = some i ∧ i.size = 1)) ∧
       K (upd ρ o.dst .any) (aG H k (some { r with es:=r.es.set i (nC (r.es.getD i []) f cs) }))
   | _,_=>False
 | _=>False
def rK(P:Program)(o:Oper)(t:TypeId)(a:AV)(cs:List AV)(ρ:Env)(H:aE)(K:Env→aE→Prop):Prop:=
 wN P o t a cs ρ H K∨((ldT P t).isSome=true∧∃nl:List (Nat×TypeId×Nat),(∀x∈nl,cs[x.1]?=some (.v (.slice none 0 0))∧0<x.2.2)∧jQ nl cs H fun cs H=>wN P o t a cs ρ H K)
def xA(x:Operand)(ρ:Env)(d:Option Nat)(H:aE)(K:Env→aE→Prop):Prop:=
 match x with
 | .tmp t=>match ρ t with
   | .os j=>match H j with
     | some r=>∀Hr:aE,Hr j=none→(∀k,k≠j→Hr k=H k)→K (upd (upd ρ (some t) (.sl r.es)) d (.sl r.es)) Hr
     | none=>False
   | _=>False
 | _=>False
theorem wQ{t j:Nat}{r:Row}{ρ:Env}{d:Option Nat}{H:aE}{K:Env→aE→Prop}(hj:ρ t=.os j)(hr:H j=some r)(h:∀Hr:aE,Hr j=none→(∀k,k≠j→Hr k=H k)→K (upd (upd ρ (some t) (.sl r.es)) d (.sl r.es)) Hr):xA (.tmp t) ρ d H K:=by
 unfold xA;simp only[hj,hr];exact h
def DV(l:List Nat)(H:aE):List AV→List AV→Prop
 | [],[]=>True
 | x::xs,y::ys=>(x=y∨∃j r,j∈l∧x=.os j∧H j=some r∧y=.sl r.es)∧DV l H xs ys
 | _,_=>False
def DN(x:AV)(ρ:Env)(d:Option Nat)(H:aE)(K:Env→aE→Prop):Prop:=
 match x with
 | .agg cs=>∃(l:List Nat) (ys:List AV),DV l H cs ys∧∀Hr:aE,(∀k,k∈l→Hr k=none)→(∀k,¬k∈l→Hr k=H k)→K (upd ρ d (.agg ys)) Hr
 | _=>False
theorem WV{cs:List AV}{ρ:Env}{d:Option Nat}{H:aE}{K:Env→aE→Prop}(l:List Nat)(ys:List AV)(ht:DV l H cs ys)(h:∀Hr:aE,(∀k,k∈l→Hr k=none)→(∀k,¬k∈l→Hr k=H k)→K (upd ρ d (.agg ys)) Hr):DN (.agg cs) ρ d H K:=⟨l,ys,ht,h⟩
def CQ(H:aE)(x:AV)(K:List (List AV)→Prop):Prop:=
 match x with
 | .sl es=>K es
 | .os k=>match H k with
   | some r=>K r.es
   | none=>False
 | .oz k a b=>match H k with
   | some r=>K ((r.es.take b).drop a)
   | none=>False
 | _=>False
def Mr(H:aE)(x:AV)(K:Nat→Nat→Nat→Row→Prop):Prop:=
 match x with
 | .os k=>match H k with
   | some r=>K k 0 r.es.length r
   | none=>False
 | .oz k a b=>match H k with
   | some r=>K k a (b-a) r
   | none=>False
 | _=>False
def ST(P:Program)(o:Oper)(t:TypeId)(x y:AV)(ρ:Env)(H:aE)(K:Env→aE→Prop):Prop:=
 Mr H x fun k a n r=>CQ H y fun news=>match cG P t with
   | some (_,sz,_)=>(r.sz=sz∧dY sz news)∧K (upd ρ o.dst (.v (.int .i64 (min news.length n:Nat)))) (aG H k (some { r with es:=r.es.take a++news.take (min news.length n)++r.es.drop (a+min news.length n) }))
   | none=>False
def Ie(P:Program)(o:Oper)(t:TypeId)(x:AV)(ρ:Env)(H:aE)(K:Env→aE→Prop):Prop:=
 Mr H x fun k a n r=>match cG P t with
   | some (e,sz,_)=>match eF P e with
     | some zs=>r.sz=sz∧K (upd ρ o.dst .any) (aG H k (some { r with es:=r.es.take a++List.replicate n zs++r.es.drop (a+n) }))
     | none=>False
   | none=>False
def wT(P:Program)(o:Oper)(t:TypeId)(s x:AV)(ρ:Env)(H:aE)(K:Env→aE→Prop):Prop:=
 match s,cG P t with
 | .os k,some (e,sz,bytes)=>match H k with
   | some r => CQ H x fun news =>
       (r.e=e∧r.sz=sz∧dY sz news∧(r.es.length+news.length)*bytes≤140737488355328) ∧
       ∀k',H k'=none→K (upd ρ o.dst (.os k')) (aG (aG H k none) k' (some ⟨e,sz,r.es++news⟩))
   | none=>False
 | .cl es, some (e, sz, bytes) => CQ H x fun news =>
     (news≠[]∧dY sz es∧dY sz news∧(es.length+news.length)*bytes≤140737488355328) ∧
     ∀k',H k'=none→K (upd ρ o.dst (.os k')) (aG H k' (some ⟨e,sz,es++news⟩))
 | _,_=>False
def Fj:List (Nat×TypeId×Nat)→List AV→List AV
 | [],z=>z
 | x::r,z=>Fj r (z.set x.1 (.v (.slice none 0 0)))
def wV(P:Program)(o:Oper)(t:TypeId)(parts:List (Nat×Operand))(ρ:Env)(H:aE)(K:Env→aE→Prop):Prop:=
 oB none ρ parts fun l=>match eF P t,fB P t,oU P t with
   | some z,some pl,some nl=>match pE pl (Fj nl z) l with
     | some cs=>K (upd ρ o.dst (.agg cs)) H
     | none=>False
   | _,_,_=>False
def Ao(P:Program)(o:Oper)(t:TypeId)(parts:List (Nat×Operand))(ρ:Env)(H:aE)(K:Env→aE→Prop):Prop:=
 oB none ρ parts fun l=>match eF P t,fB P t,oU P t with
   | some z,some pl,some nl=>jQ nl z H fun z H=>match pE pl z l with
     | some cs=>K (upd ρ o.dst (.agg cs)) H
     | none=>False
   | _,_,_=>False
def mK(P:Program)(o:Oper)(t:TypeId)(m x v:AV)(ρ:Env)(H:aE)(K:Env→aE→Prop):Prop:=
 EW P H t m x fun j r _ oi=>K (upd ρ o.dst .any) (aG H j (some { r with es:=mput r.es oi x v }))
def xH(P:Program)(o:Oper)(t:TypeId)(m x:AV)(ρ:Env)(H:aE)(K:Env→aE→Prop):Prop:=
 EW P H t m x fun j r kt oi=>match oi with
   | some i=>K (upd ρ o.dst (.tup [(r.es.getD i []).getD 1 .any,.v (.int .i64 i)])) H
   | none=>match OW P kt.2 with
     | some z=>K (upd ρ o.dst (.tup [z,.v (.int .i64 r.es.length)])) (aG H j (some { r with es:=r.es++[[x,z]] }))
     | none=>False
def rE(o:Oper)(m s v:AV)(ρ:Env)(H:aE)(K:Env→aE→Prop):Prop:=
 match m,s with
 | .om j,.v (.int _ i)=>match H j with
   | some r=>(0≤i∧i<r.es.length)∧K (upd ρ o.dst .any) (aG H j (some { r with es:=r.es.set i.toNat [(r.es.getD i.toNat []).getD 0 .any,v] }))
   | none=>False
 | _,_=>False
def qM(P:Program)(o:Oper)(t:TypeId)(l c:AV)(ρ:Env)(H:aE)(K:Env→aE→Prop):Prop:=
 match l,c with
 | .v (.int _ a),.v (.int _ b)=>match cG P t with
   | some (e,sz,bytes)=>match eF P e with
     | some z=>((0≤a∧a≤b)∧(bytes:Int)*b≤140737488355328)∧nX H ⟨e,sz,List.replicate a.toNat z⟩ fun k H'=>K (upd ρ o.dst (.os k)) H'
     | none=>False
   | none=>False
 | _,_=>False
def KU:AV→Option (FuncId×List AV×List AV)
 | .v (.func (.func f) first captured)=>some (f,first.toList.map .v,captured.toList.map .v)
 | .fn f cap=>some (f,[],cap)
 | _=>none
def aD(P:Program)(f:FuncId):Bool:=match P.funcs[f]? with|some fn=>fn.name != "runtime.NumGoroutine" && fn.body.isSome|none=>false
abbrev lB:=FuncId→List AV→aE→(AV→aE→Prop)→Prop
def nfq(quiet:Bool)(r:AV)(K:AV→Prop):Prop:=match quiet,r with
 | true,.nf _=>False
 | false,.nf x=>K x
 | _,r=>K r
def Ae(P:Program)(C:lB)(PC:FuncId→List AV→aE→AV→Prop)(quiet:Bool)(G:Option Bool)(o:Oper)(c:Call)(ρ:Env)(H:aE)(K:Env→aE→Prop):Prop:=
 match c.callee with
 | .builtin b=>xV G ρ c.args.toList fun l=>match b,l,c.argTypes.toList with
   | .len,[x],[t]=>EH P H t x fun y=>K (upd ρ o.dst (wr G y)) H
   | .append,[s,x],[t,t']=>if t=t'∧G=none∧quiet=false then wT P o t s x ρ H K else False
   | .copy,[x,y],[t,_]=>if G=none∧quiet=false then ST P o t x y ρ H K else False
   | .clear,[x],[t]=>if G=none∧quiet=false then Ie P o t x ρ H K else False
   | .max,[x,y],[_,_]=>Nd x y fun z=>K (upd ρ o.dst (wr G z)) H
   | .min,[x,y],[_,_]=>LH x y fun z=>K (upd ρ o.dst (wr G z)) H
   | _,_,_=>False
 | .value f=>bK G (aev ρ f) fun x=>match KU x with
   | some (f,first,captured)=>xV G ρ c.args.toList fun l=>
     aD P f=true∧if G=none∧quiet=false then C f (first++l++captured) H fun r H'=>K (upd ρ o.dst r) H'
     else ∃r,(gt G→PC f (first++l++captured) H r)∧nfq quiet r fun r=>K (upd ρ o.dst (wr G r)) H
   | none=>False
 | .invoke _ _=>False
def aop(P:Program)(C:lB)(PC:FuncId→List AV→aE→AV→Prop)(mt:Nat→Bool)(quiet:Bool)(ops:Array Oper)(o:Oper)(ρ:Env)(H:aE)(K:Env→aE→Prop):Prop:=
 cJ ops ρ o.guard fun G=>
 match o.op with
 | .assign x=>Aj P mt quiet G o x ρ H K
 | .alloc t=>match eF P t with
   | some z => G = none ∧ quiet = false ∧ (if uB mt o.dst = true then match oU P t with
       | some nl=>jQ nl z H fun z H=>nX H ⟨t,z.length,[z]⟩ fun k H'=>K (upd ρ o.dst (.op k 0 0)) H'
       | none=>False
     else nX H ⟨t,z.length,[z]⟩ fun k H'=>K (upd ρ o.dst (.op k 0 0)) H')
   | none=>False
 | .box t x=>G=none∧quiet=false∧bK G (aev ρ x) fun x=>lV x fun cs=>Wi mt o t cs ρ H K
 | .buildSlice t n parts=>quiet=false∧oB G ρ parts.toList fun l=>mS P mt G o t n l ρ H K
 | .store t a x => G = none ∧ quiet = false ∧ (if qG x = true then bK G (aev ρ a) fun a => match cG P t with
       | some (e,sz,_)=>nX H ⟨e,sz,[]⟩ fun k H=>rK P o t a [.os k] ρ H K
       | none=>False
     else bK G (aev ρ a) fun a=>bK G (aev ρ x) fun x=>lV x fun cs=>rK P o t a cs ρ H K)
 | .call c=>Ae P C PC quiet G o c ρ H K
 | .move x=>if uB mt o.dst=true then G=none∧quiet=false∧xA x ρ o.dst H K else gM P G ρ H (.move x) fun x=>K (upd ρ o.dst (wr G x)) H
 | .pick c a b=>gM P G ρ H (.pick c a b) fun x=>K (upd ρ o.dst (wr G x)) H
 | .build t parts=>if uB mt o.dst=true then G=none∧(if quiet=true then wV P o t parts.toList ρ H K else Ao P o t parts.toList ρ H K)else gM P G ρ H (.build t parts) fun x=>K (upd ρ o.dst (wr G x)) H
 | .load t a=>if uB mt o.dst=true then G=none∧quiet=false∧gM P none ρ H (.load t a) fun x=>DN x ρ o.dst H K else gM P G ρ H (.load t a) fun x=>K (upd ρ o.dst (wr G x)) H
 | .nilCheck x=>gM P G ρ H (.nilCheck x) fun x=>K (upd ρ o.dst (wr G x)) H
 | .binOp op t x y t'=>gM P G ρ H (.binOp op t x y t') fun x=>K (upd ρ o.dst (wr G x)) H
 | .unOp op t x=>gM P G ρ H (.unOp op t x) fun x=>K (upd ρ o.dst (wr G x)) H
 | .convert s d x=>gM P G ρ H (.convert s d x) fun x=>K (upd ρ o.dst (wr G x)) H
 | .slice t x lo hi m=>gM P G ρ H (.slice t x lo hi m) fun x=>K (upd ρ o.dst (wr G x)) H
 | .fieldAddr t x f=>gM P G ρ H (.fieldAddr t x f) fun x=>K (upd ρ o.dst (wr G x)) H
 | .field t x f=>gM P G ρ H (.field t x f) fun x=>K (upd ρ o.dst (wr G x)) H
 | .indexAddr t x i=>gM P G ρ H (.indexAddr t x i) fun x=>K (upd ρ o.dst (wr G x)) H
 | .index t x i=>gM P G ρ H (.index t x i) fun x=>K (upd ρ o.dst (wr G x)) H
 | .extract x i=>gM P G ρ H (.extract x i) fun x=>K (upd ρ o.dst (wr G x)) H
 | .makeFunc f a b=>gM P G ρ H (.makeFunc f a b) fun x=>K (upd ρ o.dst (wr G x)) H
 | .makeSlice t l c=>G=none∧quiet=false∧bK G (aev ρ l) fun l=>bK G (aev ρ c) fun c=>qM P o t l c ρ H K
 | .lookup t x i ok=>gM P G ρ H (.lookup t x i ok) fun x=>K (upd ρ o.dst (wr G x)) H
 | .makeMap _ none=>G=none∧quiet=false∧nX H ⟨0,2,[]⟩ fun k H'=>K (upd ρ o.dst (.om k)) H'
 | .mapUpdate t m x v=>G=none∧quiet=false∧bK G (aev ρ m) fun m=>bK G (aev ρ x) fun x=>bK G (aev ρ v) fun v=>mK P o t m x v ρ H K
 | .insert t m x v=>G=none∧quiet=false∧bK G (aev ρ m) fun m=>bK G (aev ρ x) fun x=>bK G (aev ρ v) fun v=>mK P o t m x v ρ H K
 | .mapEntry t m x=>G=none∧quiet=false∧bK G (aev ρ m) fun m=>bK G (aev ρ x) fun x=>xH P o t m x ρ H K
 | .entryStore _ m s v=>G=none∧quiet=false∧bK G (aev ρ m) fun m=>bK G (aev ρ s) fun s=>bK G (aev ρ v) fun v=>rE o m s v ρ H K
 | _=>False
def uC(P:Program)(C:lB)(PC:FuncId→List AV→aE→AV→Prop)(mt:Nat→Bool)(quiet:Bool)(ops:Array Oper)(K:Env→aE→Prop):List Oper→Env→aE→Prop
 | [],ρ,H=>K ρ H
 | o::rest,ρ,H=>aop P C PC mt quiet ops o ρ H (uC P C PC mt quiet ops K rest)
def Ex.seq(K:Env→aE→Prop)(Q:Ex→Env→aE→Prop):Ex→Env→aE→Prop
 | .normal,ρ,H=>K ρ H
 | e,ρ,H=>Q e ρ H
def Ex.blk(id:Nat)(Q:Ex→Env→aE→Prop):Ex→Env→aE→Prop
 | .exit i,ρ,H=>if i=id then Q .normal ρ H else Q (.exit i) ρ H
 | e,ρ,H=>Q e ρ H
def NM(W:(Ex→Env→aE→Prop)→Env→aE→Prop)(Q:Ex→Env→aE→Prop)(ρ:Env)(H:aE):Prop:=
 ∃(I:Env→aE→Prop) (μ:Env→aE→Nat),I ρ H∧∀ρ' H',I ρ' H'→W (Ex.seq (fun ρ'' H''=>I ρ'' H''∧μ ρ'' H''<μ ρ' H') Q) ρ' H'
def Yc(mt:Nat→Bool)(o:Oper):Bool:=match o.op with
 | .alloc _=>true
 | .buildSlice ..=>true
 | .store ..=>true
 | .makeSlice ..=>true
 | .makeMap ..=>true
 | .mapUpdate ..=>true
 | .insert ..=>true
 | .mapEntry ..=>true
 | .entryStore ..=>true
 | .call ⟨.builtin .append,_,_⟩=>true
 | .call ⟨.builtin .copy,_,_⟩=>true
 | .call ⟨.builtin .clear,_,_⟩=>true
 | _=>uB mt o.dst
def O1(mt:Nat→Bool):List Oper→Nat
 | []=>0
 | o::r=>if Yc mt o=true then 0 else O1 mt r+1
def O9(ops:Array Oper)(n:Nat):Bool:=Region.noSelect ops&&decide (n≤ops.size)&&Region.lexHead .any ops (ops.size-n) n 0 (Array.replicate ops.size false)
def qH(o:Oper)(H:aE):aE:=match o.op with
 | .slice ..=>H
 | _=>fun _=>none
def vN(P:Program)(C:lB)(PC:FuncId→List AV→aE→AV→Prop)(mt:Nat→Bool)(ops:Array Oper)(K:Env→aE→Prop):List (Nat×Bool)→Env→aE→Prop
 | [],ρ,H=>K ρ H
 | (k,b)::f,ρ,H=>match ops[k]? with
   | some o=>if b=true then aop P C PC mt true ops o ρ (qH o H) fun ρ' _=>vN P C PC mt ops K f ρ' H
     else aop P C PC mt false ops o ρ H (vN P C PC mt ops K f)
   | none=>False
def oQ(P:Program)(C:lB)(PC:FuncId→List AV→aE→AV→Prop)(mt:Nat→Bool)(ops:Array Oper)(K:Env→aE→Prop)(Hp:aE):List (Nat×Bool)→Env→aE→Prop
 | [],ρ,H=>K ρ H
 | (k,b)::f,ρ,H=>match ops[k]? with
   | some o=>if b=true then aop P C PC mt true ops o ρ Hp fun ρ' _=>oQ P C PC mt ops K Hp f ρ' H
     else aop P C PC mt false ops o ρ H (oQ P C PC mt ops K Hp f)
   | none=>False
def lD(l:List Nat)(H:aE)(K:Env→aE→Prop)(ρ':Env)(H':aE):Prop:=
 (∀k,k∈l→H' k=none)→∀Hm:aE,(∀k,k∈l→Hm k=H k)→(∀k,k∉l→Hm k=H' k)→K ρ' Hm
theorem kL{l:List Nat}{H:aE}{K:Env→aE→Prop}{ρ':Env}{H':aE}(h:(∀k,k∈l→H' k=none)→∀Hm:aE,(∀k,k∈l→Hm k=H k)→(∀k,k∉l→Hm k=H' k)→K ρ' Hm):lD l H K ρ' H':=h
def nL(ops:Array Oper):List (Nat×Bool)→Array Bool→Bool
 | [],listed=>(Region.ready .any ops listed).isEmpty
 | (k,true)::f,listed=>(Region.ready .any ops listed).contains k&&Region.free .any ops listed k&&nL ops f (listed.setIfInBounds k true)
 | (k,false)::f,listed=>decide (Region.ready .any ops listed=[k])&&nL ops f (listed.setIfInBounds k true)
def IP(ops:Array Oper)(f:List (Nat×Bool)):Bool:=Region.noSelect ops&&decide (f.length=ops.size)&&nL ops f (Array.replicate ops.size false)
inductive Mx where
 | nil
 | q (k:Nat) (t:Mx)
 | a1 (k:Nat) (t:Mx)
 | a2 (k:Nat) (t:Mx) (k':Nat) (t':Mx)
 | a3 (k:Nat) (t:Mx) (k':Nat) (t':Mx) (k'':Nat) (t'':Mx)
def yH(P:Program)(C:lB)(PC:FuncId→List AV→aE→AV→Prop)(mt:Nat→Bool)(quiet:Bool)(ops:Array Oper)(k:Nat)(ρ:Env)(H:aE)(K:Env→aE→Prop):Prop:=
 match ops[k]? with
 | some o=>aop P C PC mt quiet ops o ρ H K
 | none=>False
def mB(P:Program)(C:lB)(PC:FuncId→List AV→aE→AV→Prop)(mt:Nat→Bool)(ops:Array Oper)(K:Env→aE→Prop)(Hp:aE):Mx→Env→aE→Prop
 | .nil,ρ,H=>K ρ H
 | .q k t,ρ,H=>yH P C PC mt true ops k ρ Hp fun ρ' _=>mB P C PC mt ops K Hp t ρ' H
 | .a1 k t,ρ,H=>yH P C PC mt false ops k ρ H (mB P C PC mt ops K Hp t)
 | .a2 k t k' t',ρ,H=>yH P C PC mt false ops k ρ H (mB P C PC mt ops K Hp t)∧yH P C PC mt false ops k' ρ H (mB P C PC mt ops K Hp t')
 | .a3 k t k' t' k'' t'',ρ,H=>yH P C PC mt false ops k ρ H (mB P C PC mt ops K Hp t)∧yH P C PC mt false ops k' ρ H (mB P C PC mt ops K Hp t')∧yH P C PC mt false ops k'' ρ H (mB P C PC mt ops K Hp t'')
def fT(ops:Array Oper):Mx→Nat→Array Bool→Bool
 | .nil,0,listed=>(Region.ready .any ops listed).isEmpty
 | .q k t,n+1,listed=>(Region.ready .any ops listed).contains k&&Region.free .any ops listed k&&fT ops t n (listed.setIfInBounds k true)
 | .a1 k t,n+1,listed=>decide (Region.ready .any ops listed=[k])&&fT ops t n (listed.setIfInBounds k true)
 | .a2 k t k' t',n+1,listed=>decide (Region.ready .any ops listed=[k,k'])&&fT ops t n (listed.setIfInBounds k true)&&fT ops t' n (listed.setIfInBounds k' true)
 | .a3 k t k' t' k'' t'',n+1,listed=>decide (Region.ready .any ops listed=[k,k',k''])&&fT ops t n (listed.setIfInBounds k true)&&fT ops t' n (listed.setIfInBounds k' true)&&fT ops t'' n (listed.setIfInBounds k'' true)
 | _,_,_=>false
def Jk(ops:Array Oper)(t:Mx):Bool:=Region.noSelect ops&&fT ops t ops.size (Array.replicate ops.size false)
def rC(P:Program)(C:lB)(PC:FuncId→List AV→aE→AV→Prop)(mt:Nat→Bool)(ops:Array Oper)(K:Env→aE→Prop)(m:Nat)(ρ:Env)(H:aE):Prop:=
 (m=ops.size∧Region.lexB .any ops=true∧uC P C PC mt true ops K ops.toList ρ H) ∨
 (O9 ops m=true∧uC P C PC mt true ops (fun ρ' _=>uC P C PC mt false ops K (ops.toList.drop m) ρ' H) (ops.toList.take m) ρ fun _=>none) ∨
 (∃f,IP ops f=true∧vN P C PC mt ops K f ρ H) ∨
 (∃l f,(∀k,k∈l→(H k).isSome=true)∧IP ops f=true∧∀Hp Hr:aE,(∀k,k∈l→Hp k=H k)→(∀k,k∉l→Hr k=H k)→(∀k,k∉l→Hp k=none)→(∀k,k∈l→Hr k=none)→oQ P C PC mt ops (lD l H K) Hp f ρ Hr) ∨
 ∃l t,(∀k,k∈l→(H k).isSome=true)∧Jk ops t=true∧∀Hp Hr:aE,(∀k,k∈l→Hp k=H k)→(∀k,k∉l→Hr k=H k)→(∀k,k∉l→Hp k=none)→(∀k,k∈l→Hr k=none)→mB P C PC mt ops (lD l H K) Hp t ρ Hr
theorem fQ{P : Program}{C : lB}{PC : FuncId → List AV → aE → AV → Prop}{mt : Nat → Bool}{l : List Oper}{K : Env → aE → Prop}{m : Nat}{ρ : Env}{H : aE}(hm : (m == l.length) = true)(hl : Region.lexB .any l.toArray = true)
 (h:uC P C PC mt true l.toArray K l ρ H):rC P C PC mt l.toArray K m ρ H:=.inl ⟨by simpa using hm,hl,h⟩
theorem HR{P : Program}{C : lB}{PC : FuncId → List AV → aE → AV → Prop}{mt : Nat → Bool}{l : List Oper}{K : Env → aE → Prop}{m : Nat}{ρ : Env}{H : aE}(hB : O9 l.toArray m = true)
 (h:uC P C PC mt true l.toArray (fun ρ' _=>uC P C PC mt false l.toArray K (l.drop m) ρ' H) (l.take m) ρ fun _=>none):rC P C PC mt l.toArray K m ρ H:=.inr (.inl ⟨hB,h⟩)
theorem jD{P : Program}{C : lB}{PC : FuncId → List AV → aE → AV → Prop}{mt : Nat → Bool}{l : List Oper}{K : Env → aE → Prop}{m : Nat}{ρ : Env}{H : aE}(f : List (Nat × Bool))(hB : IP l.toArray f = true)
 (h:vN P C PC mt l.toArray K f ρ H):rC P C PC mt l.toArray K m ρ H:=.inr (.inr (.inl ⟨f,hB,h⟩))
theorem dJ{P : Program}{C : lB}{PC : FuncId → List AV → aE → AV → Prop}{mt : Nat → Bool}{ops : List Oper}{K : Env → aE → Prop}{m : Nat}{ρ : Env}{H : aE}(l : List Nat)(f : List (Nat × Bool))(hl : ∀ k, k ∈ l → (H k).isSome = true)(hB : IP ops.toArray f = true)
 (h:∀Hp Hr:aE,(∀k,k∈l→Hp k=H k)→(∀k,k∉l→Hr k=H k)→(∀k,k∉l→Hp k=none)→(∀k,k∈l→Hr k=none)→oQ P C PC mt ops.toArray (lD l H K) Hp f ρ Hr):rC P C PC mt ops.toArray K m ρ H:=.inr (.inr (.inr (.inl ⟨l,f,hl,hB,h⟩)))
theorem zT{P : Program}{C : lB}{PC : FuncId → List AV → aE → AV → Prop}{mt : Nat → Bool}{ops : List Oper}{K : Env → aE → Prop}{m : Nat}{ρ : Env}{H : aE}(l : List Nat)(t : Mx)(hl : ∀ k, k ∈ l → (H k).isSome = true)(hB : Jk ops.toArray t = true)
 (h:∀Hp Hr:aE,(∀k,k∈l→Hp k=H k)→(∀k,k∉l→Hr k=H k)→(∀k,k∉l→Hp k=none)→(∀k,k∈l→Hr k=none)→mB P C PC mt ops.toArray (lD l H K) Hp t ρ Hr):rC P C PC mt ops.toArray K m ρ H:=.inr (.inr (.inr (.inr ⟨l,t,hl,hB,h⟩)))
def awp(P:Program)(C:lB)(PC:FuncId→List AV→aE→AV→Prop)(mt:Nat→Bool):Code→(Ex→Env→aE→Prop)→Env→aE→Prop
 | .skip,Q,ρ,H=>Q .normal ρ H
 | .region _ ops draw,Q,ρ,H=>if draw=true then rC P C PC mt ops (Q .normal) (O1 mt ops.toList) ρ H else uC P C PC mt false ops (Q .normal) ops.toList ρ H
 | .seq a b,Q,ρ,H=>awp P C PC mt a (Ex.seq (awp P C PC mt b Q) Q) ρ H
 | .cond c a b,Q,ρ,H=>match aev ρ c with
   | .v (.bool t)=>(t=true→awp P C PC mt a Q ρ H)∧(t=false→awp P C PC mt b Q ρ H)
   | _=>False
 | .block id c,Q,ρ,H=>awp P C PC mt c (Ex.blk id Q) ρ H
 | .loop c,Q,ρ,H=>NM (awp P C PC mt c) Q ρ H
 | .scope c,Q,ρ,H=>awp P C PC mt c Q ρ H
 | .label _,Q,ρ,H=>Q .normal ρ H
 | .exit id,Q,ρ,H=>Q (.exit id) ρ H
 | .ret,Q,ρ,H=>Q .ret ρ H
 | _,_,_,_=>False
def wA(x:AV)(A B:Env→aE→Prop)(ρ:Env)(H:aE):Prop:=
 match x with
 | .v (.bool t)=>(t=true→A ρ H)∧(t=false→B ρ H)
 | _=>False
section
variable{P:Program}{C:lB}{PC:FuncId→List AV→aE→AV→Prop}{mt:Nat→Bool}{Q:Ex→Env→aE→Prop}{K:Env→aE→Prop}{ρ:Env}{H:aE}{a b c:Code}{id:Nat}{ops:Array Oper}{draw:Bool}
theorem TN:awp P C PC mt .skip Q ρ H=Q .normal ρ H:=(rfl)
theorem Dm:awp P C PC mt (.region id ops false) Q ρ H=uC P C PC mt false ops (Q .normal) ops.toList ρ H:=by simp[awp]
theorem KO:awp P C PC mt (.region id ops true) Q ρ H=rC P C PC mt ops (Q .normal) (O1 mt ops.toList) ρ H:=by simp[awp]
@[congr] theorem adraw_c {m m':Nat} (h:m=m'):rC P C PC mt ops K m ρ H=rC P C PC mt ops K m' ρ H:=h▸rfl
theorem OO:awp P C PC mt (.seq a b) Q ρ H=awp P C PC mt a (Ex.seq (awp P C PC mt b Q) Q) ρ H:=(rfl)
theorem KK{x:Operand}:awp P C PC mt (.cond x a b) Q ρ H=wA (aev ρ x) (awp P C PC mt a Q) (awp P C PC mt b Q) ρ H:=(rfl)
theorem F9:awp P C PC mt (.block id c) Q ρ H=awp P C PC mt c (Ex.blk id Q) ρ H:=(rfl)
theorem Ki:awp P C PC mt (.loop c) Q ρ H=NM (awp P C PC mt c) Q ρ H:=(rfl)
theorem EX:awp P C PC mt (.scope c) Q ρ H=awp P C PC mt c Q ρ H:=(rfl)
theorem QI{l:Nat}:awp P C PC mt (.label l) Q ρ H=Q .normal ρ H:=(rfl)
theorem UI:awp P C PC mt (.exit id) Q ρ H=Q (.exit id) ρ H:=(rfl)
theorem VR:awp P C PC mt .ret Q ρ H=Q .ret ρ H:=(rfl)
theorem RT:uC P C PC mt draw ops K [] ρ H=K ρ H:=(rfl)
theorem Qw{o:Oper}{r:List Oper}:uC P C PC mt draw ops K (o::r) ρ H=aop P C PC mt draw ops o ρ H (uC P C PC mt draw ops K r):=(rfl)
theorem Lz:Ex.seq K Q .normal ρ H=K ρ H:=(rfl)
theorem Tc:Ex.seq K Q (.exit id) ρ H=Q (.exit id) ρ H:=(rfl)
theorem VW:Ex.seq K Q .ret ρ H=Q .ret ρ H:=(rfl)
theorem MQ:Ex.blk id Q .normal ρ H=Q .normal ρ H:=(rfl)
theorem ON:Ex.blk id Q .ret ρ H=Q .ret ρ H:=(rfl)
theorem KE:Ex.blk id Q (.exit id) ρ H=Q .normal ρ H:=by simp[Ex.blk]
theorem QL{i:Nat}(h:(i == id)=false):Ex.blk id Q (.exit i) ρ H=Q (.exit i) ρ H:=by
 have:i≠id:=by simpa using h
 simp[Ex.blk,this]
end
@[congr] theorem wopd_c {G x x' k} (h:x=x'):bK G x k=bK G x' k:=h▸rfl
@[congr] theorem abin_c {P G op t x x' y y' k} (h:x=x') (h':y=y'):gH P G op t x y k=gH P G op t x' y' k:=h▸h'▸rfl
@[congr] theorem apick_c {G c c' x x' y y' k} (h0:c=c') (h:x=x') (h':y=y'):xU G c x y k=xU G c' x' y' k:=h0▸h▸h'▸rfl
@[congr] theorem aload_c {G H l l' x x' k} (h:l=l') (h':x=x'):mZ G H l x k=mZ G H l' x' k:=h▸h'▸rfl
@[congr] theorem apart_c {G o o' l l' x x' k} (h0:o=o') (h:l=l') (h':x=x'):apart G o l x k=apart G o' l' x' k:=h0▸h▸h'▸rfl
@[congr] theorem alen_c {P H t x x' k} (h':x=x'):EH P H t x k=EH P H t x' k:=h'▸rfl
@[congr] theorem aindexAddr_c {P G H t x x' y y' k} (h:x=x') (h':y=y'):fO P G H t x y k=fO P G H t x' y' k:=h▸h'▸rfl
@[congr] theorem aindex_c {P G t x x' y y' k} (h:x=x') (h':y=y'):uD P G t x y k=uD P G t x' y' k:=h▸h'▸rfl
@[congr] theorem afieldAddr_c {P t f x x' k} (h':x=x'):jI P t f x k=jI P t f x' k:=h'▸rfl
@[congr] theorem abuild_c {P t l l' k} (h':l=l'):uM P t l k=uM P t l' k:=h'▸rfl
@[congr] theorem aslice_c {P G t x x' lo lo' hi hi' k} (h:x=x') (h1:lo=lo') (h2:hi=hi'):lT P G t x lo hi k=lT P G t x' lo' hi' k:=h▸h1▸h2▸rfl
@[congr] theorem aun_c {op x x' k} (h':x=x'):aun op x k=aun op x' k:=h'▸rfl
@[congr] theorem aconv_c {P s t x x' k} (h':x=x'):uY P s t x k=uY P s t x' k:=h'▸rfl
@[congr] theorem wcells_c {x x' K} (h:x=x'):lV x K=lV x' K:=h▸rfl
@[congr] theorem acond_c {x x' A B ρ H} (h':x=x'):wA x A B ρ H=wA x' A B ρ H:=h'▸rfl
@[congr] theorem abox_c {mt o t x x' ρ H K} (h:x=x'):Wi mt o t x ρ H K=Wi mt o t x' ρ H K:=h▸rfl
@[congr] theorem abuildSlice_c {P mt G o t n x x' ρ H K} (h:x=x'):mS P mt G o t n x ρ H K=mS P mt G o t n x' ρ H K:=h▸rfl
@[congr] theorem astore_c {P o t a a' x x' ρ H K} (h:a=a') (h':x=x'):wN P o t a x ρ H K=wN P o t a' x' ρ H K:=h▸h'▸rfl
@[congr] theorem aappend_c {P o t a a' x x' ρ H K} (h:a=a') (h':x=x'):wT P o t a x ρ H K=wT P o t a' x' ρ H K:=h▸h'▸rfl
@[congr] theorem asrc_c {H x x' K} (h:x=x'):CQ H x K=CQ H x' K:=h▸rfl
@[congr] theorem anew_c {H r r' K} (h:r=r'):nX H r K=nX H r' K:=h▸rfl
theorem aB{t:Bool}{A B:Env→aE→Prop}{ρ:Env}{H:aE}(h1:t=true→A ρ H)(h2:t=false→B ρ H):wA (.v (.bool t)) A B ρ H:=⟨h1,h2⟩
def Hx(args:List AV):Env:=fun t=>args.getD t .any
def bE:AV→Nat
 | .v (.int _ n)=>n.toNat
 | _=>0
theorem aH{k n}:bE (.v (.int k n))=n.toNat:=(rfl)
section
variable{G:Option Bool}{k:AV→Prop}
theorem UT{x}:bK G (.v x) k=k (.v x):=(rfl)
theorem IF:bK G .any k=k .any:=(rfl)
theorem N7{x}:bK G (.sl x) k=k (.sl x):=(rfl)
theorem Ox{x o}:bK G (.rp x o) k=k (.rp x o):=(rfl)
theorem Kr{x}:bK G (.agg x) k=k (.agg x):=(rfl)
theorem Lh{x}:bK G (.tup x) k=k (.tup x):=(rfl)
theorem N9{x}:bK G (.os x) k=k (.os x):=(rfl)
theorem OG{x i f}:bK G (.op x i f) k=k (.op x i f):=(rfl)
theorem NG{f l}:bK G (.fn f l) k=k (.fn f l):=(rfl)
theorem O6{j a b}:bK G (.oz j a b) k=k (.oz j a b):=(rfl)
theorem Oc{es}:bK G (.cl es) k=k (.cl es):=(rfl)
theorem On{j}:bK G (.om j) k=k (.om j):=(rfl)
theorem OP{g x}:bK G (.gd g x) k=(gok G g∧k x):=(rfl)
end
def Oo(K:Env→aE→Prop)(ρ:Env)(d:Option Tmp)(j:Nat)(H:aE):Prop:=K (upd ρ d (.os j)) H
def OC(K:Env→aE→Prop)(ρ:Env)(d:Option Tmp)(j:Nat)(H:aE):Prop:=K (upd ρ d (.op j 0 0)) H
def TX(K:Env→aE→Prop)(ρ:Env)(d:Option Tmp)(r:AV)(H:aE):Prop:=K (upd ρ d r) H
theorem JI{K ρ d j H}:Oo K ρ d j H=K (upd ρ d (.os j)) H:=(rfl)
theorem KJ{K ρ d j H}:OC K ρ d j H=K (upd ρ d (.op j 0 0)) H:=(rfl)
theorem Kb{K ρ d r H}:TX K ρ d r H=K (upd ρ d r) H:=(rfl)
def wpick(G:Option Bool)(c x y:AV)(k:AV→Prop):Prop:=match c with
 | .v (.bool c)=>xU G c x y k
 | _=>False
@[congr] theorem wpick_c {G c c' x y k} (h:c=c'):wpick G c x y k=wpick G c' x y k:=h▸rfl
theorem NQ{G c x y k}:wpick G (.v (.bool c)) x y k=xU G c x y k:=(rfl)
def TQ(x:AV)(k:AV→Prop):Prop:=match x with
 | .rp cs off=>k (.rp cs off)
 | .op j i f=>k (.op j i f)
 | _=>False
@[congr] theorem wptr_c {x x' k} (h:x=x'):TQ x k=TQ x' k:=h▸rfl
theorem ND{cs o k}:TQ (.rp cs o) k=k (.rp cs o):=(rfl)
theorem NJ{j i f k}:TQ (.op j i f) k=k (.op j i f):=(rfl)
def Xq(G:Option Bool)(x:AV)(i:Nat)(k:AV→Prop):Prop:=match x with
 | .tup vs=>(gt G→i<vs.length)∧k (vs.getD i .any)
 | _=>False
@[congr] theorem wtup_c {G x x' i k} (h:x=x'):Xq G x i k=Xq G x' i k:=h▸rfl
theorem Oz{G vs i k}:Xq G (.tup vs) i k=((gt G→i<vs.length)∧k (vs.getD i .any)):=(rfl)
def QE(P:Program)(d:Option Tmp)(t:TypeId)(a:AV)(cs:List AV)(ρ:Env)(H:aE)(K:Env→aE→Prop):Prop:=rK P ⟨d,.move (.tmp 0),0,"",#[],none⟩ t a cs ρ H K
@[congr] theorem wput_c {P d t a a' cs cs' ρ H K} (h:a=a') (h':cs=cs'):QE P d t a cs ρ H K=QE P d t a' cs' ρ H K:=h▸h'▸rfl
def Tk(P:Program)(d:Option Tmp)(t:TypeId)(s x:AV)(ρ:Env)(H:aE)(K:Env→aE→Prop):Prop:=wT P ⟨d,.move (.tmp 0),0,"",#[],none⟩ t s x ρ H K
@[congr] theorem wapp_c {P d t s s' x x' ρ H K} (h:s=s') (h':x=x'):Tk P d t s x ρ H K=Tk P d t s' x' ρ H K:=h▸h'▸rfl
def Kp(P:Program)(d:Option Tmp)(t:TypeId)(l c:AV)(ρ:Env)(H:aE)(K:Env→aE→Prop):Prop:=qM P ⟨d,.move (.tmp 0),0,"",#[],none⟩ t l c ρ H K
@[congr] theorem wmake_c {P d t s s' x x' ρ H K} (h:s=s') (h':x=x'):Kp P d t s x ρ H K=Kp P d t s' x' ρ H K:=h▸h'▸rfl
def Rr(P:Program)(d:Option Tmp)(t:TypeId)(x y:AV)(ρ:Env)(H:aE)(K:Env→aE→Prop):Prop:=ST P ⟨d,.move (.tmp 0),0,"",#[],none⟩ t x y ρ H K
@[congr] theorem wcopy_c {P d t s s' x x' ρ H K} (h:s=s') (h':x=x'):Rr P d t s x ρ H K=Rr P d t s' x' ρ H K:=h▸h'▸rfl
def CP(P:Program)(d:Option Tmp)(t:TypeId)(x:AV)(ρ:Env)(H:aE)(K:Env→aE→Prop):Prop:=Ie P ⟨d,.move (.tmp 0),0,"",#[],none⟩ t x ρ H K
@[congr] theorem wclear_c {P d t s s' ρ H K} (h:s=s'):CP P d t s ρ H K=CP P d t s' ρ H K:=h▸rfl
theorem Uc{P : Program}{d : Option Tmp}{t : TypeId}{x : AV}{ρ : Env}{H : aE}{K : Env → aE → Prop}{e : TypeId}{sz bytes j a n : Nat}{r : Row}{zs : List AV}(he : cG P t = some (e, sz, bytes))(hz : eF P e = some zs)(hj : H j = some r)
   (hx:(x=.os j∧a=0∧n=r.es.length)∨∃b,x=.oz j a b∧n=b-a) (h1:r.sz=sz) (h:K (upd ρ d .any) (aG H j (some { r with es:=r.es.take a++List.replicate n zs++r.es.drop (a+n) }))):CP P d t x ρ H K:=by
 unfold CP Ie;have ht:∀F:Nat→Nat→Nat→Row→Prop,F j a n r→Mr H x F:=by
   intro F hF;rcases hx with⟨rfl,rfl,rfl⟩|⟨b,rfl,rfl⟩
   · simp only[Mr,hj];exact hF
   · simp only[Mr,hj];exact hF
 refine ht _ ?_;simp only[he,hz];exact⟨h1,h⟩
theorem aL{H:aE}{r:Row}{F:Nat→aE→Prop}(h:∀j,H j=none→F j (aG H j (some r))):nX H r F:=h
def bD{α:Type}(o:Option α)(f:α→Prop):Prop:=match o with|some x=>f x|none=>False
theorem Ed{α:Type}{x:α}{f:α→Prop}:bD (some x) f=f x:=(rfl)
@[congr] theorem withO_c {α:Type} {o o':Option α} {f:α→Prop} (h:o=o'):bD o f=bD o' f:=h▸rfl
section
variable{P:Program}{C:lB}{PC:FuncId→List AV→aE→AV→Prop}{mt:Nat→Bool}{q:Bool}{ops:Array Oper}{d:Option Tmp}{ty:TypeId}{pos:String}{aft:Array Edge}{ρ:Env}{H:aE}{K:Env→aE→Prop}{G:Option Bool}{k:AV→Prop}
theorem NO{t}:aev ρ (.tmp t)=ρ t:=(rfl)
theorem Gz{v}:aev ρ (.const v)=oP v:=(rfl)
theorem Kh{f}:aev ρ (.func f)=.v (.func (.func f) #[] #[]):=(rfl)
theorem JM{t n a b}:gH P G .add t (.v (.int n a)) (.v (.int n b)) k=k (.v (.int n (n.wrap (a+b)))):=by simp[gH,tT]
theorem JP{t n a b}:gH P G .sub t (.v (.int n a)) (.v (.int n b)) k=k (.v (.int n (n.wrap (a-b)))):=by simp[gH,tT]
theorem Iw{t n a b}:gH P G .mul t (.v (.int n a)) (.v (.int n b)) k=k (.v (.int n (n.wrap (a*b)))):=by simp[gH,tT]
theorem Jf{t n a b}:gH P G .quo t (.v (.int n a)) (.v (.int n b)) k=((gt G→b≠0)∧k (.v (.int n (n.wrap (a.tdiv b))))):=by simp[gH,tT]
theorem Ln{t n a b}:gH P G .rem t (.v (.int n a)) (.v (.int n b)) k=((gt G→b≠0)∧k (.v (.int n (a.tmod b)))):=by simp[gH,tT]
theorem JD{t n a b}:gH P G .eql t (.v (.int n a)) (.v (.int n b)) k=k (.v (.bool (a == b))):=by simp[gH,tT]
theorem KQ{t n a b}:gH P G .neq t (.v (.int n a)) (.v (.int n b)) k=k (.v (.bool (a != b))):=by simp[gH,tT]
theorem I5{t n a b}:gH P G .lss t (.v (.int n a)) (.v (.int n b)) k=k (.v (.bool (decide (a<b)))):=by simp[gH,tT]
theorem Lp{t n a b}:gH P G .leq t (.v (.int n a)) (.v (.int n b)) k=k (.v (.bool (decide (a≤b)))):=by simp[gH,tT]
theorem Ju{t n a b}:gH P G .gtr t (.v (.int n a)) (.v (.int n b)) k=k (.v (.bool (decide (a>b)))):=by simp[gH,tT]
theorem KP{t n a b}:gH P G .geq t (.v (.int n a)) (.v (.int n b)) k=k (.v (.bool (decide (a≥b)))):=by simp[gH,tT]
theorem Lq{t n m a b}:gH P G .shl t (.v (.int n a)) (.v (.int m b)) k=((gt G→0≤b)∧k (.v (.int n (shV .shl n a b)))):=by simp[gH,tT]
theorem Js{t n m a b}:gH P G .shr t (.v (.int n a)) (.v (.int m b)) k=((gt G→0≤b)∧k (.v (.int n (shV .shr n a b)))):=by simp[gH,tT]
theorem IJ{t n a b}:gH P G .and t (.v (.int n a)) (.v (.int n b)) k=k (.v (.int n (qQ .and n a b))):=by simp[gH,tT]
theorem N8{t n a b}:gH P G .or t (.v (.int n a)) (.v (.int n b)) k=k (.v (.int n (qQ .or n a b))):=by simp[gH,tT]
theorem Jh{t n a b}:gH P G .xor t (.v (.int n a)) (.v (.int n b)) k=k (.v (.int n (qQ .xor n a b))):=by simp[gH,tT]
theorem BM{t n a b}:gH P G .andNot t (.v (.int n a)) (.v (.int n b)) k=k (.v (.int n (qQ .andNot n a b))):=by simp[gH,tT]
theorem Gm{op t x}:gH P G op t (.v x) .any k=((gt G→False)∧k .any):=by cases x <;> rfl
theorem Gf{op t x}:gH P G op t .any (.v x) k=((gt G→False)∧k .any):=by cases x <;> rfl
theorem Fp{x}:sS false .any (.v x)=.v x:=by cases x <;> rfl
theorem CN{x}:sS true (.v x) .any=.v x:=by cases x with
 | bool b=>cases b <;> rfl
 | _=>rfl
theorem EO{t a b}:gH P G .add t (.v (.string a)) (.v (.string b)) k=((gt G→((a.size+b.size:Nat):Int)≤IntKind.i64.max)∧k (.v (.string (a++b)))):=(rfl)
theorem Fb{t a b}:gH P G .eql t (.v (.string a)) (.v (.string b)) k=k (.v (.bool (a.toList == b.toList))):=(rfl)
theorem F3{t a b}:gH P G .neq t (.v (.string a)) (.v (.string b)) k=k (.v (.bool !(a.toList == b.toList))):=(rfl)
theorem ES{t a b}:gH P G .eql t (.v (.bool a)) (.v (.bool b)) k=if xI P t then k (.v (.bool (a == b)))else False:=(rfl)
theorem Gj{t a b}:gH P G .neq t (.v (.bool a)) (.v (.bool b)) k=if xI P t then k (.v (.bool !(a == b)))else False:=(rfl)
theorem Fi{t x y}:gH P G .eql t (.agg x) (.agg y) k=bD (xN P t) fun l=>bD (gV l x y) fun b=>k (.v (.bool b)):=by
 cases h1:xN P t with
 | none=>simp[gH,bD,h1]
 | some l=>cases h2:gV l x y <;> simp[gH,bD,h1,h2]
theorem FT{t x y}:gH P G .neq t (.agg x) (.agg y) k=bD (xN P t) fun l=>bD (gV l x y) fun b=>k (.v (.bool !b)):=by
 cases h1:xN P t with
 | none=>simp[gH,bD,h1]
 | some l=>cases h2:gV l x y <;> simp[gH,bD,h1,h2]
theorem IW{c x y}:xU G c (.v x) (.v y) k=k (sS c (.v x) (.v y)):=(rfl)
theorem KI{c x g y}:xU G c (.v x) (.gd g y) k=((gt G→c=false→g=true)∧k (sS c (.v x) y)):=(rfl)
theorem I9{c g x y}:xU G c (.gd g x) (.v y) k=((gt G→c=true→g=true)∧k (sS c x (.v y))):=(rfl)
theorem N4{c b}:sS c (.v (.bool true)) (.v (.bool b))=.v (.bool (c||b)):=(rfl)
theorem OJ{c a}:sS c (.v (.bool a)) (.v (.bool false))=.v (.bool (c&&a)):=by cases a <;> cases c <;> rfl
theorem FQ{cs o}:mZ G H none (.rp cs o) k=((gt G→o<cs.length)∧k (cs.getD o .any)):=(rfl)
theorem Fq{cs o n}:mZ G H (some n) (.rp cs o) k=((gt G→o+n≤cs.length)∧k (.agg ((cs.drop o).take n))):=(rfl)
theorem Fk{j i f}:mZ G H none (.op j i f) k=bD (H j) fun r=>(gt G→i<r.es.length∧f<r.sz)∧k ((r.es.getD i []).getD f .any):=by
 cases h1:H j <;> simp[mZ,bD,h1]
theorem FV{j i f n}:mZ G H (some n) (.op j i f) k=bD (H j) fun r=>(gt G→i<r.es.length∧f+n≤r.sz)∧k (.agg (((r.es.getD i []).drop f).take n)):=by
 cases h1:H j <;> simp[mZ,bD,h1]
theorem O2{o cs}:apart G o none (.agg cs) k=((gt G→o<cs.length)∧k (cs.getD o .any)):=(rfl)
theorem NX{o n cs}:apart G o (some n) (.agg cs) k=((gt G→o+n≤cs.length)∧k (.agg ((cs.drop o).take n))):=(rfl)
theorem OD{t es}:EH P H t (.sl es) k=if cP P t then k (.v (.int .i64 es.length))else False:=(rfl)
theorem Oh{t j}:EH P H t (.os j) k=bD (H j) fun r=>if cP P t then k (.v (.int .i64 r.es.length))else False:=by
 cases h1:H j <;> simp[EH,bD,h1]
theorem N3{t s}:EH P H t (.v (.string s)) k=if dS P t then k (.v (.int .i64 s.size))else False:=(rfl)
theorem xX{t es n i}:fO P G H t (.sl es) (.v (.int n i)) k=bD (cG P t) fun e=>(gt G→(0≤i∧i<es.length)∧(es.getD i.toNat []).length=e.2.1)∧k (.rp (es.getD i.toNat []) 0):=by
 cases h1:cG P t <;> simp[fO,bD,h1]
theorem xS{t j n i}:fO P G H t (.os j) (.v (.int n i)) k=bD (H j) fun r=>bD (cG P t) fun e=>(gt G→(0≤i∧i<r.es.length)∧r.sz=e.2.1)∧k (.op j i.toNat 0):=by
 cases h1:H j <;> cases h2:cG P t <;> simp[fO,bD,h1,h2]
theorem xP{t cs o n i}:fO P G H t (.rp cs o) (.v (.int n i)) k=bD (sB P t) fun e=>(gt G→0≤i∧i<e.1)∧k (.rp cs (o+i.toNat*e.2.1)):=by
 cases h1:sB P t <;> simp[fO,bD,h1]
theorem xT{t j a o n i}:fO P G H t (.op j a o) (.v (.int n i)) k=bD (sB P t) fun e=>(gt G→0≤i∧i<e.1)∧k (.op j a (o+i.toNat*e.2.1)):=by
 cases h1:sB P t <;> simp[fO,bD,h1]
theorem xZ{t f cs o}:jI P t f (.rp cs o) k=bD (aK P t f) fun e=>k (.rp cs (o+e.1)):=by
 cases h1:aK P t f <;> simp[jI,bD,h1]
theorem xW{t f j i o}:jI P t f (.op j i o) k=bD (aK P t f) fun e=>k (.op j i (o+e.1)):=by
 cases h1:aK P t f <;> simp[jI,bD,h1]
theorem NR{b}:aun .not (.v (.bool b)) k=k (.v (.bool !b)):=(rfl)
theorem Ot{n i}:aun .neg (.v (.int n i)) k=k (.v (.int n (n.wrap (0-i)))):=(rfl)
theorem F5{s t n i}:uY P s t (.v (.int n i)) k=bD (DI P t) fun m=>bD (DI P s) fun _=>k (.v (.int m (m.wrap i))):=by
 cases h1:DI P t <;> cases h2:DI P s <;> simp[uY,bD,h1,h2]
theorem Fm{s t x}:uY P s t (.v (.string x)) k=if dS P s∧dS P t then k (.v (.string x))else False:=(rfl)
theorem Ld{s t es}:uY P s t (.sl es) k=if A7 P s∧dS P t then bD (oZ es) fun ns=>k (.v (.string (strOfNums ns)))else False:=by
 by_cases hc:A7 P s∧dS P t
 · cases h1:oZ es <;> simp[uY,bD,hc,h1]
 · simp[uY,hc]
theorem FM{t es n a m b}:lT P G t (.sl es) (some (.v (.int n a))) (some (.v (.int m b))) k=bD (cG P t) fun e=>(gt G→(0≤a∧a≤b∧b≤es.length)∧dY e.2.1 es)∧k (.sl ((es.take b.toNat).drop a.toNat)):=by
 cases h1:cG P t <;> simp[lT,bD,h1]
theorem JW{t es n a}:lT P G t (.sl es) (some (.v (.int n a))) none k=bD (cG P t) fun e=>(gt G→(0≤a∧a≤es.length)∧dY e.2.1 es)∧k (.sl (es.drop a.toNat)):=by
 cases h1:cG P t <;> simp[lT,bD,h1]
theorem Ix{t es m b}:lT P G t (.sl es) none (some (.v (.int m b))) k=bD (cG P t) fun _=>(gt G→0≤b∧b≤es.length)∧k (.sl (es.take b.toNat)):=by
 cases h1:cG P t <;> simp[lT,bD,h1]
theorem DW{t s n a m b}:lT P G t (.v (.string s)) (some (.v (.int n a))) (some (.v (.int m b))) k=if dS P t then(gt G→0≤a∧a≤b∧b≤s.size)∧k (.v (.string (s.extract a.toNat b.toNat)))else False:=(rfl)
theorem FZ{t s n a}:lT P G t (.v (.string s)) (some (.v (.int n a))) none k=if dS P t then(gt G→0≤a∧a≤s.size)∧k (.v (.string (s.extract a.toNat s.size)))else False:=(rfl)
theorem Gu{t s m b}:lT P G t (.v (.string s)) none (some (.v (.int m b))) k=if dS P t then(gt G→0≤b∧b≤s.size)∧k (.v (.string (s.extract 0 b.toNat)))else False:=(rfl)
theorem Jd{P:Program}{t es n m}{a b:Int}:BT P G t (.sl es) (.v (.int n a)) (.v (.int m b)) k=bD (cG P t) fun _=>(gt G→a=es.length∧b=es.length)∧k (.cl es):=by
 unfold BT bD;cases cG P t <;> rfl
@[congr] theorem aclip_c {P:Program} {t x x' a a' b b'} (h:x=x') (h1:a=a') (h2:b=b'):BT P G t x a b k=BT P G t x' a' b' k:=h▸h1▸h2▸rfl
theorem Gw{t s n i}:uD P G t (.v (.string s)) (.v (.int n i)) k=if dS P t then(gt G→0≤i∧i<s.size)∧k (.v (.int .u8 ((s.data.getD i.toNat 0).toNat:Int)))else False:=(rfl)
theorem F4{t cs n i}:uD P G t (.agg cs) (.v (.int n i)) k=bD (sB P t) fun e=>(gt G→0≤i∧i<e.1)∧apart G (i.toNat*e.2.1) e.2.2 (.agg cs) k:=by
 cases h1:sB P t <;> simp[uD,bD,h1]
theorem Cx{cs}{k:List AV→Prop}:lV (.agg cs) k=k cs:=(rfl)
theorem K6{v}{k:List AV→Prop}:lV (.v v) k=(v.oneCell'=true∧k [.v v]):=(rfl)
theorem FX{es}{k:List AV→Prop}:lV (.sl es) k=k [.sl es]:=(rfl)
theorem FO{cs o}{k:List AV→Prop}:lV (.rp cs o) k=k [.rp cs o]:=(rfl)
theorem F0{j}{k:List AV→Prop}:lV (.os j) k=k [.os j]:=(rfl)
theorem FI{j i f}{k:List AV→Prop}:lV (.op j i f) k=k [.op j i f]:=(rfl)
theorem E6{t l}:uM P t l k=bD (eF P t) fun z=>bD (fB P t) fun pl=>bD (pE pl z l) fun cs=>k (.agg cs):=by
 cases h1:eF P t with
 | none=>simp[uM,bD,h1]
 | some z=>cases h2:fB P t with
   | none=>simp[uM,bD,h1,h2]
   | some pl=>cases h3:pE pl z l <;> simp[uM,bD,h1,h2,h3]
def wgd(x:AV)(w:Bool)(F:Option Bool→Prop):Prop:=match x with
 | .v (.bool b)=>F (some (b == w))
 | .gd g (.v (.bool b))=>F (some (g&&(b == w)))
 | _=>False
@[congr] theorem wgd_c {x x' w F} (h:x=x'):wgd x w F=wgd x' w F:=h▸rfl
theorem Yl{b w F}:wgd (.v (.bool b)) w F=F (some (b == w)):=(rfl)
theorem Yo{g b w F}:wgd (.gd g (.v (.bool b))) w F=F (some (g&&(b == w))):=(rfl)
theorem BZ{F}:cJ ops ρ none F=F none:=(rfl)
theorem BQ{j w F}:cJ ops ρ (some (j,w)) F=bD ((ops[j]?).bind (·.dst)) fun t=>wgd (ρ t) w F:=by
 cases h1:(ops[j]?).bind (·.dst)with
 | none=>simp[cJ,bD,h1]
 | some t=>simp only[cJ,bD,h1,wgd]
def lL(K:Env→aE→Prop)(ρ:Env)(d:Option Tmp)(G:Option Bool)(H:aE)(x:AV):Prop:=K (upd ρ d (wr G x)) H
theorem Gc{x}:lL K ρ d none H x=K (upd ρ d x) H:=(rfl)
theorem FA{b x}:lL K ρ d (some b) H x=K (upd ρ d (.gd b x)) H:=(rfl)
end
section
variable{P:Program}{C:lB}{PC:FuncId→List AV→aE→AV→Prop}{mt:Nat→Bool}{q:Bool}{ops:Array Oper}{d:Option Tmp}{ty:TypeId}{pos:String}{aft:Array Edge}{gd:Option (Nat×Bool)}{ρ:Env}{H:aE}{K:Env→aE→Prop}
theorem Th{x}:aop P C PC mt q ops ⟨d,.move x,ty,pos,aft,gd⟩ ρ H K=cJ ops ρ gd fun G=>if uB mt d=true then G=none∧q=false∧xA x ρ d H K else bK G (aev ρ x) (lL K ρ d G H):=(rfl)
theorem TW{c a b}:aop P C PC mt q ops ⟨d,.pick c a b,ty,pos,aft,gd⟩ ρ H K=cJ ops ρ gd fun G=>bK G (aev ρ c) fun x=>wpick G x (aev ρ a) (aev ρ b) (lL K ρ d G H):=(rfl)
theorem PP{t l}: aop P C PC mt q ops ⟨d, .build t l, ty, pos, aft, gd⟩ ρ H K = cJ ops ρ gd fun G => if uB mt d = true then G = none ∧ (if q = true then oB none ρ l.toList (fun l => bD (eF P t) fun z => bD (fB P t) fun pl => bD (oU P t) fun nl => bD (pE pl (Fj nl z) l) fun cs => lL K ρ d none H (.agg cs)) else
     oB none ρ l.toList (fun l=>bD (eF P t) fun z=>bD (fB P t) fun pl=>bD (oU P t) fun nl=>jQ nl z H fun z H=>bD (pE pl z l) fun cs=>lL K ρ d none H (.agg cs)))
   else oB G ρ l.toList fun l=>uM P t l (lL K ρ d G H):=by
 show cJ ops ρ gd (fun G=>if uB mt d=true then G=none∧(if q=true then wV P ⟨d,.build t l,ty,pos,aft,gd⟩ t l.toList ρ H K else Ao P ⟨d,.build t l,ty,pos,aft,gd⟩ t l.toList ρ H K)else _)=_
 congr 1;funext G;congr 3
 · unfold wV
   congr 1;funext l
   cases h1:eF P t with
   | none=>simp[bD]
   | some z=>cases h2:fB P t with
     | none=>simp[bD]
     | some pl=>cases h3:oU P t with
       | none=>simp[bD]
       | some nl=>simp only[bD];cases h4:pE pl (Fj nl z) l <;> rfl
 unfold Ao
 congr 1;funext l
 cases h1:eF P t with
 | none=>simp[bD]
 | some z=>cases h2:fB P t with
   | none=>simp[bD]
   | some pl=>cases h3:oU P t with
     | none=>simp[bD]
     | some nl=>simp only[bD];congr 1;funext z H;cases h4:pE pl z l <;> rfl
theorem RY{t x}:aop P C PC mt q ops ⟨d,.load t x,ty,pos,aft,gd⟩ ρ H K=cJ ops ρ gd fun G=>if uB mt d=true then G=none∧q=false∧bD (ldT P t) fun l=>bK none (aev ρ x) fun y=>mZ none H l y fun z=>DN z ρ d H K else bD (ldT P t) fun l=>bK G (aev ρ x) fun y=>mZ G H l y (lL K ρ d G H):=by
 show cJ ops ρ gd (fun G=>if uB mt d=true then G=none∧q=false∧gM P none ρ H (.load t x) fun z=>DN z ρ d H K else gM P G ρ H (.load t x) (lL K ρ d G H))=_
 congr 1;funext G;cases h1:ldT P t <;> simp[gM,bD,h1]
theorem In{x}:aop P C PC mt q ops ⟨d,.nilCheck x,ty,pos,aft,gd⟩ ρ H K=cJ ops ρ gd fun G=>bK G (aev ρ x) fun y=>TQ y (lL K ρ d G H):=(rfl)
theorem X4{op t x y t'}:aop P C PC mt q ops ⟨d,.binOp op t x y t',ty,pos,aft,gd⟩ ρ H K=cJ ops ρ gd fun G=>if qG y=true then bK G (aev ρ x) fun x=>cP P t=true∧pC op x (lL K ρ d G H)else bK G (aev ρ x) fun x=>bK G (aev ρ y) fun y=>gH P G op t x y (lL K ρ d G H):=(rfl)
theorem Zb{op t x}:aop P C PC mt q ops ⟨d,.unOp op t x,ty,pos,aft,gd⟩ ρ H K=cJ ops ρ gd fun G=>bK G (aev ρ x) fun x=>aun op x (lL K ρ d G H):=(rfl)
theorem Sn{s t x}:aop P C PC mt q ops ⟨d,.convert s t x,ty,pos,aft,gd⟩ ρ H K=cJ ops ρ gd fun G=>bK G (aev ρ x) fun x=>uY P s t x (lL K ρ d G H):=(rfl)
theorem Ht{t x lo hi}:aop P C PC mt q ops ⟨d,.slice t x (some lo) (some hi) none,ty,pos,aft,gd⟩ ρ H K=cJ ops ρ gd fun G=>bK G (aev ρ x) fun x=>bK G (aev ρ lo) fun lo=>bK G (aev ρ hi) fun hi=>asl P G H t x (some lo) (some hi) (lL K ρ d G H):=(rfl)
theorem Ke{t x hi m}:aop P C PC mt q ops ⟨d,.slice t x none (some hi) (some m),ty,pos,aft,gd⟩ ρ H K=cJ ops ρ gd fun G=>bK G (aev ρ x) fun x=>bK G (aev ρ hi) fun hi=>bK G (aev ρ m) fun m=>BT P G t x hi m (lL K ρ d G H):=(rfl)
theorem JV{t x lo}:aop P C PC mt q ops ⟨d,.slice t x (some lo) none none,ty,pos,aft,gd⟩ ρ H K=cJ ops ρ gd fun G=>bK G (aev ρ x) fun x=>bK G (aev ρ lo) fun lo=>asl P G H t x (some lo) none (lL K ρ d G H):=(rfl)
theorem Kn{t x hi}:aop P C PC mt q ops ⟨d,.slice t x none (some hi) none,ty,pos,aft,gd⟩ ρ H K=cJ ops ρ gd fun G=>bK G (aev ρ x) fun x=>bK G (aev ρ hi) fun hi=>asl P G H t x none (some hi) (lL K ρ d G H):=(rfl)
theorem Eh{t x f}:aop P C PC mt q ops ⟨d,.fieldAddr t x f,ty,pos,aft,gd⟩ ρ H K=cJ ops ρ gd fun G=>bK G (aev ρ x) fun x=>jI P t f x (lL K ρ d G H):=(rfl)
theorem Qa{t x f}:aop P C PC mt q ops ⟨d,.field t x f,ty,pos,aft,gd⟩ ρ H K=cJ ops ρ gd fun G=>bD (aK P t f) fun e=>bK G (aev ρ x) fun x=>apart G e.1 e.2 x (lL K ρ d G H):=by
 show cJ ops ρ gd (fun G=>gM P G ρ H (.field t x f) (lL K ρ d G H))=_
 congr 1;funext G;cases h1:aK P t f <;> simp[gM,bD,h1]
theorem Ey{t x i}:aop P C PC mt q ops ⟨d,.indexAddr t x i,ty,pos,aft,gd⟩ ρ H K=cJ ops ρ gd fun G=>bK G (aev ρ x) fun x=>bK G (aev ρ i) fun i=>fO P G H t x i (lL K ρ d G H):=(rfl)
theorem QF{t x i}:aop P C PC mt q ops ⟨d,.index t x i,ty,pos,aft,gd⟩ ρ H K=cJ ops ρ gd fun G=>bK G (aev ρ x) fun x=>bK G (aev ρ i) fun i=>uD P G t x i (lL K ρ d G H):=(rfl)
theorem Iv{x i}:aop P C PC mt q ops ⟨d,.extract x i,ty,pos,aft,gd⟩ ρ H K=cJ ops ρ gd fun G=>bK G (aev ρ x) fun x=>Xq G x i (lL K ρ d G H):=(rfl)
theorem Mc{x}:aop P C PC mt q ops ⟨d,.assign x,ty,pos,aft,gd⟩ ρ H K=cJ ops ρ gd fun G=>if uB mt d=true∧G=none∧q=false∧qG x=true then bD (cG P ty) fun e=>nX H ⟨e.1,e.2.1,[]⟩ (Oo K ρ d)else bK G (aev ρ x) (lL K ρ d G H):=by
 show cJ ops ρ gd (fun G=>Aj P mt q G ⟨d,.assign x,ty,pos,aft,gd⟩ x ρ H K)=_
 congr 1;funext G
 unfold Aj;cases h1:cG P ty <;> rfl
theorem Qv{t}:aop P C PC mt q ops ⟨d,.alloc t,ty,pos,aft,gd⟩ ρ H K=cJ ops ρ gd fun G=>bD (eF P t) fun z=>G=none∧q=false∧(if uB mt d=true then bD (oU P t) fun nl=>jQ nl z H fun z H=>nX H ⟨t,z.length,[z]⟩ (OC K ρ d)else nX H ⟨t,z.length,[z]⟩ (OC K ρ d)):=by
 show cJ ops ρ gd (fun G=>match eF P t with
   | some z => G = none ∧ q = false ∧ (if uB mt d = true then match oU P t with
       | some nl=>jQ nl z H fun z H=>nX H ⟨t,z.length,[z]⟩ fun k H'=>K (upd ρ d (.op k 0 0)) H'
       | none=>False
     else nX H ⟨t,z.length,[z]⟩ fun k H'=>K (upd ρ d (.op k 0 0)) H')
   | none=>False)=_
 congr 1;funext G;cases h1:eF P t <;> cases h2:oU P t <;> rfl
theorem WZ{t x}: aop P C PC mt q ops ⟨d, .box t x, ty, pos, aft, gd⟩ ρ H K = cJ ops ρ gd fun G => G = none ∧ q = false ∧ bK G (aev ρ x) fun x => lV x fun cs =>
 if uB mt d=true then 0<cs.length∧nX H ⟨t,cs.length,[cs]⟩ (OC K ρ d)else K (upd ρ d (.rp cs 0)) H:=(rfl)
theorem D8{t n l}: aop P C PC mt q ops ⟨d, .buildSlice t n l, ty, pos, aft, gd⟩ ρ H K = cJ ops ρ gd fun G => q = false ∧ oB G ρ l.toList fun l => bD (cG P t) fun e =>
   (l.map (·.1)=HM 0 n∧dY e.2.1 (l.map (·.2))∧n*e.2.1≤16777216)∧(if uB mt d=true∧G=none then nX H ⟨e.1,e.2.1,l.map (·.2)⟩ (Oo K ρ d)else lL K ρ d G H (.sl (l.map (·.2)))):=by
 show cJ ops ρ gd (fun G=>q=false∧oB G ρ l.toList fun l'=>mS P mt G ⟨d,.buildSlice t n l,ty,pos,aft,gd⟩ t n l' ρ H K)=_
 congr 1;funext G;congr 2;funext l;unfold mS;cases h1:cG P t <;> rfl
theorem PZ{t x y}:aop P C PC mt q ops ⟨d,.store t x y,ty,pos,aft,gd⟩ ρ H K=cJ ops ρ gd fun G=>G=none∧q=false∧(if qG y=true then bK G (aev ρ x) fun x=>bD (cG P t) fun e=>nX H ⟨e.1,e.2.1,[]⟩ (fun j H=>QE P d t x [.os j] ρ H K)else bK G (aev ρ x) fun x=>bK G (aev ρ y) fun y=>lV y fun cs=>QE P d t x cs ρ H K):=by
 show cJ ops ρ gd (fun G => G = none ∧ q = false ∧ (if qG y = true then bK G (aev ρ x) fun a => match cG P t with
       | some (e,sz,_)=>nX H ⟨e,sz,[]⟩ fun k H=>rK P _ t a [.os k] ρ H K
       | none=>False
     else bK G (aev ρ x) fun a=>bK G (aev ρ y) fun x=>lV x fun cs=>rK P _ t a cs ρ H K))=_
 congr 1;funext G;congr 4;funext a
 cases h1:cG P t <;> rfl
theorem Sz:vN P C PC mt ops K [] ρ H=K ρ H:=(rfl)
theorem Zz{k f}:vN P C PC mt ops K ((k,true)::f) ρ H=bD ops[k]? fun o=>aop P C PC mt true ops o ρ (qH o H) fun ρ' _=>vN P C PC mt ops K f ρ' H:=by
 cases h:ops[k]? <;> simp[vN,bD,h]
theorem ZM{k f}:vN P C PC mt ops K ((k,false)::f) ρ H=bD ops[k]? fun o=>aop P C PC mt false ops o ρ H (vN P C PC mt ops K f):=by
 cases h:ops[k]? <;> simp[vN,bD,h]
theorem Qx{Hp}:oQ P C PC mt ops K Hp [] ρ H=K ρ H:=(rfl)
theorem V6{Hp k f}:oQ P C PC mt ops K Hp ((k,true)::f) ρ H=bD ops[k]? fun o=>aop P C PC mt true ops o ρ Hp fun ρ' _=>oQ P C PC mt ops K Hp f ρ' H:=by
 cases h:ops[k]? <;> simp[oQ,bD,h]
theorem Wa{Hp k f}:oQ P C PC mt ops K Hp ((k,false)::f) ρ H=bD ops[k]? fun o=>aop P C PC mt false ops o ρ H (oQ P C PC mt ops K Hp f):=by
 cases h:ops[k]? <;> simp[oQ,bD,h]
theorem Ze{k}:yH P C PC mt q ops k ρ H K=bD ops[k]? fun o=>aop P C PC mt q ops o ρ H K:=by
 cases h:ops[k]? <;> simp[yH,bD,h]
theorem Py{Hp}:mB P C PC mt ops K Hp .nil ρ H=K ρ H:=(rfl)
theorem WQ{Hp k t}:mB P C PC mt ops K Hp (.q k t) ρ H=yH P C PC mt true ops k ρ Hp fun ρ' _=>mB P C PC mt ops K Hp t ρ' H:=(rfl)
theorem WY{Hp k t}:mB P C PC mt ops K Hp (.a1 k t) ρ H=yH P C PC mt false ops k ρ H (mB P C PC mt ops K Hp t):=(rfl)
theorem lA{Hp k t k' t'}(h:yH P C PC mt false ops k ρ H (mB P C PC mt ops K Hp t))(h':yH P C PC mt false ops k' ρ H (mB P C PC mt ops K Hp t')):mB P C PC mt ops K Hp (.a2 k t k' t') ρ H:=⟨h,h'⟩
theorem GO{f cap}:aop P C PC mt q ops ⟨d,.makeFunc (.func f) #[] cap,ty,pos,aft,gd⟩ ρ H K=cJ ops ρ gd fun G=>xV G ρ cap.toList fun l=>lL K ρ d G H (.fn f l):=by
 show cJ ops ρ gd (fun G=>gM P G ρ H (.makeFunc (.func f) #[] cap) (lL K ρ d G H))=_
 congr 1;funext G;simp[gM]
def Yh(K:Env→aE→Prop)(ρ:Env)(d:Option Tmp)(j:Nat)(H:aE):Prop:=K (upd ρ d (.om j)) H
theorem Ja{j}:Yh K ρ d j H=K (upd ρ d (.om j)) H:=(rfl)
theorem Nf{t x i ok}:aop P C PC mt q ops ⟨d,.lookup t x i ok,ty,pos,aft,gd⟩ ρ H K=cJ ops ρ gd fun G=>bK G (aev ρ x) fun x=>bK G (aev ρ i) fun i=>xG P H t x i ok (lL K ρ d G H):=(rfl)
theorem JQ{t}:aop P C PC mt q ops ⟨d,.makeMap t none,ty,pos,aft,gd⟩ ρ H K=cJ ops ρ gd fun G=>G=none∧q=false∧nX H ⟨0,2,[]⟩ (Yh K ρ d):=(rfl)
def O7(P:Program)(d:Option Tmp)(t:TypeId)(m x v:AV)(ρ:Env)(H:aE)(K:Env→aE→Prop):Prop:=mK P ⟨d,.move (.tmp 0),0,"",#[],none⟩ t m x v ρ H K
@[congr] theorem wmapU_c {P d t m m' x x' v v' ρ H K} (h0:m=m') (h1:x=x') (h2:v=v'):O7 P d t m x v ρ H K=O7 P d t m' x' v' ρ H K:=h0▸h1▸h2▸rfl
def SK(P:Program)(d:Option Tmp)(t:TypeId)(m x:AV)(ρ:Env)(H:aE)(K:Env→aE→Prop):Prop:=xH P ⟨d,.move (.tmp 0),0,"",#[],none⟩ t m x ρ H K
@[congr] theorem wmapE_c {P d t m m' x x' ρ H K} (h0:m=m') (h1:x=x'):SK P d t m x ρ H K=SK P d t m' x' ρ H K:=h0▸h1▸rfl
def Tg(d:Option Tmp)(m s v:AV)(ρ:Env)(H:aE)(K:Env→aE→Prop):Prop:=rE ⟨d,.move (.tmp 0),0,"",#[],none⟩ m s v ρ H K
@[congr] theorem wmapS_c {d m m' x x' v v' ρ H K} (h0:m=m') (h1:x=x') (h2:v=v'):Tg d m x v ρ H K=Tg d m' x' v' ρ H K:=h0▸h1▸h2▸rfl
@[congr] theorem alookup_c {P H t x x' i i' ok k} (h0:x=x') (h1:i=i'):xG P H t x i ok k=xG P H t x' i' ok k:=h0▸h1▸rfl
theorem Eu{t m x v}:aop P C PC mt q ops ⟨d,.mapUpdate t m x v,ty,pos,aft,gd⟩ ρ H K=cJ ops ρ gd fun G=>G=none∧q=false∧bK G (aev ρ m) fun m=>bK G (aev ρ x) fun x=>bK G (aev ρ v) fun v=>O7 P d t m x v ρ H K:=(rfl)
theorem LI{t m x v}:aop P C PC mt q ops ⟨d,.insert t m x v,ty,pos,aft,gd⟩ ρ H K=cJ ops ρ gd fun G=>G=none∧q=false∧bK G (aev ρ m) fun m=>bK G (aev ρ x) fun x=>bK G (aev ρ v) fun v=>O7 P d t m x v ρ H K:=(rfl)
theorem Iq{t m x}:aop P C PC mt q ops ⟨d,.mapEntry t m x,ty,pos,aft,gd⟩ ρ H K=cJ ops ρ gd fun G=>G=none∧q=false∧bK G (aev ρ m) fun m=>bK G (aev ρ x) fun x=>SK P d t m x ρ H K:=(rfl)
theorem Ee{t m s v}:aop P C PC mt q ops ⟨d,.entryStore t m s v,ty,pos,aft,gd⟩ ρ H K=cJ ops ρ gd fun G=>G=none∧q=false∧bK G (aev ρ m) fun m=>bK G (aev ρ s) fun s=>bK G (aev ρ v) fun v=>Tg d m s v ρ H K:=(rfl)
theorem Ew{t l c}:aop P C PC mt q ops ⟨d,.makeSlice t l c,ty,pos,aft,gd⟩ ρ H K=cJ ops ρ gd fun G=>G=none∧q=false∧bK G (aev ρ l) fun l=>bK G (aev ρ c) fun c=>Kp P d t l c ρ H K:=(rfl)
theorem QM{t args tys}: aop P C PC mt q ops ⟨d, .call ⟨.value (.tmp t), args, tys⟩, ty, pos, aft, gd⟩ ρ H K = cJ ops ρ gd fun G => bK G (ρ t) fun x => bD (KU x) fun y => xV G ρ args.toList fun l =>
   aD P y.1=true∧(if G=none∧q=false then C y.1 (y.2.1++l++y.2.2) H (TX K ρ d)else ∃r,(gt G→PC y.1 (y.2.1++l++y.2.2) H r)∧nfq q r (lL K ρ d G H)):=by
 show cJ ops ρ gd (fun G=>Ae P C PC q G ⟨d,.call ⟨.value (.tmp t),args,tys⟩,ty,pos,aft,gd⟩ ⟨.value (.tmp t),args,tys⟩ ρ H K)=_
 congr 1;funext G
 simp only[Ae,aev]
 congr 1;funext x
 cases h:KU x with
 | none=>simp[bD]
 | some y=>obtain⟨a,b,c⟩:=y;rfl
theorem RD{f args tys}: aop P C PC mt q ops ⟨d, .call ⟨.value (.func f), args, tys⟩, ty, pos, aft, gd⟩ ρ H K = cJ ops ρ gd fun G => xV G ρ args.toList fun l =>
   aD P f=true∧(if G=none∧q=false then C f l H (TX K ρ d)else ∃r,(gt G→PC f l H r)∧nfq q r (lL K ρ d G H)):=by
 show cJ ops ρ gd (fun G=>Ae P C PC q G ⟨d,.call ⟨.value (.func f),args,tys⟩,ty,pos,aft,gd⟩ ⟨.value (.func f),args,tys⟩ ρ H K)=_
 congr 1;funext G
 simp only[Ae,aev,bK,KU,List.map_nil,List.nil_append,List.append_nil];rfl
theorem VB{x t}:aop P C PC mt q ops ⟨d,.call ⟨.builtin .len,#[x],#[t]⟩,ty,pos,aft,gd⟩ ρ H K=cJ ops ρ gd fun G=>bK G (aev ρ x) fun x=>EH P H t x (lL K ρ d G H):=(rfl)
theorem WI{x y t t'}:aop P C PC mt q ops ⟨d,.call ⟨.builtin .max,#[x,y],#[t,t']⟩,ty,pos,aft,gd⟩ ρ H K=cJ ops ρ gd fun G=>bK G (aev ρ x) fun x=>bK G (aev ρ y) fun y=>Nd x y (lL K ρ d G H):=(rfl)
theorem Vr{x y t t'}:aop P C PC mt q ops ⟨d,.call ⟨.builtin .min,#[x,y],#[t,t']⟩,ty,pos,aft,gd⟩ ρ H K=cJ ops ρ gd fun G=>bK G (aev ρ x) fun x=>bK G (aev ρ y) fun y=>LH x y (lL K ρ d G H):=(rfl)
theorem SH{n m a b}{k:AV→Prop}:Nd (.v (.int n a)) (.v (.int m b)) k=k (.v (.int n (kX a b))):=(rfl)
theorem Ro{n m a b}{k:AV→Prop}:LH (.v (.int n a)) (.v (.int m b)) k=k (.v (.int n (rN a b))):=(rfl)
theorem SV{x y t t'}: aop P C PC mt q ops ⟨d, .call ⟨.builtin .copy, #[x, y], #[t, t']⟩, ty, pos, aft, gd⟩ ρ H K = cJ ops ρ gd fun G => bK G (aev ρ x) fun x => bK G (aev ρ y) fun y =>
 if G=none∧q=false then Rr P d t x y ρ H K else False:=(rfl)
theorem PA{x t}: aop P C PC mt q ops ⟨d, .call ⟨.builtin .clear, #[x], #[t]⟩, ty, pos, aft, gd⟩ ρ H K = cJ ops ρ gd fun G => bK G (aev ρ x) fun x =>
 if G=none∧q=false then CP P d t x ρ H K else False:=(rfl)
theorem Uu{G:Option Bool}{k:AV→Prop}{t es lo hi}:asl P G H t (.sl es) lo hi k=lT P G t (.sl es) lo hi k:=(rfl)
theorem Yb{G:Option Bool}{k:AV→Prop}{t v lo hi}:asl P G H t (.v v) lo hi k=lT P G t (.v v) lo hi k:=(rfl)
theorem RF{G:Option Bool}{k:AV→Prop}{t j n a m b}:asl P G H t (.os j) (some (.v (.int n a))) (some (.v (.int m b))) k=bD (H j) fun r=>bD (cG P t) fun e=>(gt G→(0≤a∧a≤b∧b≤r.es.length)∧r.sz=e.2.1)∧k (.oz j a.toNat b.toNat):=by
 cases h1:H j <;> cases h2:cG P t <;> simp[asl,bD,h1,h2]
theorem X8{G:Option Bool}{k:AV→Prop}{t j n a}:asl P G H t (.os j) (some (.v (.int n a))) none k=bD (H j) fun r=>bD (cG P t) fun e=>(gt G→(0≤a∧a≤r.es.length)∧r.sz=e.2.1)∧k (.oz j a.toNat r.es.length):=by
 cases h1:H j <;> cases h2:cG P t <;> simp[asl,bD,h1,h2]
theorem Yk{G:Option Bool}{k:AV→Prop}{t j m b}:asl P G H t (.os j) none (some (.v (.int m b))) k=bD (H j) fun r=>bD (cG P t) fun e=>(gt G→(0≤b∧b≤r.es.length)∧r.sz=e.2.1)∧k (.oz j 0 b.toNat):=by
 cases h1:H j <;> cases h2:cG P t <;> simp[asl,bD,h1,h2]
theorem Kx{k:AV→Prop}{es}:pC .eql (.sl es) k=((es=[]→k (.v (.bool true)))∧k (.v (.bool false))):=(rfl)
theorem Jt{k:AV→Prop}{es}:pC .neq (.sl es) k=((es=[]→k (.v (.bool false)))∧k (.v (.bool true))):=(rfl)
theorem EJ{k:AV→Prop}{j}:pC .eql (.os j) k=(k (.v (.bool true))∧k (.v (.bool false))):=(rfl)
theorem FB{k:AV→Prop}:pC .eql (.v (.slice none 0 0)) k=k (.v (.bool true)):=(rfl)
theorem FS{k:AV→Prop}:pC .neq (.v (.slice none 0 0)) k=k (.v (.bool false)):=(rfl)
theorem Fh{k:AV→Prop}{j}:pC .neq (.os j) k=(k (.v (.bool false))∧k (.v (.bool true))):=(rfl)
theorem Mo{s x t t'}: aop P C PC mt q ops ⟨d, .call ⟨.builtin .append, #[s, x], #[t, t']⟩, ty, pos, aft, gd⟩ ρ H K = cJ ops ρ gd fun G => bK G (aev ρ s) fun s => bK G (aev ρ x) fun x =>
 if t=t'∧G=none∧q=false then Tk P d t s x ρ H K else False:=(rfl)
end
section
variable{P:Program}{d:Option Tmp}{ρ:Env}{H:aE}{K:Env→aE→Prop}
theorem OF{t n a m b}:Kp P d t (.v (.int n a)) (.v (.int m b)) ρ H K=bD (cG P t) fun e=>bD (eF P e.1) fun z=>((0≤a∧a≤b)∧(e.2.2:Int)*b≤140737488355328)∧nX H ⟨e.1,e.2.1,List.replicate a.toNat z⟩ (Oo K ρ d):=by
 unfold Kp qM;cases h1:cG P t with
 | none=>simp[bD]
 | some e=>obtain⟨x,y,z⟩:=e;cases h2:eF P x <;> simp[bD,h2] <;> intros <;> rfl
theorem YV{f first captured}:KU (.v (.func (.func f) first captured))=some (f,first.toList.map .v,captured.toList.map .v):=(rfl)
theorem Ya{q x}{k:AV→Prop}:nfq q (.v x) k=k (.v x):=by cases q <;> rfl
theorem O8{q x}{k:AV→Prop}:nfq q (.agg x) k=k (.agg x):=by cases q <;> rfl
theorem O5{q x}{k:AV→Prop}:nfq q (.tup x) k=k (.tup x):=by cases q <;> rfl
theorem S9{x}{k:AV→Prop}:nfq false (.nf x) k=k x:=(rfl)
theorem Vx{f l}:KU (.fn f l)=some (f,[],l):=(rfl)
end
attribute [go_sem ↓] Gm Gf Fp CN
attribute [go_sem] Gm Gf Fp CN
@[congr] theorem asl_c {P G H t x x' lo lo' hi hi' k} (h:x=x') (h1:lo=lo') (h2:hi=hi'):asl P G H t x lo hi k=asl P G H t x' lo' hi' k:=h▸h1▸h2▸rfl
@[congr] theorem aeqNil_c {op x x' k} (h:x=x'):pC op x k=pC op x' k:=h▸rfl
theorem GP{α:Type}{a:α}{l r:List α}:List.append (a::l) r=a::List.append l r:=(rfl)
theorem J2{α:Type}{r:List α}:List.append [] r=r:=(rfl)
attribute [go_sem] GP J2
attribute [go_sem] qH
@[congr] theorem amax_c {x x' y y' K} (h:x=x') (h':y=y'):Nd x y K=Nd x' y' K:=h▸h'▸rfl
@[congr] theorem amin_c {x x' y y' K} (h:x=x') (h':y=y'):LH x y K=LH x' y' K:=h▸h'▸rfl
attribute [go_sem ↓] WI Vr SH Ro
attribute [go_sem] SH Ro
@[congr] theorem pinEnd_c {l l' H K ρ H'} (h:l=l'):lD l H K ρ H'=lD l' H K ρ H':=h▸rfl
attribute [go_sem] Fj List.set_cons_zero List.set_cons_succ
attribute [go_sem ↓] Py WQ WY Ze
attribute [go_sem ↓] Qx V6 Wa
attribute [go_sem ↓] Sz Zz ZM SV PA Uu Yb RF X8 Yk Kx Jt EJ Fh FB FS
attribute [go_sem] Uu Yb RF X8 Yk Kx Jt EJ Fh FB FS
attribute [go_sem ↓] Ya O8 O5 S9
attribute [go_sem ↓] Nf JQ Eu LI Iq Ee On Ja
attribute [go_sem] On Ja
attribute [go_sem] Ya O8 O5 S9
attribute [go_sem ↓] GO Ew QM OF Lq Js IJ N8 Jh BM NG O6 Oc Jd Ke
attribute [go_sem] OF Lq Js IJ N8 Jh BM NG O6 Oc Jd YV Vx
attribute [go_sem] O1 Yc
@[congr] theorem ownNils_c {l l' z z' H K} (h:l=l') (h':z=z'):jQ l z H K=jQ l' z' H K:=h▸h'▸rfl
theorem Jw{z H K}:jQ [] z H K=K z H:=(rfl)
theorem GJ{o e sz r z H K}:jQ ((o,e,sz)::r) z H K=nX H ⟨e,sz,[]⟩ fun k H'=>jQ r (z.set o (.os k)) H' K:=(rfl)
attribute [go_sem ↓] Jw GJ
attribute [go_sem ↓] TN Dm KO OO KK F9 EX QI Ki UI VR RT Qw Lz Tc VW MQ ON KE QL
attribute [go_sem ↓] xV oB Th TW PP RY In X4 Zb Sn Ht JV Kn Eh Qa Ey QF Iv Mc Qv WZ D8 PZ RD VB Mo
attribute [go_sem ↓] NQ ND NJ Oz JM JP Iw Jf Ln JD KQ I5 Lp Ju KP EO Fb F3 ES Gj Fi FT IW KI I9 N4 OJ FQ Fq Fk FV O2 NX OD Oh N3 xX xS xP xT xZ xW NR Ot F5 Fm Ld FM JW Ix DW FZ Gu Gw F4 Cx K6 FX FO F0 FI E6 Yl Yo BZ BQ UT IF N7 Ox Kr Lh N9 OG OP Ed Gc FA JI KJ Kb NO Gz Kh
attribute [go_sem] NQ ND NJ Oz JM JP Iw Jf Ln JD KQ I5 Lp Ju KP EO Fb F3 ES Gj Fi FT IW KI I9 N4 OJ FQ Fq Fk FV O2 NX OD Oh N3 xX xS xP xT xZ xW NR Ot F5 Fm Ld FM JW Ix DW FZ Gu Gw F4 Cx K6 FX FO F0 FI E6 Yl Yo BZ BQ UT IF N7 Ox Kr Lh N9 OG OP Ed Gc FA JI KJ Kb NO Gz Kh
attribute [go_sem] ZN SZ uB qG oP Hx gt gok wr wH gV Lc Value.oneCell' HM dY oZ Option.map_some pE nC aA
attribute [go_sem] Bool.false_eq_true if_false if_true reduceCtorEq true_and and_true false_and and_false false_implies true_implies implies_true forall_const and_self imp_self ne_eq not_true_eq_false not_false_eq_true
attribute [go_sem] List.getD_cons_zero List.getD_cons_succ List.getD_nil List.length_cons List.length_nil List.drop_zero List.drop_succ_cons List.take_succ_cons List.take_zero Option.getD_some Option.getD_none Nat.zero_add Nat.add_zero List.map_cons List.map_nil List.cons_append List.nil_append List.append_nil
attribute [go_sem] Option.bind_some List.getElem?_toArray List.getElem?_cons_zero List.getElem?_cons_succ
attribute [go_sem ↓] reduceIte
attribute [go_sem] Nat.reduceEqDiff Nat.reduceAdd Nat.reduceMul Nat.reduceSub Nat.reduceLT Nat.reduceLeDiff Nat.reduceBEq
end Go.Aw
