import Derived.StillTail
import Derived.WalkKit
import Derived.Deep.Quiet
import Derived.Deep.QuietTactic
import Derived.Maps.AppendAt
import Derived.Laws.BytesArg
set_option linter.unusedSimpArgs false
set_option linter.unusedVariables false
set_option maxRecDepth 100000
namespace Go.Aw
open Go.RowKit
inductive AV where
 | v (x:Value)
 | any
 | sl (es:List (List AV))
 | rp (cs:List AV) (off:Nat)
 | agg (cs:List AV)
 | tup (vs:List AV)
 | os (k:Nat)
 | op (k i f:Nat)
 | gd (g:Bool) (x:AV)
 | fn (f:FuncId) (cap:List AV)
 | oz (k a b:Nat)
 | nf (x:AV)
 | om (k:Nat)
 | cl (es:List (List AV))
 deriving Inhabited
structure Row where
 e:TypeId
 sz:Nat
 es:List (List AV)
abbrev Env:=Nat->AV
abbrev aJ:=Nat->Option Row
inductive Ex where
 | normal
 | exit (id:Nat)
 | ret
def upd(ρ:Env)(d:Option Nat)(x:AV):Env:=
 match d with
 | some d=>fun t=>if t=d then x else ρ t
 | none=>ρ
def aI(H:aJ)(k:Nat)(r:Option Row):aJ:=fun j=>if j=k then r else H j
theorem anG(ρ:Env)(d:Nat)(x:AV)(t:Nat):upd ρ (some d) x t=if t=d then x else ρ t:=rfl
theorem YX(ρ:Env)(x:AV):upd ρ none x=ρ:=rfl
theorem aA(H:aJ)(k:Nat)(r:Option Row):aI H k r k=r:=by simp[aI]
theorem aD(H:aJ)(k:Nat)(r:Option Row)(j:Nat)(h:j≠k):aI H k r j=H j:=by simp[aI,h]
def ldT(P:Program)(t:TypeId):Option (Option Nat):=
 match P.underlying t,P.info? t with
 | some (.struct _),some i=>some (some i.size)
 | some (.array _ _),some i=>some (some i.size)
 | some _,some _=>some none
 | _,_=>none
def aP(P:Program)(t:TypeId)(f:Nat):Option (Nat×Option Nat):=
 match P.underlying t with
 | some (.struct fs)=>match fs[f]? with
   | some fd=>match P.info? fd.type with
     | some i=>if i.size=0 then none else(ldT P fd.type).map fun l=>(fd.offset,l)
     | none=>none
   | none=>none
 | _=>none
def bY(P:Program)(t:TypeId):Option (TypeId×Nat×Nat):=
 match P.underlying t with
 | some (.slice e)=>match P.info? e with
   | some i=>if i.size=0\/i.bytes=0\/i.zero.map (·.cells.size)≠some i.size then none else some (e,i.size,i.bytes)
   | none=>none
 | _=>none
def uP(P:Program)(t:TypeId):Option (Nat×Nat×Option Nat):=
 match P.underlying t with
 | some (.array n e)=>match P.info? e with
   | some i=>if i.size=0 then none else(ldT P e).map fun l=>(n,i.size,l)
   | none=>none
 | _=>none
def qV:Value->AV
 | .slice none 0 0=>.sl []
 | x=>.v x
def dR(P:Program)(t:TypeId):Option (List AV):=
 match P.info? t with
 | some i=>match i.zero with
   | some z=>if z.cells.size=i.size/\i.size≠0/\z.cells.toList.all (·.oneCell')=true then some (z.cells.toList.map qV)else none
   | none=>none
 | none=>none
def Ki(P:Program):Nat->TypeId->Nat->List (Nat×TypeId×Nat)
 | 0,_,_=>[]
 | n+1,t,o=>match P.underlying t with
   | some (.slice _)=>match bY P t with
     | some (e,sz,_)=>[(o,e,sz)]
     | none=>[]
   | some (.struct fs)=>fs.toList.flatMap fun f=>Ki P n f.type (o+f.offset)
   | some (.array m e)=>(List.range m).flatMap fun j=>Ki P n e (o+j*((P.info? e).map (·.size)).getD 0)
   | _=>[]
def Z7:Option Value->Bool
 | some (.slice none 0 0)=>true
 | _=>false
def qG(P:Program)(t:TypeId):Option (List (Nat×TypeId×Nat)):=
 match P.info? t with
 | some i=>match i.zero with
   | some z=>if(Ki P 8 t 0).all (fun x=>Z7 z.cells.toList[x.1]?&&decide (0<x.2.2))=true then some (Ki P 8 t 0)else none
   | none=>none
 | none=>none
def eJ(P:Program)(t:TypeId):Option (List (Nat×Nat)):=
 match P.underlying t with
 | some (.struct fs)=>fs.toList.mapM fun f=>(P.info? f.type).map fun i=>(f.offset,i.size)
 | some (.array n e)=>(P.info? e).map fun i=>(List.range n).map fun j=>(j*i.size,i.size)
 | _=>none
def eI(P:Program)(t:TypeId):Bool:=match P.underlying t with|some .string=>true|_=>false
def cT(P:Program)(t:TypeId):Bool:=match P.underlying t with|some (.slice _)=>true|_=>false
def Aj(P:Program)(t:TypeId):Bool:=match P.underlying t with|some .bool=>true|_=>false
def aev(ρ:Env):Operand->AV
 | .tmp t=>ρ t
 | .const v=>qV v
 | .global _=>.any
 | .func f=>.v (.func (.func f) #[] #[])
def KI(ρ:Env):Operand->AV
 | .const v=>.v v
 | x=>aev ρ x
def gt:Option Bool->Prop
 | none=>True
 | some b=>b=true
def gok:Option Bool->Bool->Prop
 | none,g=>g=true
 | some b,g=>b=true->g=true
def wr:Option Bool->AV->AV
 | none,x=>x
 | some b,x=>.gd b x
def bR(G:Option Bool)(x:AV)(k:AV->Prop):Prop:=
 match x with
 | .gd g y=>gok G g/\k y
 | x=>k x
def mV(x:AV)(K:List AV->Prop):Prop:=
 match x with
 | .agg cs=>K cs
 | .v y=>y.oneCell'=true/\K [.v y]
 | .sl es=>K [.sl es]
 | .rp cs o=>K [.rp cs o]
 | .os k=>K [.os k]
 | .op k i f=>K [.op k i f]
 | _=>False
def tY(P:Program)(t:TypeId):Option Nat:=match P.underlying t with|some (.int _)=>some 0|some .string=>some 1|some .bool=>some 2|_=>none
def xK(c:Nat)(x y:AV):Option Bool:=
 match c,x,y with
 | 0,.v (.int k a),.v (.int k' b)=>if k=k' then some (a == b)else none
 | 1,.v (.string a),.v (.string b)=>some (a.toList == b.toList)
 | 2,.v (.bool a),.v (.bool b)=>some (a == b)
 | _,_,_=>none
def O6:Option Bool->Option Bool->Option Bool
 | some a,some b=>some (a&&b)
 | _,_=>none
def iH:List Nat->List AV->List AV->Option Bool
 | [],[],[]=>some true
 | c::l,x::r,y::s=>O6 (xK c x y) (iH l r s)
 | _,_,_=>none
def pM(P:Program):Nat->List Field->Option (List Nat)
 | _,[]=>some []
 | o,f::r=>if f.name != "_" && f.offset == o&&(P.info? f.type).isSome then match tY P f.type,pM P (o+1) r with
   | some c,some l=>some (c::l)
   | _,_=>none
   else none
def xP(P:Program)(t:TypeId):Option (List Nat):=
 match P.underlying t with
 | some (.struct fs)=>if P.stoodInHeld t=false/\P.eqGuardType P.depth t=false then pM P 0 fs.toList else none
 | some (.array n e)=>if(P.info? e).map (·.size)=some 1/\P.eqGuardType P.depth t=false then(tY P e).map (List.replicate n)else none
 | _=>none
def wH:BinOp->Bool
 | .shl=>true
 | .shr=>true
 | _=>false
def shV(op:BinOp)(k:IntKind)(a b:Int):Int:=match op with
 | .shl=>k.wrap (a*2^min b.toNat k.bits)
 | _=>a.fdiv (2^min b.toNat k.bits)
def pX(op:BinOp)(k:IntKind)(a b:Int):Int:=match op with
 | .and=>k.wrap ((BitVec.ofInt k.bits a &&& BitVec.ofInt k.bits b).toNat:Nat)
 | .or=>k.wrap ((BitVec.ofInt k.bits a ||| BitVec.ofInt k.bits b).toNat:Nat)
 | .xor=>k.wrap ((BitVec.ofInt k.bits a ^^^ BitVec.ofInt k.bits b).toNat:Nat)
 | _=>k.wrap ((BitVec.ofInt k.bits a &&& ~~~(BitVec.ofInt k.bits b)).toNat:Nat)
def gV(P:Program)(G:Option Bool)(op:BinOp)(t:TypeId)(x y:AV)(K:AV->Prop):Prop:=
 match x,y with
 | .v (.int k a),.v (.int k' b)=>
   if wH op=true then(gt G->0<=b)/\K (.v (.int k (shV op k a b)))
   else if k=k' then
     match op with
     | .and=>K (.v (.int k (pX .and k a b)))
     | .or=>K (.v (.int k (pX .or k a b)))
     | .xor=>K (.v (.int k (pX .xor k a b)))
     | .andNot=>K (.v (.int k (pX .andNot k a b)))
     | .add=>K (.v (.int k (k.wrap (a+b))))
     | .sub=>K (.v (.int k (k.wrap (a-b))))
     | .mul=>K (.v (.int k (k.wrap (a*b))))
     | .quo=>(gt G->b≠0)/\K (.v (.int k (k.wrap (a.tdiv b))))
     | .rem=>(gt G->b≠0)/\K (.v (.int k (a.tmod b)))
     | .eql=>K (.v (.bool (a == b)))
     | .neq=>K (.v (.bool (a != b)))
     | .lss=>K (.v (.bool (decide (a<b))))
     | .leq=>K (.v (.bool (decide (a<=b))))
     | .gtr=>K (.v (.bool (decide (a>b))))
     | .geq=>K (.v (.bool (decide (a>=b))))
     | _=>False
   else False
 | .v (.string a),.v (.string b)=>
   match op with
   | .add=>(gt G->((a.size+b.size:Nat):Int)<=IntKind.i64.max)/\K (.v (.string (a++b)))
   | .eql=>K (.v (.bool (a.toList == b.toList)))
   | .neq=>K (.v (.bool !(a.toList == b.toList)))
   | .lss=>K (.v (.bool (Op.bytesLess a.toList b.toList)))
   | _=>False
 | .v (.bool a),.v (.bool b)=>
   if Aj P t then
     match op with
     | .eql=>K (.v (.bool (a == b)))
     | .neq=>K (.v (.bool !(a == b)))
     | _=>False
   else False
 | .agg xs,.agg ys=>match xP P t with
   | some l=>match iH l xs ys with
     | some b=>match op with
       | .eql=>K (.v (.bool b))
       | .neq=>K (.v (.bool !b))
       | _=>False
     | none=>False
   | none=>False
 | _,_=>(gt G->False)/\K .any
def Rz(P:Program)(t:TypeId):Option (TypeId×TypeId):=match P.underlying t with|some (.map k e)=>some (k,e)|_=>none
def Ji(P:Program)(t:TypeId):Option AV:=
 match P.info? t with
 | some i=>match i.zero with
   | some (.agg cs)=>if cs.toList.all (·.oneCell')=true then some (.agg (cs.toList.map qV))else none
   | some v=>if v.oneCell'=true then some (qV v)else none
   | none=>none
 | none=>none
def xL(P:Program)(kt:TypeId)(x y:AV):Option Bool:=
 match x,y with
 | .v a,.v b=>match tY P kt with
   | some c=>xK c (.v a) (.v b)
   | none=>none
 | _,_=>none
def qU(P:Program)(kt:TypeId):AV->Bool
 | .v (.int _ _)=>tY P kt == some 0
 | .v (.string _)=>tY P kt == some 1
 | .v (.bool _)=>tY P kt == some 2
 | _=>false
def zU(eq:AV->Option Bool):List (List AV)->Nat->Option (Option Nat)
 | [],_=>some none
 | e::r,i=>match eq (e.getD 0 .any)with
   | some true=>some (some i)
   | some false=>zU eq r (i+1)
   | none=>none
def KA(ok:Bool)(z:AV)(es:List (List AV))(oi:Option Nat):AV:=
 match oi with
 | some i=>if ok=true then .tup [(es.getD i []).getD 1 .any,.v (.bool true)]else(es.getD i []).getD 1 .any
 | none=>if ok=true then .tup [z,.v (.bool false)]else z
def aeI(es:List (List AV))(oi:Option Nat)(k v:AV):List (List AV):=
 match oi with
 | some i=>es.set i [k,v]
 | none=>es++[[k,v]]
def DB(P:Program)(H:aJ)(t:TypeId)(x key:AV)(K:Nat->Row->TypeId×TypeId->Option Nat->Prop):Prop:=
 match x with
 | .om j=>match H j,Rz P t with
   | some r,some kt=>match zU (xL P kt.1 key) r.es 0 with
     | some oi=>qU P kt.1 key=true/\K j r kt oi
     | none=>False
   | _,_=>False
 | _=>False
def tI(P:Program)(H:aJ)(t:TypeId)(x key:AV)(ok:Bool)(K:AV->Prop):Prop:=
 DB P H t x key fun _ r kt oi=>match Ji P kt.2 with
   | some z=>K (KA ok z r.es oi)
   | none=>False
def vK(c:Bool):AV->AV->AV
 | .v (.bool true),.v (.bool b)=>.v (.bool (c||b))
 | .v (.bool a),.v (.bool false)=>.v (.bool (c&&a))
 | .v (.bool a),.v (.bool b)=>.v (.bool (bif c then a else b))
 | x,y=>bif c then x else y
def Az(G:Option Bool)(c:Bool)(x y:AV)(K:AV->Prop):Prop:=
 match x,y with
 | .gd g x,.gd g' y=>(gt G->c=true->g=true)/\(gt G->c=false->g'=true)/\K (vK c x y)
 | .gd g x,y=>(gt G->c=true->g=true)/\K (vK c x y)
 | x,.gd g' y=>(gt G->c=false->g'=true)/\K (vK c x y)
 | x,y=>K (vK c x y)
def oJ(G:Option Bool)(H:aJ)(l:Option Nat)(x:AV)(K:AV->Prop):Prop:=
 match x with
 | .rp cs off=>match l with
   | none=>(gt G->off<cs.length)/\K (cs.getD off .any)
   | some n=>(gt G->off+n<=cs.length)/\K (.agg ((cs.drop off).take n))
 | .op k i f=>match H k with
   | some r=>match l with
     | none=>(gt G->i<r.es.length/\f<r.sz)/\K ((r.es.getD i []).getD f .any)
     | some n=>(gt G->i<r.es.length/\f+n<=r.sz)/\K (.agg (((r.es.getD i []).drop f).take n))
   | none=>False
 | _=>False
def apart(G:Option Bool)(off:Nat)(l:Option Nat)(x:AV)(K:AV->Prop):Prop:=
 match x with
 | .agg cs=>match l with
   | none=>(gt G->off<cs.length)/\K (cs.getD off .any)
   | some n=>(gt G->off+n<=cs.length)/\K (.agg ((cs.drop off).take n))
 | _=>False
def G7(P:Program)(H:aJ)(t:TypeId)(x:AV)(K:AV->Prop):Prop:=
 match x with
 | .sl es=>if cT P t then K (.v (.int .i64 es.length))else False
 | .os k=>match H k with
   | some r=>if cT P t then K (.v (.int .i64 r.es.length))else False
   | none=>False
 | .v (.string s)=>if eI P t then K (.v (.int .i64 s.size))else False
 | _=>False
def gA(a b:Int):Int:=if b>a then b else a
def wF(a b:Int):Int:=if b<a then b else a
def PL(x y:AV)(K:AV->Prop):Prop:=
 match x,y with
 | .v (.int k a),.v (.int _ b)=>K (.v (.int k (gA a b)))
 | _,_=>False
def P9(x y:AV)(K:AV->Prop):Prop:=
 match x,y with
 | .v (.int k a),.v (.int _ b)=>K (.v (.int k (wF a b)))
 | _,_=>False
def gE(P:Program)(G:Option Bool)(H:aJ)(t:TypeId)(x i:AV)(K:AV->Prop):Prop:=
 match x,i with
 | .sl es,.v (.int _ n)=>match bY P t with
   | some (_,sz,_)=>(gt G->(0<=n/\n<es.length)/\(es.getD n.toNat []).length=sz)/\K (.rp (es.getD n.toNat []) 0)
   | none=>False
 | .os k,.v (.int _ n)=>match H k,bY P t with
   | some r,some (_,sz,_)=>(gt G->(0<=n/\n<r.es.length)/\r.sz=sz)/\K (.op k n.toNat 0)
   | _,_=>False
 | .rp cs off,.v (.int _ n)=>match uP P t with
   | some (m,s,_)=>(gt G->0<=n/\n<m)/\K (.rp cs (off+n.toNat*s))
   | none=>False
 | .op k j f,.v (.int _ n)=>match uP P t with
   | some (m,s,_)=>(gt G->0<=n/\n<m)/\K (.op k j (f+n.toNat*s))
   | none=>False
 | _,_=>False
def kE(P:Program)(t:TypeId)(f:Nat)(x:AV)(K:AV->Prop):Prop:=
 match x with
 | .rp cs off=>match aP P t f with
   | some (o,_)=>K (.rp cs (off+o))
   | none=>False
 | .op k i g=>match aP P t f with
   | some (o,_)=>K (.op k i (g+o))
   | none=>False
 | _=>False
def rJ(places:List (Nat×Nat)):List AV->List (Nat×List AV)->Option (List AV)
 | cs,[]=>some cs
 | cs,(i,x)::rest=>match places[i]? with
   | some (off,n)=>if x.length=n/\off+n<=cs.length then rJ places (cs.take off++x++cs.drop (off+n)) rest else none
   | none=>none
def pZ(G:Option Bool)(ρ:Env):List (Nat×Operand)->(List (Nat×List AV)->Prop)->Prop
 | [],K=>K []
 | (i,x)::rest,K=>bR G (aev ρ x) fun y=>mV y fun cs=>pZ G ρ rest fun l=>K ((i,cs)::l)
def AM(G:Option Bool)(ρ:Env):List Operand->(List AV->Prop)->Prop
 | [],K=>K []
 | x::rest,K=>bR G (aev ρ x) fun y=>AM G ρ rest fun l=>K (y::l)
def vY(P:Program)(t:TypeId)(parts:List (Nat×List AV))(K:AV->Prop):Prop:=
 match dR P t,eJ P t with
 | some z,some pl=>match rJ pl z parts with
   | some cs=>K (.agg cs)
   | none=>False
 | _,_=>False
def KE:Nat->Nat->List Nat
 | _,0=>[]
 | i,n+1=>i::KE (i+1) n
def cZ(n:Nat):List (List AV)->Prop
 | []=>True
 | cs::r=>cs.length=n/\cZ n r
def mX(P:Program)(G:Option Bool)(t:TypeId)(x:AV)(lo hi:Option AV)(K:AV->Prop):Prop:=
 match x,lo,hi with
 | .sl es,some (.v (.int _ a)),some (.v (.int _ b))=>match bY P t with
   | some (_,sz,_)=>(gt G->(0<=a/\a<=b/\b<=es.length)/\cZ sz es)/\K (.sl ((es.take b.toNat).drop a.toNat))
   | none=>False
 | .sl es,some (.v (.int _ a)),none=>match bY P t with
   | some (_,sz,_)=>(gt G->(0<=a/\a<=es.length)/\cZ sz es)/\K (.sl (es.drop a.toNat))
   | none=>False
 | .sl es,none,some (.v (.int _ b))=>match bY P t with
   | some _=>(gt G->0<=b/\b<=es.length)/\K (.sl (es.take b.toNat))
   | none=>False
 | .v (.string s),some (.v (.int _ a)),some (.v (.int _ b))=>
   if eI P t then(gt G->0<=a/\a<=b/\b<=s.size)/\K (.v (.string (s.extract a.toNat b.toNat)))else False
 | .v (.string s),some (.v (.int _ a)),none=>
   if eI P t then(gt G->0<=a/\a<=s.size)/\K (.v (.string (s.extract a.toNat s.size)))else False
 | .v (.string s),none,some (.v (.int _ b))=>
   if eI P t then(gt G->0<=b/\b<=s.size)/\K (.v (.string (s.extract 0 b.toNat)))else False
 | _,_,_=>False
def asl(P:Program)(G:Option Bool)(H:aJ)(t:TypeId)(x:AV)(lo hi:Option AV)(K:AV->Prop):Prop:=
 match x with
 | .os k=>match H k,bY P t with
   | some r,some (_,sz,_)=>match lo,hi with
     | some (.v (.int _ a)),some (.v (.int _ b))=>(gt G->(0<=a/\a<=b/\b<=r.es.length)/\r.sz=sz)/\K (.oz k a.toNat b.toNat)
     | some (.v (.int _ a)),none=>(gt G->(0<=a/\a<=r.es.length)/\r.sz=sz)/\K (.oz k a.toNat r.es.length)
     | none,some (.v (.int _ b))=>(gt G->(0<=b/\b<=r.es.length)/\r.sz=sz)/\K (.oz k 0 b.toNat)
     | _,_=>False
   | _,_=>False
 | x=>mX P G t x lo hi K
def D3(P:Program)(G:Option Bool)(t:TypeId)(x a b:AV)(K:AV->Prop):Prop:=
 match x,a,b with
 | .sl es,.v (.int _ a),.v (.int _ b)=>match bY P t with
   | some _=>(gt G->a=es.length/\b=es.length)/\K (.cl es)
   | none=>False
 | _,_,_=>False
def wP(P:Program)(G:Option Bool)(t:TypeId)(x i:AV)(K:AV->Prop):Prop:=
 match x,i with
 | .v (.string s),.v (.int _ n)=>
   if eI P t then(gt G->0<=n/\n<s.size)/\K (.v (.int .u8 ((s.data.getD n.toNat 0).toNat:Int)))else False
 | .agg cs,.v (.int _ n)=>match uP P t with
   | some (m,s,l)=>(gt G->0<=n/\n<m)/\apart G (n.toNat*s) l (.agg cs) K
   | none=>False
 | _,_=>False
def aun(op:UnOp)(x:AV)(K:AV->Prop):Prop:=
 match op,x with
 | .not,.v (.bool b)=>K (.v (.bool !b))
 | .neg,.v (.int k n)=>K (.v (.int k (k.wrap (0-n))))
 | _,_=>False
def rF:List (List AV)->Option (List Int)
 | []=>some []
 | [.v (.int .u8 n)]::r=>(rF r).map (n::·)
 | _=>none
def CU(P:Program)(t:TypeId):Bool:=
 match P.underlying t with
 | some (.slice e)=>match P.underlying e with
   | some (.int .u8)=>true
   | _=>false
 | _=>false
def GD(P:Program)(t:TypeId):Option IntKind:=match P.underlying t with|some (.int k)=>some k|_=>none
def xM(P:Program)(src dst:TypeId)(x:AV)(K:AV->Prop):Prop:=
 match x with
 | .v (.int _ n)=>match GD P dst,GD P src with
   | some k,some _=>K (.v (.int k (k.wrap n)))
   | _,_=>False
 | .v (.string s)=>if eI P src/\eI P dst then K (.v (.string s))else False
 | .sl es => if CU P src /\ eI P dst then
     match rF es with
     | some ns=>K (.v (.string (strOfNums ns)))
     | none=>False
   else False
 | _=>False
def sY:Operand->Bool
 | .const (.slice none 0 0)=>true
 | _=>false
def rG(op:BinOp)(x:AV)(K:AV->Prop):Prop:=
 match op,x with
 | .eql,.sl es=>(es=[]->K (.v (.bool true)))/\K (.v (.bool false))
 | .neq,.sl es=>(es=[]->K (.v (.bool false)))/\K (.v (.bool true))
 | .eql,.os _=>K (.v (.bool true))/\K (.v (.bool false))
 | .neq,.os _=>K (.v (.bool false))/\K (.v (.bool true))
 | .eql,.v (.slice none 0 0)=>K (.v (.bool true))
 | .neq,.v (.slice none 0 0)=>K (.v (.bool false))
 | _,_=>False
def iA(P:Program)(G:Option Bool)(ρ:Env)(H:aJ)(op:Op)(K:AV->Prop):Prop:=
 match op with
 | .move x| .assign x=>bR G (aev ρ x) K
 | .pick c a b=>bR G (aev ρ c) fun
   | .v (.bool c)=>Az G c (aev ρ a) (aev ρ b) K
   | _=>False
 | .build t parts=>pZ G ρ parts.toList fun l=>vY P t l K
 | .load t a=>match ldT P t with
   | some l=>bR G (aev ρ a) fun a=>oJ G H l a K
   | none=>False
 | .nilCheck x=>bR G (aev ρ x) fun
   | .rp cs off=>K (.rp cs off)
   | .op k i f=>K (.op k i f)
   | _=>False
 | .binOp op t x y _=>if sY y=true then bR G (aev ρ x) fun x=>cT P t=true/\rG op x K else bR G (aev ρ x) fun x=>bR G (aev ρ y) fun y=>gV P G op t x y K
 | .unOp op _ x=>bR G (aev ρ x) fun x=>aun op x K
 | .convert src dst x=>bR G (aev ρ x) fun x=>xM P src dst x K
 | .slice t x lo hi none=>bR G (aev ρ x) fun x=>match lo,hi with
   | some lo,some hi=>bR G (aev ρ lo) fun lo=>bR G (aev ρ hi) fun hi=>asl P G H t x (some lo) (some hi) K
   | some lo,none=>bR G (aev ρ lo) fun lo=>asl P G H t x (some lo) none K
   | none,some hi=>bR G (aev ρ hi) fun hi=>asl P G H t x none (some hi) K
   | none,none=>False
 | .slice t x none (some hi) (some m)=>bR G (aev ρ x) fun x=>bR G (aev ρ hi) fun hi=>bR G (aev ρ m) fun m=>D3 P G t x hi m K
 | .fieldAddr t x f=>bR G (aev ρ x) fun x=>kE P t f x K
 | .field t x f=>match aP P t f with
   | some (o,l)=>bR G (aev ρ x) fun x=>apart G o l x K
   | none=>False
 | .indexAddr t x i=>bR G (aev ρ x) fun x=>bR G (aev ρ i) fun i=>gE P G H t x i K
 | .index t x i=>bR G (aev ρ x) fun x=>bR G (aev ρ i) fun i=>wP P G t x i K
 | .extract x i=>bR G (aev ρ x) fun
   | .tup vs=>(gt G->i<vs.length)/\K (vs.getD i .any)
   | _=>False
 | .lookup t x i ok=>bR G (aev ρ x) fun x=>bR G (aev ρ i) fun i=>tI P H t x i ok K
 | .makeFunc f first cap=>match f with
   | .func f=>first=#[]/\AM G ρ cap.toList fun l=>K (.fn f l)
   | _=>False
 | _=>False
def cG(ops:Array Oper)(ρ:Env)(g:Option (Nat×Bool))(K:Option Bool->Prop):Prop:=
 match g with
 | none=>K none
 | some (j,want)=>match (ops[j]?).bind (·.dst)with
   | some t=>match ρ t with
     | .v (.bool b)=>K (some (b == want))
     | .gd g (.v (.bool b))=>K (some (g&&(b == want)))
     | _=>False
   | none=>False
def rO(mt:Nat->Bool):Option Nat->Bool
 | some d=>mt d
 | none=>false
def pO(H:aJ)(r:Row)(K:Nat->aJ->Prop):Prop:=∀k,H k=none->K k (aI H k (some r))
def mH(cs:List AV)(f:Nat)(xs:List AV):List AV:=cs.take f++xs++cs.drop (f+xs.length)
def kM:List (Nat×TypeId×Nat)->List AV->aJ->(List AV->aJ->Prop)->Prop
 | [],cs,H,K=>K cs H
 | x::r,cs,H,K=>pO H ⟨x.2.1,x.2.2,[]⟩ fun k H'=>kM r (cs.set x.1 (.os k)) H' K
def CF(P:Program)(mt:Nat->Bool)(quiet:Bool)(G:Option Bool)(o:Oper)(x:Operand)(ρ:Env)(H:aJ)(K:Env->aJ->Prop):Prop:=
 if rO mt o.dst=true/\G=none/\quiet=false/\sY x=true then
   match bY P o.type with
   | some (e,sz,_)=>pO H ⟨e,sz,[]⟩ fun k H'=>K (upd ρ o.dst (.os k)) H'
   | none=>False
 else bR G (aev ρ x) fun y=>K (upd ρ o.dst (wr G y)) H
def adF(mt:Nat->Bool)(o:Oper)(t:TypeId)(cs:List AV)(ρ:Env)(H:aJ)(K:Env->aJ->Prop):Prop:=
 if rO mt o.dst=true then
   0<cs.length/\pO H ⟨t,cs.length,[cs]⟩ fun k H'=>K (upd ρ o.dst (.op k 0 0)) H'
 else K (upd ρ o.dst (.rp cs 0)) H
def nT(P:Program)(mt:Nat->Bool)(G:Option Bool)(o:Oper)(t:TypeId)(n:Nat)(parts:List (Nat×List AV))(ρ:Env)(H:aJ)(K:Env->aJ->Prop):Prop:=
 match bY P t with
 | some (e,sz,_)=>
   (parts.map (·.1)=KE 0 n/\cZ sz (parts.map (·.2))/\n*sz<=16777216) /\
   (if rO mt o.dst=true/\G=none then pO H ⟨e,sz,parts.map (·.2)⟩ fun k H'=>K (upd ρ o.dst (.os k)) H'
    else K (upd ρ o.dst (wr G (.sl (parts.map (·.2))))) H)
 | none=>False
def zE(P:Program)(o:Oper)(t:TypeId)(a:AV)(cs:List AV)(ρ:Env)(H:aJ)(K:Env->aJ->Prop):Prop:=
 match a with
 | .op k i f=>match H k,ldT P t with
   | some r, some l => (i < r.es.length /\ cs.length = l.getD 1 /\ f + cs.length <= r.sz /\ (l = none -> ∃ i, P.info? t = some i /\ i.size = 1)) /\
       K (upd ρ o.dst .any) (aI H k (some { r with es:=r.es.set i (mH (r.es.getD i []) f cs) }))
   | _,_=>False
 | _=>False
def tV(P:Program)(o:Oper)(t:TypeId)(a:AV)(cs:List AV)(ρ:Env)(H:aJ)(K:Env->aJ->Prop):Prop:=
 zE P o t a cs ρ H K\/((ldT P t).isSome=true/\∃nl:List (Nat×TypeId×Nat),(∀x∈nl,cs[x.1]?=some (.v (.slice none 0 0))/\0<x.2.2)/\kM nl cs H fun cs H=>zE P o t a cs ρ H K)
def Ak(x:Operand)(ρ:Env)(d:Option Nat)(H:aJ)(K:Env->aJ->Prop):Prop:=
 match x with
 | .tmp t=>match ρ t with
   | .os j=>match H j with
     | some r=>∀Hr:aJ,Hr j=none->(∀k,k≠j->Hr k=H k)->K (upd (upd ρ (some t) (.sl r.es)) d (.sl r.es)) Hr
     | none=>False
   | _=>False
 | _=>False
theorem Ae{t j:Nat}{r:Row}{ρ:Env}{d:Option Nat}{H:aJ}{K:Env->aJ->Prop}(F:ρ t=.os j)(I:H j=some r)(h:∀E:aJ,E j=none->(∀k,k≠j->E k=H k)->K (upd (upd ρ (some t) (.sl r.es)) d (.sl r.es)) E):Ak (.tmp t) ρ d H K:=by
 unfold Ak;simp only[F,I];exact h
def Ip(l:List Nat)(H:aJ):List AV->List AV->Prop
 | [],[]=>True
 | x::xs,y::ys=>(x=y\/∃j r,j∈l/\x=.os j/\H j=some r/\y=.sl r.es)/\Ip l H xs ys
 | _,_=>False
def Hg(x:AV)(ρ:Env)(d:Option Nat)(H:aJ)(K:Env->aJ->Prop):Prop:=
 match x with
 | .agg cs=>∃(l:List Nat) (ys:List AV),Ip l H cs ys/\∀Hr:aJ,(∀k,k∈l->Hr k=none)->(∀k,¬k∈l->Hr k=H k)->K (upd ρ d (.agg ys)) Hr
 | _=>False
def xV(H:aJ)(x:AV)(K:List (List AV)->Prop):Prop:=
 match x with
 | .sl es=>K es
 | .os k=>match H k with
   | some r=>K r.es
   | none=>False
 | .oz k a b=>match H k with
   | some r=>K ((r.es.take b).drop a)
   | none=>False
 | _=>False
def G4(H:aJ)(x:AV)(K:Nat->Nat->Nat->Row->Prop):Prop:=
 match x with
 | .os k=>match H k with
   | some r=>K k 0 r.es.length r
   | none=>False
 | .oz k a b=>match H k with
   | some r=>K k a (b-a) r
   | none=>False
 | _=>False
def Uw(P:Program)(o:Oper)(t:TypeId)(x y:AV)(ρ:Env)(H:aJ)(K:Env->aJ->Prop):Prop:=
 G4 H x fun k a n r=>xV H y fun news=>match bY P t with
   | some (_,sz,_)=>(r.sz=sz/\cZ sz news)/\K (upd ρ o.dst (.v (.int .i64 (min news.length n:Nat)))) (aI H k (some { r with es:=r.es.take a++news.take (min news.length n)++r.es.drop (a+min news.length n) }))
   | none=>False
def JW(P:Program)(o:Oper)(t:TypeId)(x:AV)(ρ:Env)(H:aJ)(K:Env->aJ->Prop):Prop:=
 G4 H x fun k a n r=>match bY P t with
   | some (e,sz,_)=>match dR P e with
     | some zs=>r.sz=sz/\K (upd ρ o.dst .any) (aI H k (some { r with es:=r.es.take a++List.replicate n zs++r.es.drop (a+n) }))
     | none=>False
   | none=>False
def tO(P:Program)(o:Oper)(t:TypeId)(s x:AV)(ρ:Env)(H:aJ)(K:Env->aJ->Prop):Prop:=
 match s,bY P t with
 | .os k,some (e,sz,bytes)=>match H k with
   | some r => xV H x fun news =>
       (r.e=e/\r.sz=sz/\cZ sz news/\(r.es.length+news.length)*bytes<=140737488355328) /\
       ∀k',H k'=none->K (upd ρ o.dst (.os k')) (aI (aI H k none) k' (some ⟨e,sz,r.es++news⟩))
   | none=>False
 | .cl es, some (e, sz, bytes) => xV H x fun news =>
     (news≠[]/\cZ sz es/\cZ sz news/\(es.length+news.length)*bytes<=140737488355328) /\
     ∀k',H k'=none->K (upd ρ o.dst (.os k')) (aI H k' (some ⟨e,sz,es++news⟩))
 | .v (.slice none 0 0), some (e, sz, bytes) => xV H x fun news =>
     (news≠[]/\cZ sz ([]:List (List AV))/\cZ sz news/\(([]:List (List AV)).length+news.length)*bytes<=140737488355328) /\
     ∀k',H k'=none->K (upd ρ o.dst (.os k')) (aI H k' (some ⟨e,sz,[]++news⟩))
 | _,_=>False
def Ho:List (Nat×TypeId×Nat)->List AV->List AV
 | [],z=>z
 | x::r,z=>Ho r (z.set x.1 (.v (.slice none 0 0)))
def Aa(P:Program)(o:Oper)(t:TypeId)(parts:List (Nat×Operand))(ρ:Env)(H:aJ)(K:Env->aJ->Prop):Prop:=
 pZ none ρ parts fun l=>match dR P t,eJ P t,qG P t with
   | some z,some pl,some nl=>match rJ pl (Ho nl z) l with
     | some cs=>K (upd ρ o.dst (.agg cs)) H
     | none=>False
   | _,_,_=>False
def BG(P:Program)(o:Oper)(t:TypeId)(parts:List (Nat×Operand))(ρ:Env)(H:aJ)(K:Env->aJ->Prop):Prop:=
 pZ none ρ parts fun l=>match dR P t,eJ P t,qG P t with
   | some z,some pl,some nl=>kM nl z H fun z H=>match rJ pl z l with
     | some cs=>K (upd ρ o.dst (.agg cs)) H
     | none=>False
   | _,_,_=>False
def mD(P:Program)(o:Oper)(t:TypeId)(m x v:AV)(ρ:Env)(H:aJ)(K:Env->aJ->Prop):Prop:=
 DB P H t m x fun j r _ oi=>K (upd ρ o.dst .any) (aI H j (some { r with es:=aeI r.es oi x v }))
def Ap(P:Program)(o:Oper)(t:TypeId)(m x:AV)(ρ:Env)(H:aJ)(K:Env->aJ->Prop):Prop:=
 DB P H t m x fun j r kt oi=>match oi with
   | some i=>K (upd ρ o.dst (.tup [(r.es.getD i []).getD 1 .any,.v (.int .i64 i)])) H
   | none=>match Ji P kt.2 with
     | some z=>K (upd ρ o.dst (.tup [z,.v (.int .i64 r.es.length)])) (aI H j (some { r with es:=r.es++[[x,z]] }))
     | none=>False
def tP(o:Oper)(m s v:AV)(ρ:Env)(H:aJ)(K:Env->aJ->Prop):Prop:=
 match m,s with
 | .om j,.v (.int _ i)=>match H j with
   | some r=>(0<=i/\i<r.es.length)/\K (upd ρ o.dst .any) (aI H j (some { r with es:=r.es.set i.toNat [(r.es.getD i.toNat []).getD 0 .any,v] }))
   | none=>False
 | _,_=>False
def sV(P:Program)(o:Oper)(t:TypeId)(l c:AV)(ρ:Env)(H:aJ)(K:Env->aJ->Prop):Prop:=
 match l,c with
 | .v (.int _ a),.v (.int _ b)=>match bY P t with
   | some (e,sz,bytes)=>match dR P e with
     | some z=>((0<=a/\a<=b)/\(bytes:Int)*b<=140737488355328)/\pO H ⟨e,sz,List.replicate a.toNat z⟩ fun k H'=>K (upd ρ o.dst (.os k)) H'
     | none=>False
   | none=>False
 | _,_=>False
def OP:AV->Option (FuncId×List AV×List AV)
 | .v (.func (.func f) first captured)=>some (f,first.toList.map .v,captured.toList.map .v)
 | .fn f cap=>some (f,[],cap)
 | _=>none
def aE(P:Program)(f:FuncId):Bool:=match P.funcs[f]? with|some fn=>fn.name != "runtime.NumGoroutine" && fn.body.isSome|none=>false
abbrev lW:=FuncId->List AV->aJ->(AV->aJ->Prop)->Prop
def nfq(quiet:Bool)(r:AV)(K:AV->Prop):Prop:=match quiet,r with
 | true,.nf _=>False
 | false,.nf x=>K x
 | _,r=>K r
def Cq(P:Program)(C:lW)(PC:FuncId->List AV->aJ->AV->Prop)(nl quiet:Bool)(G:Option Bool)(o:Oper)(c:Call)(ρ:Env)(H:aJ)(K:Env->aJ->Prop):Prop:=
 match c.callee with
 | .builtin b=>AM G ρ c.args.toList fun l=>match b,l,c.argTypes.toList with
   | .len,[x],[t]=>G7 P H t x fun y=>K (upd ρ o.dst (wr G y)) H
   | .append,[s,x],[t,t']=>if t=t'/\G=none/\quiet=false then tO P o t s x ρ H K else False
   | .copy,[x,y],[t,_]=>if G=none/\quiet=false then Uw P o t x y ρ H K else False
   | .clear,[x],[t]=>if G=none/\quiet=false then JW P o t x ρ H K else False
   | .max,[x,y],[_,_]=>PL x y fun z=>K (upd ρ o.dst (wr G z)) H
   | .min,[x,y],[_,_]=>P9 x y fun z=>K (upd ρ o.dst (wr G z)) H
   | _,_,_=>False
 | .value f=>bR G (aev ρ f) fun x=>match OP x with
   | some (f,first,captured)=>if nl=true then G=none/\quiet=false/\aE P f=true/\C f (first++c.args.toList.map (KI ρ)++captured) H fun r H'=>K (upd ρ o.dst r) H' else AM G ρ c.args.toList fun l=>
     aE P f=true/\if G=none/\quiet=false then C f (first++l++captured) H fun r H'=>K (upd ρ o.dst r) H'
     else ∃r,(gt G->PC f (first++l++captured) H r)/\nfq quiet r fun r=>K (upd ρ o.dst (wr G r)) H
   | none=>False
 | .invoke _ _=>False
def aop(P:Program)(C:lW)(PC:FuncId->List AV->aJ->AV->Prop)(mt:Nat->Bool)(quiet:Bool)(ops:Array Oper)(o:Oper)(ρ:Env)(H:aJ)(K:Env->aJ->Prop):Prop:=
 cG ops ρ o.guard fun G=>
 match o.op with
 | .assign x=>CF P mt quiet G o x ρ H K
 | .alloc t=>match dR P t with
   | some z => G = none /\ quiet = false /\ (if rO mt o.dst = true then match qG P t with
       | some nl=>kM nl z H fun z H=>pO H ⟨t,z.length,[z]⟩ fun k H'=>K (upd ρ o.dst (.op k 0 0)) H'
       | none=>False
     else pO H ⟨t,z.length,[z]⟩ fun k H'=>K (upd ρ o.dst (.op k 0 0)) H')
   | none=>False
 | .box t x=>G=none/\quiet=false/\bR G (aev ρ x) fun x=>mV x fun cs=>adF mt o t cs ρ H K
 | .buildSlice t n parts=>quiet=false/\pZ G ρ parts.toList fun l=>nT P mt G o t n l ρ H K
 | .store t a x => G = none /\ quiet = false /\ (if sY x = true then bR G (aev ρ a) fun a => match bY P t with
       | some (e,sz,_)=>pO H ⟨e,sz,[]⟩ fun k H=>tV P o t a [.os k] ρ H K
       | none=>False
     else bR G (aev ρ a) fun a=>bR G (aev ρ x) fun x=>mV x fun cs=>tV P o t a cs ρ H K)
 | .call c=>Cq P C PC (rO mt o.dst) quiet G o c ρ H K
 | .move x=>if rO mt o.dst=true then G=none/\quiet=false/\Ak x ρ o.dst H K else iA P G ρ H (.move x) fun x=>K (upd ρ o.dst (wr G x)) H
 | .pick c a b=>iA P G ρ H (.pick c a b) fun x=>K (upd ρ o.dst (wr G x)) H
 | .build t parts=>if rO mt o.dst=true then G=none/\(if quiet=true then Aa P o t parts.toList ρ H K else BG P o t parts.toList ρ H K)else iA P G ρ H (.build t parts) fun x=>K (upd ρ o.dst (wr G x)) H
 | .load t a=>if rO mt o.dst=true then G=none/\quiet=false/\iA P none ρ H (.load t a) fun x=>Hg x ρ o.dst H K else iA P G ρ H (.load t a) fun x=>K (upd ρ o.dst (wr G x)) H
 | .nilCheck x=>iA P G ρ H (.nilCheck x) fun x=>K (upd ρ o.dst (wr G x)) H
 | .binOp op t x y t'=>iA P G ρ H (.binOp op t x y t') fun x=>K (upd ρ o.dst (wr G x)) H
 | .unOp op t x=>iA P G ρ H (.unOp op t x) fun x=>K (upd ρ o.dst (wr G x)) H
 | .convert s d x=>iA P G ρ H (.convert s d x) fun x=>K (upd ρ o.dst (wr G x)) H
 | .slice t x lo hi m=>iA P G ρ H (.slice t x lo hi m) fun x=>K (upd ρ o.dst (wr G x)) H
 | .fieldAddr t x f=>iA P G ρ H (.fieldAddr t x f) fun x=>K (upd ρ o.dst (wr G x)) H
 | .field t x f=>iA P G ρ H (.field t x f) fun x=>K (upd ρ o.dst (wr G x)) H
 | .indexAddr t x i=>iA P G ρ H (.indexAddr t x i) fun x=>K (upd ρ o.dst (wr G x)) H
 | .index t x i=>iA P G ρ H (.index t x i) fun x=>K (upd ρ o.dst (wr G x)) H
 | .extract x i=>iA P G ρ H (.extract x i) fun x=>K (upd ρ o.dst (wr G x)) H
 | .makeFunc f a b=>iA P G ρ H (.makeFunc f a b) fun x=>K (upd ρ o.dst (wr G x)) H
 | .makeSlice t l c=>G=none/\quiet=false/\bR G (aev ρ l) fun l=>bR G (aev ρ c) fun c=>sV P o t l c ρ H K
 | .lookup t x i ok=>iA P G ρ H (.lookup t x i ok) fun x=>K (upd ρ o.dst (wr G x)) H
 | .makeMap _ none=>G=none/\quiet=false/\pO H ⟨0,2,[]⟩ fun k H'=>K (upd ρ o.dst (.om k)) H'
 | .mapUpdate t m x v=>G=none/\quiet=false/\bR G (aev ρ m) fun m=>bR G (aev ρ x) fun x=>bR G (aev ρ v) fun v=>mD P o t m x v ρ H K
 | .insert t m x v=>G=none/\quiet=false/\bR G (aev ρ m) fun m=>bR G (aev ρ x) fun x=>bR G (aev ρ v) fun v=>mD P o t m x v ρ H K
 | .mapEntry t m x=>G=none/\quiet=false/\bR G (aev ρ m) fun m=>bR G (aev ρ x) fun x=>Ap P o t m x ρ H K
 | .entryStore _ m s v=>G=none/\quiet=false/\bR G (aev ρ m) fun m=>bR G (aev ρ s) fun s=>bR G (aev ρ v) fun v=>tP o m s v ρ H K
 | _=>False
def xC(P:Program)(C:lW)(PC:FuncId->List AV->aJ->AV->Prop)(mt:Nat->Bool)(quiet:Bool)(ops:Array Oper)(K:Env->aJ->Prop):List Oper->Env->aJ->Prop
 | [],ρ,H=>K ρ H
 | o::rest,ρ,H=>aop P C PC mt quiet ops o ρ H (xC P C PC mt quiet ops K rest)
def Ex.seq(K:Env->aJ->Prop)(Q:Ex->Env->aJ->Prop):Ex->Env->aJ->Prop
 | .normal,ρ,H=>K ρ H
 | e,ρ,H=>Q e ρ H
def Ex.blk(id:Nat)(Q:Ex->Env->aJ->Prop):Ex->Env->aJ->Prop
 | .exit i,ρ,H=>if i=id then Q .normal ρ H else Q (.exit i) ρ H
 | e,ρ,H=>Q e ρ H
def S6(W:(Ex->Env->aJ->Prop)->Env->aJ->Prop)(Q:Ex->Env->aJ->Prop)(ρ:Env)(H:aJ):Prop:=
 ∃(I:Env->aJ->Prop) (μ:Env->aJ->Nat),I ρ H/\∀ρ' H',I ρ' H'->W (Ex.seq (fun ρ'' H''=>I ρ'' H''/\μ ρ'' H''<μ ρ' H') Q) ρ' H'
def akW(mt:Nat->Bool)(o:Oper):Bool:=match o.op with
 | .alloc _=>true
 | .buildSlice ..=>true
 | .store ..=>true
 | .makeSlice ..=>true
 | .makeMap ..=>true
 | .mapUpdate ..=>true
 | .insert ..=>true
 | .mapEntry ..=>true
 | .entryStore ..=>true
 | .call ⟨.builtin .append,_,_⟩=>true
 | .call ⟨.builtin .copy,_,_⟩=>true
 | .call ⟨.builtin .clear,_,_⟩=>true
 | _=>rO mt o.dst
def T7(mt:Nat->Bool):List Oper->Nat
 | []=>0
 | o::r=>if akW mt o=true then 0 else T7 mt r+1
def Uq(ops:Array Oper)(n:Nat):Bool:=Region.noSelect ops&&decide (n<=ops.size)&&Region.lexHead .any ops (ops.size-n) n 0 (Array.replicate ops.size false)
def qH(o:Oper)(H:aJ):aJ:=match o.op with
 | .slice ..=>H
 | _=>fun _=>none
def yT(P:Program)(C:lW)(PC:FuncId->List AV->aJ->AV->Prop)(mt:Nat->Bool)(ops:Array Oper)(K:Env->aJ->Prop):List (Nat×Bool)->Env->aJ->Prop
 | [],ρ,H=>K ρ H
 | (k,b)::f,ρ,H=>match ops[k]? with
   | some o=>if b=true then aop P C PC mt true ops o ρ (qH o H) fun ρ' _=>yT P C PC mt ops K f ρ' H
     else aop P C PC mt false ops o ρ H (yT P C PC mt ops K f)
   | none=>False
def qY(P:Program)(C:lW)(PC:FuncId->List AV->aJ->AV->Prop)(mt:Nat->Bool)(ops:Array Oper)(K:Env->aJ->Prop)(Hp:aJ):List (Nat×Bool)->Env->aJ->Prop
 | [],ρ,H=>K ρ H
 | (k,b)::f,ρ,H=>match ops[k]? with
   | some o=>if b=true then aop P C PC mt true ops o ρ Hp fun ρ' _=>qY P C PC mt ops K Hp f ρ' H
     else aop P C PC mt false ops o ρ H (qY P C PC mt ops K Hp f)
   | none=>False
def mY(l:List Nat)(H:aJ)(K:Env->aJ->Prop)(ρ':Env)(H':aJ):Prop:=
 (∀k,k∈l->H' k=none)->∀Hm:aJ,(∀k,k∈l->Hm k=H k)->(∀k,k∉l->Hm k=H' k)->K ρ' Hm
theorem jX{l:List Nat}{H:aJ}{K:Env->aJ->Prop}{E:Env}{H':aJ}(h:(∀k,k∈l->H' k=none)->∀F:aJ,(∀k,k∈l->F k=H k)->(∀k,k∉l->F k=H' k)->K E F):mY l H K E H':=h
def pA(ops:Array Oper):List (Nat×Bool)->Array Bool->Bool
 | [],listed=>(Region.ready .any ops listed).isEmpty
 | (k,true)::f,listed=>(Region.ready .any ops listed).contains k&&Region.free .any ops listed k&&pA ops f (listed.setIfInBounds k true)
 | (k,false)::f,listed=>decide (Region.ready .any ops listed=[k])&&pA ops f (listed.setIfInBounds k true)
def Pl(ops:Array Oper)(f:List (Nat×Bool)):Bool:=Region.noSelect ops&&decide (f.length=ops.size)&&pA ops f (Array.replicate ops.size false)
inductive Mx where
 | nil
 | q (k:Nat) (t:Mx)
 | a1 (k:Nat) (t:Mx)
 | a2 (k:Nat) (t:Mx) (k':Nat) (t':Mx)
 | a3 (k:Nat) (t:Mx) (k':Nat) (t':Mx) (k'':Nat) (t'':Mx)
def AU(P:Program)(C:lW)(PC:FuncId->List AV->aJ->AV->Prop)(mt:Nat->Bool)(quiet:Bool)(ops:Array Oper)(k:Nat)(ρ:Env)(H:aJ)(K:Env->aJ->Prop):Prop:=
 match ops[k]? with
 | some o=>aop P C PC mt quiet ops o ρ H K
 | none=>False
def nD(P:Program)(C:lW)(PC:FuncId->List AV->aJ->AV->Prop)(mt:Nat->Bool)(ops:Array Oper)(K:Env->aJ->Prop)(Hp:aJ):Mx->Env->aJ->Prop
 | .nil,ρ,H=>K ρ H
 | .q k t,ρ,H=>AU P C PC mt true ops k ρ Hp fun ρ' _=>nD P C PC mt ops K Hp t ρ' H
 | .a1 k t,ρ,H=>AU P C PC mt false ops k ρ H (nD P C PC mt ops K Hp t)
 | .a2 k t k' t',ρ,H=>AU P C PC mt false ops k ρ H (nD P C PC mt ops K Hp t)/\AU P C PC mt false ops k' ρ H (nD P C PC mt ops K Hp t')
 | .a3 k t k' t' k'' t'',ρ,H=>AU P C PC mt false ops k ρ H (nD P C PC mt ops K Hp t)/\AU P C PC mt false ops k' ρ H (nD P C PC mt ops K Hp t')/\AU P C PC mt false ops k'' ρ H (nD P C PC mt ops K Hp t'')
def gB(ops:Array Oper):Mx->Nat->Array Bool->Bool
 | .nil,0,listed=>(Region.ready .any ops listed).isEmpty
 | .q k t,n+1,listed=>(Region.ready .any ops listed).contains k&&Region.free .any ops listed k&&gB ops t n (listed.setIfInBounds k true)
 | .a1 k t,n+1,listed=>decide (Region.ready .any ops listed=[k])&&gB ops t n (listed.setIfInBounds k true)
 | .a2 k t k' t',n+1,listed=>decide (Region.ready .any ops listed=[k,k'])&&gB ops t n (listed.setIfInBounds k true)&&gB ops t' n (listed.setIfInBounds k' true)
 | .a3 k t k' t' k'' t'',n+1,listed=>decide (Region.ready .any ops listed=[k,k',k''])&&gB ops t n (listed.setIfInBounds k true)&&gB ops t' n (listed.setIfInBounds k' true)&&gB ops t'' n (listed.setIfInBounds k'' true)
 | _,_,_=>false
def Cm(ops:Array Oper)(t:Mx):Bool:=Region.noSelect ops&&gB ops t ops.size (Array.replicate ops.size false)
def tK(P:Program)(C:lW)(PC:FuncId->List AV->aJ->AV->Prop)(mt:Nat->Bool)(ops:Array Oper)(K:Env->aJ->Prop)(m:Nat)(ρ:Env)(H:aJ):Prop:=
 (m=ops.size/\Region.lexB .any ops=true/\xC P C PC mt true ops K ops.toList ρ H) \/
 (Uq ops m=true/\xC P C PC mt true ops (fun ρ' _=>xC P C PC mt false ops K (ops.toList.drop m) ρ' H) (ops.toList.take m) ρ fun _=>none) \/
 (∃f,Pl ops f=true/\yT P C PC mt ops K f ρ H) \/
 (∃l f,(∀k,k∈l->(H k).isSome=true)/\Pl ops f=true/\∀Hp Hr:aJ,(∀k,k∈l->Hp k=H k)->(∀k,k∉l->Hr k=H k)->(∀k,k∉l->Hp k=none)->(∀k,k∈l->Hr k=none)->qY P C PC mt ops (mY l H K) Hp f ρ Hr) \/
 ∃l t,(∀k,k∈l->(H k).isSome=true)/\Cm ops t=true/\∀Hp Hr:aJ,(∀k,k∈l->Hp k=H k)->(∀k,k∉l->Hr k=H k)->(∀k,k∉l->Hp k=none)->(∀k,k∈l->Hr k=none)->nD P C PC mt ops (mY l H K) Hp t ρ Hr
theorem fV{P:Program}{C:lW}{PC:FuncId->List AV->aJ->AV->Prop}{mt:Nat->Bool}{l:List Oper}{K:Env->aJ->Prop}{m:Nat}{ρ:Env}{H:aJ}(F:(m == l.length)=true)(E:Region.lexB .any l.toArray=true)
 (h:xC P C PC mt true l.toArray K l ρ H):tK P C PC mt l.toArray K m ρ H:=.inl ⟨by simpa using F,E,h⟩
theorem EK{P:Program}{C:lW}{PC:FuncId->List AV->aJ->AV->Prop}{mt:Nat->Bool}{l:List Oper}{K:Env->aJ->Prop}{m:Nat}{ρ:Env}{H:aJ}(F:Uq l.toArray m=true)
 (h:xC P C PC mt true l.toArray (fun E _=>xC P C PC mt false l.toArray K (l.drop m) E H) (l.take m) ρ fun _=>none):tK P C PC mt l.toArray K m ρ H:=.inr (.inl ⟨F,h⟩)
theorem lO{P:Program}{C:lW}{PC:FuncId->List AV->aJ->AV->Prop}{mt:Nat->Bool}{l:List Oper}{K:Env->aJ->Prop}{m:Nat}{ρ:Env}{H:aJ}(f:List (Nat×Bool))(E:Pl l.toArray f=true)
 (h:yT P C PC mt l.toArray K f ρ H):tK P C PC mt l.toArray K m ρ H:=.inr (.inr (.inl ⟨f,E,h⟩))
theorem dP{P:Program}{C:lW}{PC:FuncId->List AV->aJ->AV->Prop}{mt:Nat->Bool}{ops:List Oper}{K:Env->aJ->Prop}{m:Nat}{ρ:Env}{H:aJ}(l:List Nat)(f:List (Nat×Bool))(F:∀k,k∈l->(H k).isSome=true)(I:Pl ops.toArray f=true)
 (h:∀Hp E:aJ,(∀k,k∈l->Hp k=H k)->(∀k,k∉l->E k=H k)->(∀k,k∉l->Hp k=none)->(∀k,k∈l->E k=none)->qY P C PC mt ops.toArray (mY l H K) Hp f ρ E):tK P C PC mt ops.toArray K m ρ H:=.inr (.inr (.inr (.inl ⟨l,f,F,I,h⟩)))
theorem Cn{P:Program}{C:lW}{PC:FuncId->List AV->aJ->AV->Prop}{mt:Nat->Bool}{ops:List Oper}{K:Env->aJ->Prop}{m:Nat}{ρ:Env}{H:aJ}(l:List Nat)(t:Mx)(F:∀k,k∈l->(H k).isSome=true)(I:Cm ops.toArray t=true)
 (h:∀Hp E:aJ,(∀k,k∈l->Hp k=H k)->(∀k,k∉l->E k=H k)->(∀k,k∉l->Hp k=none)->(∀k,k∈l->E k=none)->nD P C PC mt ops.toArray (mY l H K) Hp t ρ E):tK P C PC mt ops.toArray K m ρ H:=.inr (.inr (.inr (.inr ⟨l,t,F,I,h⟩)))
def awp(P:Program)(C:lW)(PC:FuncId->List AV->aJ->AV->Prop)(mt:Nat->Bool):Code->(Ex->Env->aJ->Prop)->Env->aJ->Prop
 | .skip,Q,ρ,H=>Q .normal ρ H
 | .region _ ops draw,Q,ρ,H=>if draw=true then tK P C PC mt ops (Q .normal) (T7 mt ops.toList) ρ H else xC P C PC mt false ops (Q .normal) ops.toList ρ H
 | .seq a b,Q,ρ,H=>awp P C PC mt a (Ex.seq (awp P C PC mt b Q) Q) ρ H
 | .cond c a b,Q,ρ,H=>match aev ρ c with
   | .v (.bool t)=>(t=true->awp P C PC mt a Q ρ H)/\(t=false->awp P C PC mt b Q ρ H)
   | _=>False
 | .block id c,Q,ρ,H=>awp P C PC mt c (Ex.blk id Q) ρ H
 | .loop c,Q,ρ,H=>S6 (awp P C PC mt c) Q ρ H
 | .scope c,Q,ρ,H=>awp P C PC mt c Q ρ H
 | .label _,Q,ρ,H=>Q .normal ρ H
 | .exit id,Q,ρ,H=>Q (.exit id) ρ H
 | .ret,Q,ρ,H=>Q .ret ρ H
 | _,_,_,_=>False
def yI(x:AV)(A B:Env->aJ->Prop)(ρ:Env)(H:aJ):Prop:=
 match x with
 | .v (.bool t)=>(t=true->A ρ H)/\(t=false->B ρ H)
 | _=>False
section
variable{P:Program}{C:lW}{PC:FuncId->List AV->aJ->AV->Prop}{mt:Nat->Bool}{Q:Ex->Env->aJ->Prop}{K:Env->aJ->Prop}{ρ:Env}{H:aJ}{a b c:Code}{id:Nat}{ops:Array Oper}{draw:Bool}
theorem abW:awp P C PC mt .skip Q ρ H=Q .normal ρ H:=(rfl)
theorem Fb:awp P C PC mt (.region id ops false) Q ρ H=xC P C PC mt false ops (Q .normal) ops.toList ρ H:=by simp[awp]
theorem N2:awp P C PC mt (.region id ops true) Q ρ H=tK P C PC mt ops (Q .normal) (T7 mt ops.toList) ρ H:=by simp[awp]
@[congr] theorem adraw_c {m m':Nat} (h:m=m'):tK P C PC mt ops K m ρ H=tK P C PC mt ops K m' ρ H:=h▸rfl
theorem T6:awp P C PC mt (.seq a b) Q ρ H=awp P C PC mt a (Ex.seq (awp P C PC mt b Q) Q) ρ H:=(rfl)
theorem MR{x:Operand}:awp P C PC mt (.cond x a b) Q ρ H=yI (aev ρ x) (awp P C PC mt a Q) (awp P C PC mt b Q) ρ H:=(rfl)
theorem Hk:awp P C PC mt (.block id c) Q ρ H=awp P C PC mt c (Ex.blk id Q) ρ H:=(rfl)
theorem N3:awp P C PC mt (.loop c) Q ρ H=S6 (awp P C PC mt c) Q ρ H:=(rfl)
theorem HL:awp P C PC mt (.scope c) Q ρ H=awp P C PC mt c Q ρ H:=(rfl)
theorem UW{l:Nat}:awp P C PC mt (.label l) Q ρ H=Q .normal ρ H:=(rfl)
theorem Zh:awp P C PC mt (.exit id) Q ρ H=Q (.exit id) ρ H:=(rfl)
theorem aeG:awp P C PC mt .ret Q ρ H=Q .ret ρ H:=(rfl)
theorem WO:xC P C PC mt draw ops K [] ρ H=K ρ H:=(rfl)
theorem Vb{o:Oper}{r:List Oper}:xC P C PC mt draw ops K (o::r) ρ H=aop P C PC mt draw ops o ρ H (xC P C PC mt draw ops K r):=(rfl)
theorem QN:Ex.seq K Q .normal ρ H=K ρ H:=(rfl)
theorem XY:Ex.seq K Q (.exit id) ρ H=Q (.exit id) ρ H:=(rfl)
theorem acY:Ex.seq K Q .ret ρ H=Q .ret ρ H:=(rfl)
theorem SG:Ex.blk id Q .normal ρ H=Q .normal ρ H:=(rfl)
theorem S5:Ex.blk id Q .ret ρ H=Q .ret ρ H:=(rfl)
theorem Pd:Ex.blk id Q (.exit id) ρ H=Q .normal ρ H:=by simp[Ex.blk]
theorem Wg{i:Nat}(h:(i == id)=false):Ex.blk id Q (.exit i) ρ H=Q (.exit i) ρ H:=by
 have:i≠id:=by simpa using h
 simp[Ex.blk,this]
end
@[congr] theorem wopd_c {G x x' k} (h:x=x'):bR G x k=bR G x' k:=h▸rfl
@[congr] theorem abin_c {P G op t x x' y y' k} (h:x=x') (h':y=y'):gV P G op t x y k=gV P G op t x' y' k:=h▸h'▸rfl
@[congr] theorem apick_c {G c c' x x' y y' k} (h0:c=c') (h:x=x') (h':y=y'):Az G c x y k=Az G c' x' y' k:=h0▸h▸h'▸rfl
@[congr] theorem aload_c {G H l l' x x' k} (h:l=l') (h':x=x'):oJ G H l x k=oJ G H l' x' k:=h▸h'▸rfl
@[congr] theorem apart_c {G o o' l l' x x' k} (h0:o=o') (h:l=l') (h':x=x'):apart G o l x k=apart G o' l' x' k:=h0▸h▸h'▸rfl
@[congr] theorem alen_c {P H t x x' k} (h':x=x'):G7 P H t x k=G7 P H t x' k:=h'▸rfl
@[congr] theorem aindexAddr_c {P G H t x x' y y' k} (h:x=x') (h':y=y'):gE P G H t x y k=gE P G H t x' y' k:=h▸h'▸rfl
@[congr] theorem aindex_c {P G t x x' y y' k} (h:x=x') (h':y=y'):wP P G t x y k=wP P G t x' y' k:=h▸h'▸rfl
@[congr] theorem afieldAddr_c {P t f x x' k} (h':x=x'):kE P t f x k=kE P t f x' k:=h'▸rfl
@[congr] theorem abuild_c {P t l l' k} (h':l=l'):vY P t l k=vY P t l' k:=h'▸rfl
@[congr] theorem aslice_c {P G t x x' lo lo' hi hi' k} (h:x=x') (h1:lo=lo') (h2:hi=hi'):mX P G t x lo hi k=mX P G t x' lo' hi' k:=h▸h1▸h2▸rfl
@[congr] theorem aun_c {op x x' k} (h':x=x'):aun op x k=aun op x' k:=h'▸rfl
@[congr] theorem aconv_c {P s t x x' k} (h':x=x'):xM P s t x k=xM P s t x' k:=h'▸rfl
@[congr] theorem wcells_c {x x' K} (h:x=x'):mV x K=mV x' K:=h▸rfl
@[congr] theorem acond_c {x x' A B ρ H} (h':x=x'):yI x A B ρ H=yI x' A B ρ H:=h'▸rfl
@[congr] theorem abox_c {mt o t x x' ρ H K} (h:x=x'):adF mt o t x ρ H K=adF mt o t x' ρ H K:=h▸rfl
@[congr] theorem abuildSlice_c {P mt G o t n x x' ρ H K} (h:x=x'):nT P mt G o t n x ρ H K=nT P mt G o t n x' ρ H K:=h▸rfl
@[congr] theorem astore_c {P o t a a' x x' ρ H K} (h:a=a') (h':x=x'):zE P o t a x ρ H K=zE P o t a' x' ρ H K:=h▸h'▸rfl
@[congr] theorem aappend_c {P o t a a' x x' ρ H K} (h:a=a') (h':x=x'):tO P o t a x ρ H K=tO P o t a' x' ρ H K:=h▸h'▸rfl
@[congr] theorem asrc_c {H x x' K} (h:x=x'):xV H x K=xV H x' K:=h▸rfl
@[congr] theorem anew_c {H r r' K} (h:r=r'):pO H r K=pO H r' K:=h▸rfl
theorem aB{t:Bool}{A B:Env->aJ->Prop}{ρ:Env}{H:aJ}(h1:t=true->A ρ H)(E:t=false->B ρ H):yI (.v (.bool t)) A B ρ H:=⟨h1,E⟩
def Dt(args:List AV):Env:=fun t=>args.getD t .any
def aX:AV->Nat
 | .v (.int _ n)=>n.toNat
 | _=>0
theorem aG{k n}:aX (.v (.int k n))=n.toNat:=(rfl)
section
variable{G:Option Bool}{k:AV->Prop}
theorem Y3{x}:bR G (.v x) k=k (.v x):=(rfl)
theorem Od:bR G .any k=k .any:=(rfl)
theorem Ti{x}:bR G (.sl x) k=k (.sl x):=(rfl)
theorem Ts{x o}:bR G (.rp x o) k=k (.rp x o):=(rfl)
theorem O2{x}:bR G (.agg x) k=k (.agg x):=(rfl)
theorem MM{x}:bR G (.tup x) k=k (.tup x):=(rfl)
theorem Uc{x}:bR G (.os x) k=k (.os x):=(rfl)
theorem SV{x i f}:bR G (.op x i f) k=k (.op x i f):=(rfl)
theorem Ue{f l}:bR G (.fn f l) k=k (.fn f l):=(rfl)
theorem Tb{j a b}:bR G (.oz j a b) k=k (.oz j a b):=(rfl)
theorem Tp{es}:bR G (.cl es) k=k (.cl es):=(rfl)
theorem Uj{j}:bR G (.om j) k=k (.om j):=(rfl)
theorem T9{g x}:bR G (.gd g x) k=(gok G g/\k x):=(rfl)
end
def TV(K:Env->aJ->Prop)(ρ:Env)(d:Option Tmp)(j:Nat)(H:aJ):Prop:=K (upd ρ d (.os j)) H
def TT(K:Env->aJ->Prop)(ρ:Env)(d:Option Tmp)(j:Nat)(H:aJ):Prop:=K (upd ρ d (.op j 0 0)) H
def Mj(K:Env->aJ->Prop)(ρ:Env)(d:Option Tmp)(r:AV)(H:aJ):Prop:=K (upd ρ d r) H
theorem NW{K ρ d j H}:TV K ρ d j H=K (upd ρ d (.os j)) H:=(rfl)
theorem Pk{K ρ d j H}:TT K ρ d j H=K (upd ρ d (.op j 0 0)) H:=(rfl)
theorem N7{K ρ d r H}:Mj K ρ d r H=K (upd ρ d r) H:=(rfl)
def wpick(G:Option Bool)(c x y:AV)(k:AV->Prop):Prop:=match c with
 | .v (.bool c)=>Az G c x y k
 | _=>False
@[congr] theorem wpick_c {G c c' x y k} (h:c=c'):wpick G c x y k=wpick G c' x y k:=h▸rfl
theorem Ud{G c x y k}:wpick G (.v (.bool c)) x y k=Az G c x y k:=(rfl)
def Zg(x:AV)(k:AV->Prop):Prop:=match x with
 | .rp cs off=>k (.rp cs off)
 | .op j i f=>k (.op j i f)
 | _=>False
@[congr] theorem wptr_c {x x' k} (h:x=x'):Zg x k=Zg x' k:=h▸rfl
theorem Ut{cs o k}:Zg (.rp cs o) k=k (.rp cs o):=(rfl)
theorem Uh{j i f k}:Zg (.op j i f) k=k (.op j i f):=(rfl)
def afF(G:Option Bool)(x:AV)(i:Nat)(k:AV->Prop):Prop:=match x with
 | .tup vs=>(gt G->i<vs.length)/\k (vs.getD i .any)
 | _=>False
@[congr] theorem wtup_c {G x x' i k} (h:x=x'):afF G x i k=afF G x' i k:=h▸rfl
theorem Tg{G vs i k}:afF G (.tup vs) i k=((gt G->i<vs.length)/\k (vs.getD i .any)):=(rfl)
def UJ(P:Program)(d:Option Tmp)(t:TypeId)(a:AV)(cs:List AV)(ρ:Env)(H:aJ)(K:Env->aJ->Prop):Prop:=tV P ⟨d,.move (.tmp 0),0,"",#[],none⟩ t a cs ρ H K
@[congr] theorem wput_c {P d t a a' cs cs' ρ H K} (h:a=a') (h':cs=cs'):UJ P d t a cs ρ H K=UJ P d t a' cs' ρ H K:=h▸h'▸rfl
def J8(P:Program)(d:Option Tmp)(t:TypeId)(s x:AV)(ρ:Env)(H:aJ)(K:Env->aJ->Prop):Prop:=tO P ⟨d,.move (.tmp 0),0,"",#[],none⟩ t s x ρ H K
@[congr] theorem wapp_c {P d t s s' x x' ρ H K} (h:s=s') (h':x=x'):J8 P d t s x ρ H K=J8 P d t s' x' ρ H K:=h▸h'▸rfl
def MX(P:Program)(d:Option Tmp)(t:TypeId)(l c:AV)(ρ:Env)(H:aJ)(K:Env->aJ->Prop):Prop:=sV P ⟨d,.move (.tmp 0),0,"",#[],none⟩ t l c ρ H K
@[congr] theorem wmake_c {P d t s s' x x' ρ H K} (h:s=s') (h':x=x'):MX P d t s x ρ H K=MX P d t s' x' ρ H K:=h▸h'▸rfl
def NX(P:Program)(d:Option Tmp)(t:TypeId)(x y:AV)(ρ:Env)(H:aJ)(K:Env->aJ->Prop):Prop:=Uw P ⟨d,.move (.tmp 0),0,"",#[],none⟩ t x y ρ H K
@[congr] theorem wcopy_c {P d t s s' x x' ρ H K} (h:s=s') (h':x=x'):NX P d t s x ρ H K=NX P d t s' x' ρ H K:=h▸h'▸rfl
theorem adA{P:Program}{d:Option Tmp}{t:TypeId}{x y:AV}{ρ:Env}{H:aJ}{K:Env->aJ->Prop}{e:TypeId}{sz E j a n:Nat}{r:Row}{news:List (List AV)}(he:bY P t=some (e,sz,E))(J:H j=some r)
   (Y:(x=.os j/\a=0/\n=r.es.length)\/∃b,x=.oz j a b/\n=b-a) (Z:y=.sl news\/(∃i r',y=.os i/\H i=some r'/\r'.es=news)\/∃i r' p q,y=.oz i p q/\H i=some r'/\(r'.es.take q).drop p=news)
   (h1:r.sz=sz) (X:cZ sz news) (h:K (upd ρ d (.v (.int .i64 (min news.length n:Nat)))) (aI H j (some { r with es:=r.es.take a++news.take (min news.length n)++r.es.drop (a+min news.length n) }))):NX P d t x y ρ H K:=by
 unfold NX Uw;have O:∀F:List (List AV)->Prop,F news->xV H y F:=by
   intro F I;rcases Z with rfl|⟨i,r',rfl,hi,rfl⟩|⟨i,r',p,q,rfl,hi,rfl⟩
   . exact I
   . simp only[xV,hi];exact I
   . simp only[xV,hi];exact I
 have ht:∀F:Nat->Nat->Nat->Row->Prop,F j a n r->G4 H x F:=by
   intro F I;rcases Y with⟨rfl,rfl,rfl⟩|⟨b,rfl,rfl⟩
   . simp only[G4,J];exact I
   . simp only[G4,J];exact I
 refine ht _ (O _ ?_);simp only[he];exact⟨⟨h1,X⟩,h⟩
def Fl(P:Program)(d:Option Tmp)(t:TypeId)(x:AV)(ρ:Env)(H:aJ)(K:Env->aJ->Prop):Prop:=JW P ⟨d,.move (.tmp 0),0,"",#[],none⟩ t x ρ H K
@[congr] theorem wclear_c {P d t s s' ρ H K} (h:s=s'):Fl P d t s ρ H K=Fl P d t s' ρ H K:=h▸rfl
theorem YK{P:Program}{d:Option Tmp}{t:TypeId}{x:AV}{ρ:Env}{H:aJ}{K:Env->aJ->Prop}{e:TypeId}{sz E j a n:Nat}{r:Row}{O:List AV}(he:bY P t=some (e,sz,E))(Y:dR P e=some O)(J:H j=some r)
   (Z:(x=.os j/\a=0/\n=r.es.length)\/∃b,x=.oz j a b/\n=b-a) (h1:r.sz=sz) (h:K (upd ρ d .any) (aI H j (some { r with es:=r.es.take a++List.replicate n O++r.es.drop (a+n) }))):Fl P d t x ρ H K:=by
 unfold Fl JW;have X:∀F:Nat->Nat->Nat->Row->Prop,F j a n r->G4 H x F:=by
   intro F I;rcases Z with⟨rfl,rfl,rfl⟩|⟨b,rfl,rfl⟩
   . simp only[G4,J];exact I
   . simp only[G4,J];exact I
 refine X _ ?_;simp only[he,Y];exact⟨h1,h⟩
theorem SO{P:Program}{d:Option Tmp}{t:TypeId}{es:List (List AV)}{x:AV}{ρ:Env}{H:aJ}{K:Env->aJ->Prop}{e:TypeId}{sz E:Nat}{news:List (List AV)}(O:bY P t=some (e,sz,E))
   (X:x=.sl news\/∃i r',x=.os i/\H i=some r'/\r'.es=news) (h0:news≠[]) (h1:cZ sz es) (I:cZ sz news) (J:(es.length+news.length)*E<=140737488355328)
   (h:∀F,H F=none->K (upd ρ d (.os F)) (aI H F (some ⟨e,sz,es++news⟩))):J8 P d t (.cl es) x ρ H K:=by
 unfold J8 tO;simp only[O];rcases X with rfl|⟨i,r',rfl,hi,rfl⟩
 . exact⟨⟨h0,h1,I,J⟩,h⟩
 . simp only[xV,hi]
   exact⟨⟨h0,h1,I,J⟩,h⟩
theorem Zx{P:Program}{d:Option Tmp}{t:TypeId}{x:AV}{ρ:Env}{H:aJ}{K:Env->aJ->Prop}{e:TypeId}{sz E:Nat}{news:List (List AV)}(O:bY P t=some (e,sz,E))
   (X:x=.sl news\/∃i r',x=.os i/\H i=some r'/\r'.es=news) (h0:news≠[]) (I:cZ sz news) (J:news.length*E<=140737488355328)
   (h:∀F,H F=none->K (upd ρ d (.os F)) (aI H F (some ⟨e,sz,news⟩))):J8 P d t (.v (.slice none 0 0)) x ρ H K:=by
 unfold J8 tO;simp only[O];rcases X with rfl|⟨i,r',rfl,hi,rfl⟩
 . exact⟨⟨h0,trivial,I,by simpa using J⟩,h⟩
 . simp only[xV,hi]
   exact⟨⟨h0,trivial,I,by simpa using J⟩,h⟩
theorem aN{H:aJ}{r:Row}{F:Nat->aJ->Prop}(h:∀j,H j=none->F j (aI H j (some r))):pO H r F:=h
def bJ{α:Type}(o:Option α)(f:α->Prop):Prop:=match o with|some x=>f x|none=>False
theorem F4{α:Type}{x:α}{f:α->Prop}:bJ (some x) f=f x:=(rfl)
@[congr] theorem withO_c {α:Type} {o o':Option α} {f:α->Prop} (h:o=o'):bJ o f=bJ o' f:=h▸rfl
section
variable{P:Program}{C:lW}{PC:FuncId->List AV->aJ->AV->Prop}{mt:Nat->Bool}{q:Bool}{ops:Array Oper}{d:Option Tmp}{ty:TypeId}{pos:String}{aft:Array Edge}{ρ:Env}{H:aJ}{K:Env->aJ->Prop}{G:Option Bool}{k:AV->Prop}
theorem Ur{t}:aev ρ (.tmp t)=ρ t:=(rfl)
theorem Jn{v}:aev ρ (.const v)=qV v:=(rfl)
theorem ON{f}:aev ρ (.func f)=.v (.func (.func f) #[] #[]):=(rfl)
theorem NG{t n a b}:gV P G .add t (.v (.int n a)) (.v (.int n b)) k=k (.v (.int n (n.wrap (a+b)))):=by simp[gV,wH]
theorem MK{t n a b}:gV P G .sub t (.v (.int n a)) (.v (.int n b)) k=k (.v (.int n (n.wrap (a-b)))):=by simp[gV,wH]
theorem OJ{t n a b}:gV P G .mul t (.v (.int n a)) (.v (.int n b)) k=k (.v (.int n (n.wrap (a*b)))):=by simp[gV,wH]
theorem OI{t n a b}:gV P G .quo t (.v (.int n a)) (.v (.int n b)) k=((gt G->b≠0)/\k (.v (.int n (n.wrap (a.tdiv b))))):=by simp[gV,wH]
theorem Nm{t n a b}:gV P G .rem t (.v (.int n a)) (.v (.int n b)) k=((gt G->b≠0)/\k (.v (.int n (a.tmod b)))):=by simp[gV,wH]
theorem Mg{t n a b}:gV P G .eql t (.v (.int n a)) (.v (.int n b)) k=k (.v (.bool (a == b))):=by simp[gV,wH]
theorem O5{t n a b}:gV P G .neq t (.v (.int n a)) (.v (.int n b)) k=k (.v (.bool (a != b))):=by simp[gV,wH]
theorem Ng{t n a b}:gV P G .lss t (.v (.int n a)) (.v (.int n b)) k=k (.v (.bool (decide (a<b)))):=by simp[gV,wH]
theorem MO{t n a b}:gV P G .leq t (.v (.int n a)) (.v (.int n b)) k=k (.v (.bool (decide (a<=b)))):=by simp[gV,wH]
theorem MF{t n a b}:gV P G .gtr t (.v (.int n a)) (.v (.int n b)) k=k (.v (.bool (decide (a>b)))):=by simp[gV,wH]
theorem Pp{t n a b}:gV P G .geq t (.v (.int n a)) (.v (.int n b)) k=k (.v (.bool (decide (a>=b)))):=by simp[gV,wH]
theorem Ov{t n m a b}:gV P G .shl t (.v (.int n a)) (.v (.int m b)) k=((gt G->0<=b)/\k (.v (.int n (shV .shl n a b)))):=by simp[gV,wH]
theorem NT{t n m a b}:gV P G .shr t (.v (.int n a)) (.v (.int m b)) k=((gt G->0<=b)/\k (.v (.int n (shV .shr n a b)))):=by simp[gV,wH]
theorem NA{t n a b}:gV P G .and t (.v (.int n a)) (.v (.int n b)) k=k (.v (.int n (pX .and n a b))):=by simp[gV,wH]
theorem Tv{t n a b}:gV P G .or t (.v (.int n a)) (.v (.int n b)) k=k (.v (.int n (pX .or n a b))):=by simp[gV,wH]
theorem N0{t n a b}:gV P G .xor t (.v (.int n a)) (.v (.int n b)) k=k (.v (.int n (pX .xor n a b))):=by simp[gV,wH]
theorem DZ{t n a b}:gV P G .andNot t (.v (.int n a)) (.v (.int n b)) k=k (.v (.int n (pX .andNot n a b))):=by simp[gV,wH]
theorem HE{op t x}:gV P G op t (.v x) .any k=((gt G->False)/\k .any):=by cases x <;> rfl
theorem Is{op t x}:gV P G op t .any (.v x) k=((gt G->False)/\k .any):=by cases x <;> rfl
theorem Ia{x}:vK false .any (.v x)=.v x:=by cases x <;> rfl
theorem EQ{x}:vK true (.v x) .any=.v x:=by cases x with
 | bool b=>cases b <;> rfl
 | _=>rfl
theorem Ig{t a b}:gV P G .add t (.v (.string a)) (.v (.string b)) k=((gt G->((a.size+b.size:Nat):Int)<=IntKind.i64.max)/\k (.v (.string (a++b)))):=(rfl)
theorem HJ{t a b}:gV P G .eql t (.v (.string a)) (.v (.string b)) k=k (.v (.bool (a.toList == b.toList))):=(rfl)
theorem ID{t a b}:gV P G .neq t (.v (.string a)) (.v (.string b)) k=k (.v (.bool !(a.toList == b.toList))):=(rfl)
theorem I6{t a b}:gV P G .eql t (.v (.bool a)) (.v (.bool b)) k=if Aj P t then k (.v (.bool (a == b)))else False:=(rfl)
theorem IM{t a b}:gV P G .neq t (.v (.bool a)) (.v (.bool b)) k=if Aj P t then k (.v (.bool !(a == b)))else False:=(rfl)
theorem HV{t x y}:gV P G .eql t (.agg x) (.agg y) k=bJ (xP P t) fun l=>bJ (iH l x y) fun b=>k (.v (.bool b)):=by
 cases h1:xP P t with
 | none=>simp[gV,bJ,h1]
 | some l=>cases E:iH l x y <;> simp[gV,bJ,h1,E]
theorem Hy{t x y}:gV P G .neq t (.agg x) (.agg y) k=bJ (xP P t) fun l=>bJ (iH l x y) fun b=>k (.v (.bool !b)):=by
 cases h1:xP P t with
 | none=>simp[gV,bJ,h1]
 | some l=>cases E:iH l x y <;> simp[gV,bJ,h1,E]
theorem MQ{c x y}:Az G c (.v x) (.v y) k=k (vK c (.v x) (.v y)):=(rfl)
theorem Mn{c x g y}:Az G c (.v x) (.gd g y) k=((gt G->c=false->g=true)/\k (vK c (.v x) y)):=(rfl)
theorem NJ{c g x y}:Az G c (.gd g x) (.v y) k=((gt G->c=true->g=true)/\k (vK c x (.v y))):=(rfl)
theorem Ui{c b}:vK c (.v (.bool true)) (.v (.bool b))=.v (.bool (c||b)):=(rfl)
theorem SS{c a}:vK c (.v (.bool a)) (.v (.bool false))=.v (.bool (c&&a)):=by cases a <;> cases c <;> rfl
theorem In{cs o}:oJ G H none (.rp cs o) k=((gt G->o<cs.length)/\k (cs.getD o .any)):=(rfl)
theorem Hn{cs o n}:oJ G H (some n) (.rp cs o) k=((gt G->o+n<=cs.length)/\k (.agg ((cs.drop o).take n))):=(rfl)
theorem I1{j i f}:oJ G H none (.op j i f) k=bJ (H j) fun r=>(gt G->i<r.es.length/\f<r.sz)/\k ((r.es.getD i []).getD f .any):=by
 cases h1:H j <;> simp[oJ,bJ,h1]
theorem Jt{j i f n}:oJ G H (some n) (.op j i f) k=bJ (H j) fun r=>(gt G->i<r.es.length/\f+n<=r.sz)/\k (.agg (((r.es.getD i []).drop f).take n)):=by
 cases h1:H j <;> simp[oJ,bJ,h1]
theorem S1{o cs}:apart G o none (.agg cs) k=((gt G->o<cs.length)/\k (cs.getD o .any)):=(rfl)
theorem Uo{o n cs}:apart G o (some n) (.agg cs) k=((gt G->o+n<=cs.length)/\k (.agg ((cs.drop o).take n))):=(rfl)
theorem TK{t es}:G7 P H t (.sl es) k=if cT P t then k (.v (.int .i64 es.length))else False:=(rfl)
theorem S4{t j}:G7 P H t (.os j) k=bJ (H j) fun r=>if cT P t then k (.v (.int .i64 r.es.length))else False:=by
 cases h1:H j <;> simp[G7,bJ,h1]
theorem S9{t s}:G7 P H t (.v (.string s)) k=if eI P t then k (.v (.int .i64 s.size))else False:=(rfl)
theorem Ay{t es n i}:gE P G H t (.sl es) (.v (.int n i)) k=bJ (bY P t) fun e=>(gt G->(0<=i/\i<es.length)/\(es.getD i.toNat []).length=e.2.1)/\k (.rp (es.getD i.toNat []) 0):=by
 cases h1:bY P t <;> simp[gE,bJ,h1]
theorem AQ{t j n i}:gE P G H t (.os j) (.v (.int n i)) k=bJ (H j) fun r=>bJ (bY P t) fun e=>(gt G->(0<=i/\i<r.es.length)/\r.sz=e.2.1)/\k (.op j i.toNat 0):=by
 cases h1:H j <;> cases E:bY P t <;> simp[gE,bJ,h1,E]
theorem AC{t cs o n i}:gE P G H t (.rp cs o) (.v (.int n i)) k=bJ (uP P t) fun e=>(gt G->0<=i/\i<e.1)/\k (.rp cs (o+i.toNat*e.2.1)):=by
 cases h1:uP P t <;> simp[gE,bJ,h1]
theorem AP{t j a o n i}:gE P G H t (.op j a o) (.v (.int n i)) k=bJ (uP P t) fun e=>(gt G->0<=i/\i<e.1)/\k (.op j a (o+i.toNat*e.2.1)):=by
 cases h1:uP P t <;> simp[gE,bJ,h1]
theorem AG{t f cs o}:kE P t f (.rp cs o) k=bJ (aP P t f) fun e=>k (.rp cs (o+e.1)):=by
 cases h1:aP P t f <;> simp[kE,bJ,h1]
theorem AL{t f j i o}:kE P t f (.op j i o) k=bJ (aP P t f) fun e=>k (.op j i (o+e.1)):=by
 cases h1:aP P t f <;> simp[kE,bJ,h1]
theorem Uf{b}:aun .not (.v (.bool b)) k=k (.v (.bool !b)):=(rfl)
theorem Tx{n i}:aun .neg (.v (.int n i)) k=k (.v (.int n (n.wrap (0-i)))):=(rfl)
theorem Jr{s t n i}:xM P s t (.v (.int n i)) k=bJ (GD P t) fun m=>bJ (GD P s) fun _=>k (.v (.int m (m.wrap i))):=by
 cases h1:GD P t <;> cases E:GD P s <;> simp[xM,bJ,h1,E]
theorem Ib{s t x}:xM P s t (.v (.string x)) k=if eI P s/\eI P t then k (.v (.string x))else False:=(rfl)
theorem Na{s t es}:xM P s t (.sl es) k=if CU P s/\eI P t then bJ (rF es) fun F=>k (.v (.string (strOfNums F)))else False:=by
 by_cases E:CU P s/\eI P t
 . cases h1:rF es <;> simp[xM,bJ,E,h1]
 . simp[xM,E]
theorem Jz{t es n a m b}:mX P G t (.sl es) (some (.v (.int n a))) (some (.v (.int m b))) k=bJ (bY P t) fun e=>(gt G->(0<=a/\a<=b/\b<=es.length)/\cZ e.2.1 es)/\k (.sl ((es.take b.toNat).drop a.toNat)):=by
 cases h1:bY P t <;> simp[mX,bJ,h1]
theorem Nj{t es n a}:mX P G t (.sl es) (some (.v (.int n a))) none k=bJ (bY P t) fun e=>(gt G->(0<=a/\a<=es.length)/\cZ e.2.1 es)/\k (.sl (es.drop a.toNat)):=by
 cases h1:bY P t <;> simp[mX,bJ,h1]
theorem MD{t es m b}:mX P G t (.sl es) none (some (.v (.int m b))) k=bJ (bY P t) fun _=>(gt G->0<=b/\b<=es.length)/\k (.sl (es.take b.toNat)):=by
 cases h1:bY P t <;> simp[mX,bJ,h1]
theorem Gl{t s n a m b}:mX P G t (.v (.string s)) (some (.v (.int n a))) (some (.v (.int m b))) k=if eI P t then(gt G->0<=a/\a<=b/\b<=s.size)/\k (.v (.string (s.extract a.toNat b.toNat)))else False:=(rfl)
theorem Io{t s n a}:mX P G t (.v (.string s)) (some (.v (.int n a))) none k=if eI P t then(gt G->0<=a/\a<=s.size)/\k (.v (.string (s.extract a.toNat s.size)))else False:=(rfl)
theorem It{t s m b}:mX P G t (.v (.string s)) none (some (.v (.int m b))) k=if eI P t then(gt G->0<=b/\b<=s.size)/\k (.v (.string (s.extract 0 b.toNat)))else False:=(rfl)
theorem LP{P:Program}{t es n m}{a b:Int}:D3 P G t (.sl es) (.v (.int n a)) (.v (.int m b)) k=bJ (bY P t) fun _=>(gt G->a=es.length/\b=es.length)/\k (.cl es):=by
 unfold D3 bJ;cases bY P t <;> rfl
@[congr] theorem aclip_c {P:Program} {t x x' a a' b b'} (h:x=x') (h1:a=a') (h2:b=b'):D3 P G t x a b k=D3 P G t x' a' b' k:=h▸h1▸h2▸rfl
theorem JF{t s n i}:wP P G t (.v (.string s)) (.v (.int n i)) k=if eI P t then(gt G->0<=i/\i<s.size)/\k (.v (.int .u8 ((s.data.getD i.toNat 0).toNat:Int)))else False:=(rfl)
theorem Jf{t cs n i}:wP P G t (.agg cs) (.v (.int n i)) k=bJ (uP P t) fun e=>(gt G->0<=i/\i<e.1)/\apart G (i.toNat*e.2.1) e.2.2 (.agg cs) k:=by
 cases h1:uP P t <;> simp[wP,bJ,h1]
theorem FG{cs}{k:List AV->Prop}:mV (.agg cs) k=k cs:=(rfl)
theorem Mw{v}{k:List AV->Prop}:mV (.v v) k=(v.oneCell'=true/\k [.v v]):=(rfl)
theorem IS{es}{k:List AV->Prop}:mV (.sl es) k=k [.sl es]:=(rfl)
theorem I8{cs o}{k:List AV->Prop}:mV (.rp cs o) k=k [.rp cs o]:=(rfl)
theorem JL{j}{k:List AV->Prop}:mV (.os j) k=k [.os j]:=(rfl)
theorem IQ{j i f}{k:List AV->Prop}:mV (.op j i f) k=k [.op j i f]:=(rfl)
theorem Il{t l}:vY P t l k=bJ (dR P t) fun z=>bJ (eJ P t) fun E=>bJ (rJ E z l) fun cs=>k (.agg cs):=by
 cases h1:dR P t with
 | none=>simp[vY,bJ,h1]
 | some z=>cases F:eJ P t with
   | none=>simp[vY,bJ,h1,F]
   | some E=>cases I:rJ E z l <;> simp[vY,bJ,h1,F,I]
def wgd(x:AV)(w:Bool)(F:Option Bool->Prop):Prop:=match x with
 | .v (.bool b)=>F (some (b == w))
 | .gd g (.v (.bool b))=>F (some (g&&(b == w)))
 | _=>False
@[congr] theorem wgd_c {x x' w F} (h:x=x'):wgd x w F=wgd x' w F:=h▸rfl
theorem alA{b w F}:wgd (.v (.bool b)) w F=F (some (b == w)):=(rfl)
theorem akE{g b w F}:wgd (.gd g (.v (.bool b))) w F=F (some (g&&(b == w))):=(rfl)
theorem Eb{F}:cG ops ρ none F=F none:=(rfl)
theorem DX{j w F}:cG ops ρ (some (j,w)) F=bJ ((ops[j]?).bind (·.dst)) fun t=>wgd (ρ t) w F:=by
 cases h1:(ops[j]?).bind (·.dst)with
 | none=>simp[cG,bJ,h1]
 | some t=>simp only[cG,bJ,h1,wgd]
def mO(K:Env->aJ->Prop)(ρ:Env)(d:Option Tmp)(G:Option Bool)(H:aJ)(x:AV):Prop:=K (upd ρ d (wr G x)) H
theorem Jb{x}:mO K ρ d none H x=K (upd ρ d x) H:=(rfl)
theorem IA{b x}:mO K ρ d (some b) H x=K (upd ρ d (.gd b x)) H:=(rfl)
end
section
variable{P:Program}{C:lW}{PC:FuncId->List AV->aJ->AV->Prop}{mt:Nat->Bool}{q:Bool}{ops:Array Oper}{d:Option Tmp}{ty:TypeId}{pos:String}{aft:Array Edge}{gd:Option (Nat×Bool)}{ρ:Env}{H:aJ}{K:Env->aJ->Prop}
theorem Xq{x}:aop P C PC mt q ops ⟨d,.move x,ty,pos,aft,gd⟩ ρ H K=cG ops ρ gd fun G=>if rO mt d=true then G=none/\q=false/\Ak x ρ d H K else bR G (aev ρ x) (mO K ρ d G H):=(rfl)
theorem YO{c a b}:aop P C PC mt q ops ⟨d,.pick c a b,ty,pos,aft,gd⟩ ρ H K=cG ops ρ gd fun G=>bR G (aev ρ c) fun x=>wpick G x (aev ρ a) (aev ρ b) (mO K ρ d G H):=(rfl)
theorem Wm{t l}: aop P C PC mt q ops ⟨d, .build t l, ty, pos, aft, gd⟩ ρ H K = cG ops ρ gd fun G => if rO mt d = true then G = none /\ (if q = true then pZ none ρ l.toList (fun l => bJ (dR P t) fun z => bJ (eJ P t) fun E => bJ (qG P t) fun nl => bJ (rJ E (Ho nl z) l) fun cs => mO K ρ d none H (.agg cs)) else
     pZ none ρ l.toList (fun l=>bJ (dR P t) fun z=>bJ (eJ P t) fun E=>bJ (qG P t) fun nl=>kM nl z H fun z H=>bJ (rJ E z l) fun cs=>mO K ρ d none H (.agg cs)))
   else pZ G ρ l.toList fun l=>vY P t l (mO K ρ d G H):=by
 show cG ops ρ gd (fun G=>if rO mt d=true then G=none/\(if q=true then Aa P ⟨d,.build t l,ty,pos,aft,gd⟩ t l.toList ρ H K else BG P ⟨d,.build t l,ty,pos,aft,gd⟩ t l.toList ρ H K)else _)=_
 congr 1;funext G;congr 3
 . unfold Aa
   congr 1;funext l
   cases h1:dR P t with
   | none=>simp[bJ]
   | some z=>cases J:eJ P t with
     | none=>simp[bJ]
     | some E=>cases I:qG P t with
       | none=>simp[bJ]
       | some nl=>simp only[bJ];cases F:rJ E (Ho nl z) l <;> rfl
 unfold BG
 congr 1;funext l
 cases h1:dR P t with
 | none=>simp[bJ]
 | some z=>cases J:eJ P t with
   | none=>simp[bJ]
   | some E=>cases I:qG P t with
     | none=>simp[bJ]
     | some nl=>simp only[bJ];congr 1;funext z H;cases F:rJ E z l <;> rfl
theorem Z8{t x}:aop P C PC mt q ops ⟨d,.load t x,ty,pos,aft,gd⟩ ρ H K=cG ops ρ gd fun G=>if rO mt d=true then G=none/\q=false/\bJ (ldT P t) fun l=>bR none (aev ρ x) fun y=>oJ none H l y fun z=>Hg z ρ d H K else bJ (ldT P t) fun l=>bR G (aev ρ x) fun y=>oJ G H l y (mO K ρ d G H):=by
 show cG ops ρ gd (fun G=>if rO mt d=true then G=none/\q=false/\iA P none ρ H (.load t x) fun z=>Hg z ρ d H K else iA P G ρ H (.load t x) (mO K ρ d G H))=_
 congr 1;funext G;cases h1:ldT P t <;> simp[iA,bJ,h1]
theorem K7{x}:aop P C PC mt q ops ⟨d,.nilCheck x,ty,pos,aft,gd⟩ ρ H K=cG ops ρ gd fun G=>bR G (aev ρ x) fun y=>Zg y (mO K ρ d G H):=(rfl)
theorem aiO{op t x y t'}:aop P C PC mt q ops ⟨d,.binOp op t x y t',ty,pos,aft,gd⟩ ρ H K=cG ops ρ gd fun G=>if sY y=true then bR G (aev ρ x) fun x=>cT P t=true/\rG op x (mO K ρ d G H)else bR G (aev ρ x) fun x=>bR G (aev ρ y) fun y=>gV P G op t x y (mO K ρ d G H):=(rfl)
theorem anX{op t x}:aop P C PC mt q ops ⟨d,.unOp op t x,ty,pos,aft,gd⟩ ρ H K=cG ops ρ gd fun G=>bR G (aev ρ x) fun x=>aun op x (mO K ρ d G H):=(rfl)
theorem WK{s t x}:aop P C PC mt q ops ⟨d,.convert s t x,ty,pos,aft,gd⟩ ρ H K=cG ops ρ gd fun G=>bR G (aev ρ x) fun x=>xM P s t x (mO K ρ d G H):=(rfl)
theorem K5{t x lo hi}:aop P C PC mt q ops ⟨d,.slice t x (some lo) (some hi) none,ty,pos,aft,gd⟩ ρ H K=cG ops ρ gd fun G=>bR G (aev ρ x) fun x=>bR G (aev ρ lo) fun lo=>bR G (aev ρ hi) fun hi=>asl P G H t x (some lo) (some hi) (mO K ρ d G H):=(rfl)
theorem NH{t x hi m}:aop P C PC mt q ops ⟨d,.slice t x none (some hi) (some m),ty,pos,aft,gd⟩ ρ H K=cG ops ρ gd fun G=>bR G (aev ρ x) fun x=>bR G (aev ρ hi) fun hi=>bR G (aev ρ m) fun m=>D3 P G t x hi m (mO K ρ d G H):=(rfl)
theorem MN{t x lo}:aop P C PC mt q ops ⟨d,.slice t x (some lo) none none,ty,pos,aft,gd⟩ ρ H K=cG ops ρ gd fun G=>bR G (aev ρ x) fun x=>bR G (aev ρ lo) fun lo=>asl P G H t x (some lo) none (mO K ρ d G H):=(rfl)
theorem OC{t x hi}:aop P C PC mt q ops ⟨d,.slice t x none (some hi) none,ty,pos,aft,gd⟩ ρ H K=cG ops ρ gd fun G=>bR G (aev ρ x) fun x=>bR G (aev ρ hi) fun hi=>asl P G H t x none (some hi) (mO K ρ d G H):=(rfl)
theorem G6{t x f}:aop P C PC mt q ops ⟨d,.fieldAddr t x f,ty,pos,aft,gd⟩ ρ H K=cG ops ρ gd fun G=>bR G (aev ρ x) fun x=>kE P t f x (mO K ρ d G H):=(rfl)
theorem VC{t x f}:aop P C PC mt q ops ⟨d,.field t x f,ty,pos,aft,gd⟩ ρ H K=cG ops ρ gd fun G=>bJ (aP P t f) fun e=>bR G (aev ρ x) fun x=>apart G e.1 e.2 x (mO K ρ d G H):=by
 show cG ops ρ gd (fun G=>iA P G ρ H (.field t x f) (mO K ρ d G H))=_
 congr 1;funext G;cases h1:aP P t f <;> simp[iA,bJ,h1]
theorem GO{t x i}:aop P C PC mt q ops ⟨d,.indexAddr t x i,ty,pos,aft,gd⟩ ρ H K=cG ops ρ gd fun G=>bR G (aev ρ x) fun x=>bR G (aev ρ i) fun i=>gE P G H t x i (mO K ρ d G H):=(rfl)
theorem VE{t x i}:aop P C PC mt q ops ⟨d,.index t x i,ty,pos,aft,gd⟩ ρ H K=cG ops ρ gd fun G=>bR G (aev ρ x) fun x=>bR G (aev ρ i) fun i=>wP P G t x i (mO K ρ d G H):=(rfl)
theorem OO{x i}:aop P C PC mt q ops ⟨d,.extract x i,ty,pos,aft,gd⟩ ρ H K=cG ops ρ gd fun G=>bR G (aev ρ x) fun x=>afF G x i (mO K ρ d G H):=(rfl)
theorem Qi{x}:aop P C PC mt q ops ⟨d,.assign x,ty,pos,aft,gd⟩ ρ H K=cG ops ρ gd fun G=>if rO mt d=true/\G=none/\q=false/\sY x=true then bJ (bY P ty) fun e=>pO H ⟨e.1,e.2.1,[]⟩ (TV K ρ d)else bR G (aev ρ x) (mO K ρ d G H):=by
 show cG ops ρ gd (fun G=>CF P mt q G ⟨d,.assign x,ty,pos,aft,gd⟩ x ρ H K)=_
 congr 1;funext G
 unfold CF;cases h1:bY P ty <;> rfl
theorem UK{t}:aop P C PC mt q ops ⟨d,.alloc t,ty,pos,aft,gd⟩ ρ H K=cG ops ρ gd fun G=>bJ (dR P t) fun z=>G=none/\q=false/\(if rO mt d=true then bJ (qG P t) fun nl=>kM nl z H fun z H=>pO H ⟨t,z.length,[z]⟩ (TT K ρ d)else pO H ⟨t,z.length,[z]⟩ (TT K ρ d)):=by
 show cG ops ρ gd (fun G=>match dR P t with
   | some z => G = none /\ q = false /\ (if rO mt d = true then match qG P t with
       | some nl=>kM nl z H fun z H=>pO H ⟨t,z.length,[z]⟩ fun k H'=>K (upd ρ d (.op k 0 0)) H'
       | none=>False
     else pO H ⟨t,z.length,[z]⟩ fun k H'=>K (upd ρ d (.op k 0 0)) H')
   | none=>False)=_
 congr 1;funext G;cases h1:dR P t <;> cases E:qG P t <;> rfl
theorem ajU{t x}:aop P C PC mt q ops ⟨d,.box t x,ty,pos,aft,gd⟩ ρ H K=cG ops ρ gd fun G=>G=none/\q=false/\bR G (aev ρ x) fun x=>mV x fun cs=>
 if rO mt d=true then 0<cs.length/\pO H ⟨t,cs.length,[cs]⟩ (TT K ρ d)else K (upd ρ d (.rp cs 0)) H:=(rfl)
theorem Gm{t n l}:aop P C PC mt q ops ⟨d,.buildSlice t n l,ty,pos,aft,gd⟩ ρ H K=cG ops ρ gd fun G=>q=false/\pZ G ρ l.toList fun l=>bJ (bY P t) fun e=>
   (l.map (·.1)=KE 0 n/\cZ e.2.1 (l.map (·.2))/\n*e.2.1<=16777216)/\(if rO mt d=true/\G=none then pO H ⟨e.1,e.2.1,l.map (·.2)⟩ (TV K ρ d)else mO K ρ d G H (.sl (l.map (·.2)))):=by
 show cG ops ρ gd (fun G=>q=false/\pZ G ρ l.toList fun l'=>nT P mt G ⟨d,.buildSlice t n l,ty,pos,aft,gd⟩ t n l' ρ H K)=_
 congr 1;funext G;congr 2;funext l;unfold nT;cases h1:bY P t <;> rfl
theorem Wj{t x y}:aop P C PC mt q ops ⟨d,.store t x y,ty,pos,aft,gd⟩ ρ H K=cG ops ρ gd fun G=>G=none/\q=false/\(if sY y=true then bR G (aev ρ x) fun x=>bJ (bY P t) fun e=>pO H ⟨e.1,e.2.1,[]⟩ (fun j H=>UJ P d t x [.os j] ρ H K)else bR G (aev ρ x) fun x=>bR G (aev ρ y) fun y=>mV y fun cs=>UJ P d t x cs ρ H K):=by
 show cG ops ρ gd (fun G => G = none /\ q = false /\ (if sY y = true then bR G (aev ρ x) fun a => match bY P t with
       | some (e,sz,_)=>pO H ⟨e,sz,[]⟩ fun k H=>tV P _ t a [.os k] ρ H K
       | none=>False
     else bR G (aev ρ x) fun a=>bR G (aev ρ y) fun x=>mV x fun cs=>tV P _ t a cs ρ H K))=_
 congr 1;funext G;congr 4;funext a
 cases h1:bY P t <;> rfl
theorem WV:yT P C PC mt ops K [] ρ H=K ρ H:=(rfl)
theorem aoZ{k f}:yT P C PC mt ops K ((k,true)::f) ρ H=bJ ops[k]? fun o=>aop P C PC mt true ops o ρ (qH o H) fun E _=>yT P C PC mt ops K f E H:=by
 cases h:ops[k]? <;> simp[yT,bJ,h]
theorem alC{k f}:yT P C PC mt ops K ((k,false)::f) ρ H=bJ ops[k]? fun o=>aop P C PC mt false ops o ρ H (yT P C PC mt ops K f):=by
 cases h:ops[k]? <;> simp[yT,bJ,h]
theorem Vg{Hp}:qY P C PC mt ops K Hp [] ρ H=K ρ H:=(rfl)
theorem aeF{Hp k f}:qY P C PC mt ops K Hp ((k,true)::f) ρ H=bJ ops[k]? fun o=>aop P C PC mt true ops o ρ Hp fun E _=>qY P C PC mt ops K Hp f E H:=by
 cases h:ops[k]? <;> simp[qY,bJ,h]
theorem adB{Hp k f}:qY P C PC mt ops K Hp ((k,false)::f) ρ H=bJ ops[k]? fun o=>aop P C PC mt false ops o ρ H (qY P C PC mt ops K Hp f):=by
 cases h:ops[k]? <;> simp[qY,bJ,h]
theorem alG{k}:AU P C PC mt q ops k ρ H K=bJ ops[k]? fun o=>aop P C PC mt q ops o ρ H K:=by
 cases h:ops[k]? <;> simp[AU,bJ,h]
theorem VT{Hp}:nD P C PC mt ops K Hp .nil ρ H=K ρ H:=(rfl)
theorem afT{Hp k t}:nD P C PC mt ops K Hp (.q k t) ρ H=AU P C PC mt true ops k ρ Hp fun E _=>nD P C PC mt ops K Hp t E H:=(rfl)
theorem ajD{Hp k t}:nD P C PC mt ops K Hp (.a1 k t) ρ H=AU P C PC mt false ops k ρ H (nD P C PC mt ops K Hp t):=(rfl)
theorem qO{Hp k t k' t'}(h:AU P C PC mt false ops k ρ H (nD P C PC mt ops K Hp t))(E:AU P C PC mt false ops k' ρ H (nD P C PC mt ops K Hp t')):nD P C PC mt ops K Hp (.a2 k t k' t') ρ H:=⟨h,E⟩
theorem Kr{f cap}:aop P C PC mt q ops ⟨d,.makeFunc (.func f) #[] cap,ty,pos,aft,gd⟩ ρ H K=cG ops ρ gd fun G=>AM G ρ cap.toList fun l=>mO K ρ d G H (.fn f l):=by
 show cG ops ρ gd (fun G=>iA P G ρ H (.makeFunc (.func f) #[] cap) (mO K ρ d G H))=_
 congr 1;funext G;simp[iA]
def akT(K:Env->aJ->Prop)(ρ:Env)(d:Option Tmp)(j:Nat)(H:aJ):Prop:=K (upd ρ d (.om j)) H
theorem OW{j}:akT K ρ d j H=K (upd ρ d (.om j)) H:=(rfl)
theorem RX{t x i ok}:aop P C PC mt q ops ⟨d,.lookup t x i ok,ty,pos,aft,gd⟩ ρ H K=cG ops ρ gd fun G=>bR G (aev ρ x) fun x=>bR G (aev ρ i) fun i=>tI P H t x i ok (mO K ρ d G H):=(rfl)
theorem L3{t}:aop P C PC mt q ops ⟨d,.makeMap t none,ty,pos,aft,gd⟩ ρ H K=cG ops ρ gd fun G=>G=none/\q=false/\pO H ⟨0,2,[]⟩ (akT K ρ d):=(rfl)
def I9(P:Program)(d:Option Tmp)(t:TypeId)(m x v:AV)(ρ:Env)(H:aJ)(K:Env->aJ->Prop):Prop:=mD P ⟨d,.move (.tmp 0),0,"",#[],none⟩ t m x v ρ H K
@[congr] theorem wmapU_c {P d t m m' x x' v v' ρ H K} (h0:m=m') (h1:x=x') (h2:v=v'):I9 P d t m x v ρ H K=I9 P d t m' x' v' ρ H K:=h0▸h1▸h2▸rfl
def YR(P:Program)(d:Option Tmp)(t:TypeId)(m x:AV)(ρ:Env)(H:aJ)(K:Env->aJ->Prop):Prop:=Ap P ⟨d,.move (.tmp 0),0,"",#[],none⟩ t m x ρ H K
@[congr] theorem wmapE_c {P d t m m' x x' ρ H K} (h0:m=m') (h1:x=x'):YR P d t m x ρ H K=YR P d t m' x' ρ H K:=h0▸h1▸rfl
def WS(d:Option Tmp)(m s v:AV)(ρ:Env)(H:aJ)(K:Env->aJ->Prop):Prop:=tP ⟨d,.move (.tmp 0),0,"",#[],none⟩ m s v ρ H K
@[congr] theorem wmapS_c {d m m' x x' v v' ρ H K} (h0:m=m') (h1:x=x') (h2:v=v'):WS d m x v ρ H K=WS d m' x' v' ρ H K:=h0▸h1▸h2▸rfl
@[congr] theorem alookup_c {P H t x x' i i' ok k} (h0:x=x') (h1:i=i'):tI P H t x i ok k=tI P H t x' i' ok k:=h0▸h1▸rfl
theorem GT{t m x v}:aop P C PC mt q ops ⟨d,.mapUpdate t m x v,ty,pos,aft,gd⟩ ρ H K=cG ops ρ gd fun G=>G=none/\q=false/\bR G (aev ρ m) fun m=>bR G (aev ρ x) fun x=>bR G (aev ρ v) fun v=>I9 P d t m x v ρ H K:=(rfl)
theorem RO{t m x v}:aop P C PC mt q ops ⟨d,.insert t m x v,ty,pos,aft,gd⟩ ρ H K=cG ops ρ gd fun G=>G=none/\q=false/\bR G (aev ρ m) fun m=>bR G (aev ρ x) fun x=>bR G (aev ρ v) fun v=>I9 P d t m x v ρ H K:=(rfl)
theorem Ky{t m x}:aop P C PC mt q ops ⟨d,.mapEntry t m x,ty,pos,aft,gd⟩ ρ H K=cG ops ρ gd fun G=>G=none/\q=false/\bR G (aev ρ m) fun m=>bR G (aev ρ x) fun x=>YR P d t m x ρ H K:=(rfl)
theorem F6{t m s v}:aop P C PC mt q ops ⟨d,.entryStore t m s v,ty,pos,aft,gd⟩ ρ H K=cG ops ρ gd fun G=>G=none/\q=false/\bR G (aev ρ m) fun m=>bR G (aev ρ s) fun s=>bR G (aev ρ v) fun v=>WS d m s v ρ H K:=(rfl)
theorem Ix{t j key ok k r kt oi z}(E:H j=some r)(J:Rz P t=some kt)(I:qU P kt.1 key=true)(F:zU (xL P kt.1 key) r.es 0=some oi)(O:Ji P kt.2=some z)(h:k (KA ok z r.es oi)):tI P H t (.om j) key ok k:=by
 unfold tI DB;simp only[E,J,F,O];exact⟨I,h⟩
theorem adZ{t j key v r kt oi}(E:H j=some r)(J:Rz P t=some kt)(I:qU P kt.1 key=true)(F:zU (xL P kt.1 key) r.es 0=some oi)(h:K (upd ρ d .any) (aI H j (some { r with es:=aeI r.es oi key v }))):I9 P d t (.om j) key v ρ H K:=by
 unfold I9 mD DB;simp only[E,J,F];exact⟨I,h⟩
theorem GS{t l c}:aop P C PC mt q ops ⟨d,.makeSlice t l c,ty,pos,aft,gd⟩ ρ H K=cG ops ρ gd fun G=>G=none/\q=false/\bR G (aev ρ l) fun l=>bR G (aev ρ c) fun c=>MX P d t l c ρ H K:=(rfl)
theorem VX{t args tys}:aop P C PC mt q ops ⟨d,.call ⟨.value (.tmp t),args,tys⟩,ty,pos,aft,gd⟩ ρ H K=cG ops ρ gd fun G=>bR G (ρ t) fun x=>bJ (OP x) fun y=>if rO mt d=true then G=none/\q=false/\aE P y.1=true/\C y.1 (y.2.1++args.toList.map (KI ρ)++y.2.2) H (Mj K ρ d)else AM G ρ args.toList fun l=>
   aE P y.1=true/\(if G=none/\q=false then C y.1 (y.2.1++l++y.2.2) H (Mj K ρ d)else ∃r,(gt G->PC y.1 (y.2.1++l++y.2.2) H r)/\nfq q r (mO K ρ d G H)):=by
 show cG ops ρ gd (fun G=>Cq P C PC (rO mt d) q G ⟨d,.call ⟨.value (.tmp t),args,tys⟩,ty,pos,aft,gd⟩ ⟨.value (.tmp t),args,tys⟩ ρ H K)=_
 congr 1;funext G
 simp only[Cq,aev]
 congr 1;funext x
 cases h:OP x with
 | none=>simp[bJ]
 | some y=>obtain⟨a,b,c⟩:=y;rfl
theorem XF{f args tys}:aop P C PC mt q ops ⟨d,.call ⟨.value (.func f),args,tys⟩,ty,pos,aft,gd⟩ ρ H K=cG ops ρ gd fun G=>if rO mt d=true then G=none/\q=false/\aE P f=true/\C f (args.toList.map (KI ρ)) H (Mj K ρ d)else AM G ρ args.toList fun l=>
   aE P f=true/\(if G=none/\q=false then C f l H (Mj K ρ d)else ∃r,(gt G->PC f l H r)/\nfq q r (mO K ρ d G H)):=by
 show cG ops ρ gd (fun G=>Cq P C PC (rO mt d) q G ⟨d,.call ⟨.value (.func f),args,tys⟩,ty,pos,aft,gd⟩ ⟨.value (.func f),args,tys⟩ ρ H K)=_
 congr 1;funext G
 simp only[Cq,aev,bR,OP,List.map_nil,List.nil_append,List.append_nil];rfl
theorem NZ{t}:KI ρ (.tmp t)=ρ t:=(rfl)
theorem Gs{v}:KI ρ (.const v)=.v v:=(rfl)
theorem HS{f}:KI ρ (.func f)=.v (.func (.func f) #[] #[]):=(rfl)
theorem afD{x t}:aop P C PC mt q ops ⟨d,.call ⟨.builtin .len,#[x],#[t]⟩,ty,pos,aft,gd⟩ ρ H K=cG ops ρ gd fun G=>bR G (aev ρ x) fun x=>G7 P H t x (mO K ρ d G H):=(rfl)
theorem adV{x y t t'}:aop P C PC mt q ops ⟨d,.call ⟨.builtin .max,#[x,y],#[t,t']⟩,ty,pos,aft,gd⟩ ρ H K=cG ops ρ gd fun G=>bR G (aev ρ x) fun x=>bR G (aev ρ y) fun y=>PL x y (mO K ρ d G H):=(rfl)
theorem ahS{x y t t'}:aop P C PC mt q ops ⟨d,.call ⟨.builtin .min,#[x,y],#[t,t']⟩,ty,pos,aft,gd⟩ ρ H K=cG ops ρ gd fun G=>bR G (aev ρ x) fun x=>bR G (aev ρ y) fun y=>P9 x y (mO K ρ d G H):=(rfl)
theorem Z3{n m a b}{k:AV->Prop}:PL (.v (.int n a)) (.v (.int m b)) k=k (.v (.int n (gA a b))):=(rfl)
theorem abF{n m a b}{k:AV->Prop}:P9 (.v (.int n a)) (.v (.int m b)) k=k (.v (.int n (wF a b))):=(rfl)
theorem ZA{x y t t'}:aop P C PC mt q ops ⟨d,.call ⟨.builtin .copy,#[x,y],#[t,t']⟩,ty,pos,aft,gd⟩ ρ H K=cG ops ρ gd fun G=>bR G (aev ρ x) fun x=>bR G (aev ρ y) fun y=>
 if G=none/\q=false then NX P d t x y ρ H K else False:=(rfl)
theorem UM{x t}:aop P C PC mt q ops ⟨d,.call ⟨.builtin .clear,#[x],#[t]⟩,ty,pos,aft,gd⟩ ρ H K=cG ops ρ gd fun G=>bR G (aev ρ x) fun x=>
 if G=none/\q=false then Fl P d t x ρ H K else False:=(rfl)
theorem WR{G:Option Bool}{k:AV->Prop}{t es lo hi}:asl P G H t (.sl es) lo hi k=mX P G t (.sl es) lo hi k:=(rfl)
theorem akU{G:Option Bool}{k:AV->Prop}{t v lo hi}:asl P G H t (.v v) lo hi k=mX P G t (.v v) lo hi k:=(rfl)
theorem Z4{G:Option Bool}{k:AV->Prop}{t j n a m b}:asl P G H t (.os j) (some (.v (.int n a))) (some (.v (.int m b))) k=bJ (H j) fun r=>bJ (bY P t) fun e=>(gt G->(0<=a/\a<=b/\b<=r.es.length)/\r.sz=e.2.1)/\k (.oz j a.toNat b.toNat):=by
 cases h1:H j <;> cases E:bY P t <;> simp[asl,bJ,h1,E]
theorem ajZ{G:Option Bool}{k:AV->Prop}{t j n a}:asl P G H t (.os j) (some (.v (.int n a))) none k=bJ (H j) fun r=>bJ (bY P t) fun e=>(gt G->(0<=a/\a<=r.es.length)/\r.sz=e.2.1)/\k (.oz j a.toNat r.es.length):=by
 cases h1:H j <;> cases E:bY P t <;> simp[asl,bJ,h1,E]
theorem akJ{G:Option Bool}{k:AV->Prop}{t j m b}:asl P G H t (.os j) none (some (.v (.int m b))) k=bJ (H j) fun r=>bJ (bY P t) fun e=>(gt G->(0<=b/\b<=r.es.length)/\r.sz=e.2.1)/\k (.oz j 0 b.toNat):=by
 cases h1:H j <;> cases E:bY P t <;> simp[asl,bJ,h1,E]
theorem MV{k:AV->Prop}{es}:rG .eql (.sl es) k=((es=[]->k (.v (.bool true)))/\k (.v (.bool false))):=(rfl)
theorem OH{k:AV->Prop}{es}:rG .neq (.sl es) k=((es=[]->k (.v (.bool false)))/\k (.v (.bool true))):=(rfl)
theorem JA{k:AV->Prop}{j}:rG .eql (.os j) k=(k (.v (.bool true))/\k (.v (.bool false))):=(rfl)
theorem HY{k:AV->Prop}:rG .eql (.v (.slice none 0 0)) k=k (.v (.bool true)):=(rfl)
theorem Jd{k:AV->Prop}:rG .neq (.v (.slice none 0 0)) k=k (.v (.bool false)):=(rfl)
theorem Jq{k:AV->Prop}{j}:rG .neq (.os j) k=(k (.v (.bool false))/\k (.v (.bool true))):=(rfl)
theorem QU{s x t t'}:aop P C PC mt q ops ⟨d,.call ⟨.builtin .append,#[s,x],#[t,t']⟩,ty,pos,aft,gd⟩ ρ H K=cG ops ρ gd fun G=>bR G (aev ρ s) fun s=>bR G (aev ρ x) fun x=>
 if t=t'/\G=none/\q=false then J8 P d t s x ρ H K else False:=(rfl)
end
section
variable{P:Program}{d:Option Tmp}{ρ:Env}{H:aJ}{K:Env->aJ->Prop}
theorem Ul{t n a m b}:MX P d t (.v (.int n a)) (.v (.int m b)) ρ H K=bJ (bY P t) fun e=>bJ (dR P e.1) fun z=>((0<=a/\a<=b)/\(e.2.2:Int)*b<=140737488355328)/\pO H ⟨e.1,e.2.1,List.replicate a.toNat z⟩ (TV K ρ d):=by
 unfold MX sV;cases h1:bY P t with
 | none=>simp[bJ]
 | some e=>obtain⟨x,y,z⟩:=e;cases E:dR P x <;> simp[bJ,E] <;> intros <;> rfl
theorem alE{f first captured}:OP (.v (.func (.func f) first captured))=some (f,first.toList.map .v,captured.toList.map .v):=(rfl)
theorem akZ{q x}{k:AV->Prop}:nfq q (.v x) k=k (.v x):=by cases q <;> rfl
theorem TC{q x}{k:AV->Prop}:nfq q (.agg x) k=k (.agg x):=by cases q <;> rfl
theorem Ux{q x}{k:AV->Prop}:nfq q (.tup x) k=k (.tup x):=by cases q <;> rfl
theorem XN{x}{k:AV->Prop}:nfq false (.nf x) k=k x:=(rfl)
theorem aeC{f l}:OP (.fn f l)=some (f,[],l):=(rfl)
end
attribute [go_sem ↓] HE Is Ia EQ
attribute [go_sem] HE Is Ia EQ
@[congr] theorem asl_c {P G H t x x' lo lo' hi hi' k} (h:x=x') (h1:lo=lo') (h2:hi=hi'):asl P G H t x lo hi k=asl P G H t x' lo' hi' k:=h▸h1▸h2▸rfl
@[congr] theorem aeqNil_c {op x x' k} (h:x=x'):rG op x k=rG op x' k:=h▸rfl
theorem LH{α:Type}{a:α}{l r:List α}:List.append (a::l) r=a::List.append l r:=(rfl)
theorem ND{α:Type}{r:List α}:List.append [] r=r:=(rfl)
attribute [go_sem] LH ND
attribute [go_sem] qH
@[congr] theorem amax_c {x x' y y' K} (h:x=x') (h':y=y'):PL x y K=PL x' y' K:=h▸h'▸rfl
@[congr] theorem amin_c {x x' y y' K} (h:x=x') (h':y=y'):P9 x y K=P9 x' y' K:=h▸h'▸rfl
attribute [go_sem ↓] adV ahS Z3 abF
attribute [go_sem] Z3 abF
@[congr] theorem pinEnd_c {l l' H K ρ H'} (h:l=l'):mY l H K ρ H'=mY l' H K ρ H':=h▸rfl
attribute [go_sem] Ho List.set_cons_zero List.set_cons_succ
attribute [go_sem ↓] VT afT ajD alG
attribute [go_sem ↓] Vg aeF adB
attribute [go_sem ↓] WV aoZ alC ZA UM WR akU Z4 ajZ akJ MV OH JA Jq HY Jd
attribute [go_sem] WR akU Z4 ajZ akJ MV OH JA Jq HY Jd
attribute [go_sem ↓] akZ TC Ux XN
attribute [go_sem ↓] RX L3 GT RO Ky F6 Uj OW
attribute [go_sem] Uj OW
attribute [go_sem] akZ TC Ux XN
attribute [go_sem ↓] Kr GS VX Ul Ov NT NA Tv N0 DZ Ue Tb Tp LP NH
attribute [go_sem] Ul Ov NT NA Tv N0 DZ Ue Tb Tp LP alE aeC
attribute [go_sem] T7 akW
@[congr] theorem ownNils_c {l l' z z' H K} (h:l=l') (h':z=z'):kM l z H K=kM l' z' H K:=h▸h'▸rfl
theorem Oc{z H K}:kM [] z H K=K z H:=(rfl)
theorem K6{o e sz r z H K}:kM ((o,e,sz)::r) z H K=pO H ⟨e,sz,[]⟩ fun k H'=>kM r (z.set o (.os k)) H' K:=(rfl)
attribute [go_sem ↓] Oc K6
attribute [go_sem ↓] abW Fb N2 T6 MR Hk HL UW N3 Zh aeG WO Vb QN XY acY SG S5 Pd Wg
attribute [go_sem ↓] AM pZ Xq YO Wm Z8 K7 aiO anX WK K5 MN OC G6 VC GO VE OO Qi UK ajU Gm Wj XF afD QU
attribute [go_sem ↓] Ud Ut Uh Tg NG MK OJ OI Nm Mg O5 Ng MO MF Pp Ig HJ ID I6 IM HV Hy MQ Mn NJ Ui SS In Hn I1 Jt S1 Uo TK S4 S9 Ay AQ AC AP AG AL Uf Tx Jr Ib Na Jz Nj MD Gl Io It JF Jf FG Mw IS I8 JL IQ Il alA akE Eb DX Y3 Od Ti Ts O2 MM Uc SV T9 F4 Jb IA NW Pk N7 Ur Jn ON NZ Gs HS
attribute [go_sem] Ud Ut Uh Tg NG MK OJ OI Nm Mg O5 Ng MO MF Pp Ig HJ ID I6 IM HV Hy MQ Mn NJ Ui SS In Hn I1 Jt S1 Uo TK S4 S9 Ay AQ AC AP AG AL Uf Tx Jr Ib Na Jz Nj MD Gl Io It JF Jf FG Mw IS I8 JL IQ Il alA akE Eb DX Y3 Od Ti Ts O2 MM Uc SV T9 F4 Jb IA NW Pk N7 Ur Jn ON NZ Gs HS
attribute [go_sem] anG YX rO sY qV Dt gt gok wr xK iH O6 Value.oneCell' KE cZ rF Option.map_some rJ mH aA
attribute [go_sem] Bool.false_eq_true if_false if_true reduceCtorEq true_and and_true false_and and_false false_implies true_implies implies_true forall_const and_self imp_self ne_eq not_true_eq_false not_false_eq_true
attribute [go_sem] List.getD_cons_zero List.getD_cons_succ List.getD_nil List.length_cons List.length_nil List.drop_zero List.drop_succ_cons List.take_succ_cons List.take_zero Option.getD_some Option.getD_none Nat.zero_add Nat.add_zero List.map_cons List.map_nil List.cons_append List.nil_append List.append_nil
attribute [go_sem] Option.bind_some List.getElem?_toArray List.getElem?_cons_zero List.getElem?_cons_succ
attribute [go_sem ↓] reduceIte
attribute [go_sem] Nat.reduceEqDiff Nat.reduceAdd Nat.reduceMul Nat.reduceSub Nat.reduceLT Nat.reduceLeDiff Nat.reduceBEq
end Go.Aw
