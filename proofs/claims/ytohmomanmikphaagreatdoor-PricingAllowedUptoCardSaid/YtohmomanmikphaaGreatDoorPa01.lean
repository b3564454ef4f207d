import Derived.StillTail
import Derived.WalkKit
import Derived.Deep.Quiet
import Derived.Deep.QuietTactic
import Derived.Maps.AppendAt
import Derived.Laws.BytesArg
set_option linter.unusedSimpArgs false
set_option linter.unusedVariables false
set_option maxRecDepth 100000
namespace Go.Aw
open Go.RowKit
inductive AV where
 | v (x:Value)
 | any
 | sl (es:List (List AV))
 | rp (cs:List AV) (off:Nat)
 | agg (cs:List AV)
 | tup (vs:List AV)
 | os (k:Nat)
 | op (k i f:Nat)
 | gd (g:Bool) (x:AV)
 | fn (f:FuncId) (cap:List AV)
 | oz (k a b:Nat)
 | nf (x:AV)
 | om (k:Nat)
 | cl (es:List (List AV))
 deriving Inhabited
structure Row where
 e:TypeId
 sz:Nat
 es:List (List AV)
abbrev Env:=Nat->AV
abbrev aK:=Nat->Option Row
inductive Ex where
 | normal
 | exit (id:Nat)
 | ret
def upd(ρ:Env)(d:Option Nat)(x:AV):Env:=
 match d with
 | some d=>fun t=>if t=d then x else ρ t
 | none=>ρ
def aI(H:aK)(k:Nat)(r:Option Row):aK:=fun j=>if j=k then r else H j
theorem aoA(ρ:Env)(d:Nat)(x:AV)(t:Nat):upd ρ (some d) x t=if t=d then x else ρ t:=rfl
theorem abG(ρ:Env)(x:AV):upd ρ none x=ρ:=rfl
theorem aA(H:aK)(k:Nat)(r:Option Row):aI H k r k=r:=by simp[aI]
theorem aF(H:aK)(k:Nat)(r:Option Row)(j:Nat)(h:j≠k):aI H k r j=H j:=by simp[aI,h]
def ldT(P:Program)(t:TypeId):Option (Option Nat):=
 match P.underlying t,P.info? t with
 | some (.struct _),some i=>some (some i.size)
 | some (.array _ _),some i=>some (some i.size)
 | some _,some _=>some none
 | _,_=>none
def aO(P:Program)(t:TypeId)(f:Nat):Option (Nat×Option Nat):=
 match P.underlying t with
 | some (.struct fs)=>match fs[f]? with
   | some fd=>match P.info? fd.type with
     | some i=>if i.size=0 then none else(ldT P fd.type).map fun l=>(fd.offset,l)
     | none=>none
   | none=>none
 | _=>none
def cF(P:Program)(t:TypeId):Option (TypeId×Nat×Nat):=
 match P.underlying t with
 | some (.slice e)=>match P.info? e with
   | some i=>if i.size=0\/i.bytes=0\/i.zero.map (·.cells.size)≠some i.size then none else some (e,i.size,i.bytes)
   | none=>none
 | _=>none
def BW(P:Program)(t:TypeId):Option (Nat×Nat×Option Nat):=
 match P.underlying t with
 | some (.array n e)=>match P.info? e with
   | some i=>if i.size=0 then none else(ldT P e).map fun l=>(n,i.size,l)
   | none=>none
 | _=>none
def rI:Value->AV
 | .slice none 0 0=>.sl []
 | x=>.v x
def dU(P:Program)(t:TypeId):Option (List AV):=
 match P.info? t with
 | some i=>match i.zero with
   | some z=>if z.cells.size=i.size/\i.size≠0/\z.cells.toList.all (·.oneCell')=true then some (z.cells.toList.map rI)else none
   | none=>none
 | none=>none
def L0(P:Program):Nat->TypeId->Nat->List (Nat×TypeId×Nat)
 | 0,_,_=>[]
 | n+1,t,o=>match P.underlying t with
   | some (.slice _)=>match cF P t with
     | some (e,sz,_)=>[(o,e,sz)]
     | none=>[]
   | some (.struct fs)=>fs.toList.flatMap fun f=>L0 P n f.type (o+f.offset)
   | some (.array m e)=>(List.range m).flatMap fun j=>L0 P n e (o+j*((P.info? e).map (·.size)).getD 0)
   | _=>[]
def aaU:Option Value->Bool
 | some (.slice none 0 0)=>true
 | _=>false
def tU(P:Program)(t:TypeId):Option (List (Nat×TypeId×Nat)):=
 match P.info? t with
 | some i=>match i.zero with
   | some z=>if(L0 P 8 t 0).all (fun x=>aaU z.cells.toList[x.1]?&&decide (0<x.2.2))=true then some (L0 P 8 t 0)else none
   | none=>none
 | none=>none
def eN(P:Program)(t:TypeId):Option (List (Nat×Nat)):=
 match P.underlying t with
 | some (.struct fs)=>fs.toList.mapM fun f=>(P.info? f.type).map fun i=>(f.offset,i.size)
 | some (.array n e)=>(P.info? e).map fun i=>(List.range n).map fun j=>(j*i.size,i.size)
 | _=>none
def eJ(P:Program)(t:TypeId):Bool:=match P.underlying t with|some .string=>true|_=>false
def cT(P:Program)(t:TypeId):Bool:=match P.underlying t with|some (.slice _)=>true|_=>false
def Bi(P:Program)(t:TypeId):Bool:=match P.underlying t with|some .bool=>true|_=>false
def aev(ρ:Env):Operand->AV
 | .tmp t=>ρ t
 | .const v=>rI v
 | .global _=>.any
 | .func f=>.v (.func (.func f) #[] #[])
def Mo(ρ:Env):Operand->AV
 | .const v=>.v v
 | x=>aev ρ x
def gt:Option Bool->Prop
 | none=>True
 | some b=>b=true
def gok:Option Bool->Bool->Prop
 | none,g=>g=true
 | some b,g=>b=true->g=true
def wr:Option Bool->AV->AV
 | none,x=>x
 | some b,x=>.gd b x
def bZ(G:Option Bool)(x:AV)(k:AV->Prop):Prop:=
 match x with
 | .gd g y=>gok G g/\k y
 | x=>k x
def nC(x:AV)(K:List AV->Prop):Prop:=
 match x with
 | .agg cs=>K cs
 | .v y=>y.oneCell'=true/\K [.v y]
 | .sl es=>K [.sl es]
 | .rp cs o=>K [.rp cs o]
 | .os k=>K [.os k]
 | .op k i f=>K [.op k i f]
 | _=>False
def uK(P:Program)(t:TypeId):Option Nat:=match P.underlying t with|some (.int _)=>some 0|some .string=>some 1|some .bool=>some 2|_=>none
def vX(c:Nat)(x y:AV):Option Bool:=
 match c,x,y with
 | 0,.v (.int k a),.v (.int k' b)=>if k=k' then some (a == b)else none
 | 1,.v (.string a),.v (.string b)=>some (a.toList == b.toList)
 | 2,.v (.bool a),.v (.bool b)=>some (a == b)
 | _,_,_=>none
def N4:Option Bool->Option Bool->Option Bool
 | some a,some b=>some (a&&b)
 | _,_=>none
def iH:List Nat->List AV->List AV->Option Bool
 | [],[],[]=>some true
 | c::l,x::r,y::s=>N4 (vX c x y) (iH l r s)
 | _,_,_=>none
def pZ(P:Program):Nat->List Field->Option (List Nat)
 | _,[]=>some []
 | o,f::r=>if f.name != "_" && f.offset == o&&(P.info? f.type).isSome then match uK P f.type,pZ P (o+1) r with
   | some c,some l=>some (c::l)
   | _,_=>none
   else none
def zT(P:Program)(t:TypeId):Option (List Nat):=
 match P.underlying t with
 | some (.struct fs)=>if P.stoodInHeld t=false/\P.eqGuardType P.depth t=false then pZ P 0 fs.toList else none
 | some (.array n e)=>if(P.info? e).map (·.size)=some 1/\P.eqGuardType P.depth t=false then(uK P e).map (List.replicate n)else none
 | _=>none
def zX:BinOp->Bool
 | .shl=>true
 | .shr=>true
 | _=>false
def shV(op:BinOp)(k:IntKind)(a b:Int):Int:=match op with
 | .shl=>k.wrap (a*2^min b.toNat k.bits)
 | _=>a.fdiv (2^min b.toNat k.bits)
def vU(op:BinOp)(k:IntKind)(a b:Int):Int:=match op with
 | .and=>k.wrap ((BitVec.ofInt k.bits a &&& BitVec.ofInt k.bits b).toNat:Nat)
 | .or=>k.wrap ((BitVec.ofInt k.bits a ||| BitVec.ofInt k.bits b).toNat:Nat)
 | .xor=>k.wrap ((BitVec.ofInt k.bits a ^^^ BitVec.ofInt k.bits b).toNat:Nat)
 | _=>k.wrap ((BitVec.ofInt k.bits a &&& ~~~(BitVec.ofInt k.bits b)).toNat:Nat)
def iN(P:Program)(G:Option Bool)(op:BinOp)(t:TypeId)(x y:AV)(K:AV->Prop):Prop:=
 match x,y with
 | .v (.int k a),.v (.int k' b)=>
   if zX op=true then(gt G->0<=b)/\K (.v (.int k (shV op k a b)))
   else if k=k' then
     match op with
     | .and=>K (.v (.int k (vU .and k a b)))
     | .or=>K (.v (.int k (vU .or k a b)))
     | .xor=>K (.v (.int k (vU .xor k a b)))
     | .andNot=>K (.v (.int k (vU .andNot k a b)))
     | .add=>K (.v (.int k (k.wrap (a+b))))
     | .sub=>K (.v (.int k (k.wrap (a-b))))
     | .mul=>K (.v (.int k (k.wrap (a*b))))
     | .quo=>(gt G->b≠0)/\K (.v (.int k (k.wrap (a.tdiv b))))
     | .rem=>(gt G->b≠0)/\K (.v (.int k (a.tmod b)))
     | .eql=>K (.v (.bool (a == b)))
     | .neq=>K (.v (.bool (a != b)))
     | .lss=>K (.v (.bool (decide (a<b))))
     | .leq=>K (.v (.bool (decide (a<=b))))
     | .gtr=>K (.v (.bool (decide (a>b))))
     | .geq=>K (.v (.bool (decide (a>=b))))
     | _=>False
   else False
 | .v (.string a),.v (.string b)=>
   match op with
   | .add=>(gt G->((a.size+b.size:Nat):Int)<=IntKind.i64.max)/\K (.v (.string (a++b)))
   | .eql=>K (.v (.bool (a.toList == b.toList)))
   | .neq=>K (.v (.bool !(a.toList == b.toList)))
   | .lss=>K (.v (.bool (Op.bytesLess a.toList b.toList)))
   | _=>False
 | .v (.bool a),.v (.bool b)=>
   if Bi P t then
     match op with
     | .eql=>K (.v (.bool (a == b)))
     | .neq=>K (.v (.bool !(a == b)))
     | _=>False
   else False
 | .agg xs,.agg ys=>match zT P t with
   | some l=>match iH l xs ys with
     | some b=>match op with
       | .eql=>K (.v (.bool b))
       | .neq=>K (.v (.bool !b))
       | _=>False
     | none=>False
   | none=>False
 | _,_=>(gt G->False)/\K .any
def QY(P:Program)(t:TypeId):Option (TypeId×TypeId):=match P.underlying t with|some (.map k e)=>some (k,e)|_=>none
def Kd(P:Program)(t:TypeId):Option AV:=
 match P.info? t with
 | some i=>match i.zero with
   | some (.agg cs)=>if cs.toList.all (·.oneCell')=true then some (.agg (cs.toList.map rI))else none
   | some v=>if v.oneCell'=true then some (rI v)else none
   | none=>none
 | none=>none
def rM(P:Program)(kt:TypeId)(x y:AV):Option Bool:=
 match x,y with
 | .v a,.v b=>match uK P kt with
   | some c=>vX c (.v a) (.v b)
   | none=>none
 | _,_=>none
def nI(P:Program)(kt:TypeId):AV->Bool
 | .v (.int _ _)=>uK P kt == some 0
 | .v (.string _)=>uK P kt == some 1
 | .v (.bool _)=>uK P kt == some 2
 | _=>false
def vB(eq:AV->Option Bool):List (List AV)->Nat->Option (Option Nat)
 | [],_=>some none
 | e::r,i=>match eq (e.getD 0 .any)with
   | some true=>some (some i)
   | some false=>vB eq r (i+1)
   | none=>none
def Gd(ok:Bool)(z:AV)(es:List (List AV))(oi:Option Nat):AV:=
 match oi with
 | some i=>if ok=true then .tup [(es.getD i []).getD 1 .any,.v (.bool true)]else(es.getD i []).getD 1 .any
 | none=>if ok=true then .tup [z,.v (.bool false)]else z
def Xv(es:List (List AV))(oi:Option Nat)(k v:AV):List (List AV):=
 match oi with
 | some i=>es.set i [k,v]
 | none=>es++[[k,v]]
def Er(P:Program)(H:aK)(t:TypeId)(x key:AV)(K:Nat->Row->TypeId×TypeId->Option Nat->Prop):Prop:=
 match x with
 | .om j=>match H j,QY P t with
   | some r,some kt=>match vB (rM P kt.1 key) r.es 0 with
     | some oi=>nI P kt.1 key=true/\K j r kt oi
     | none=>False
   | _,_=>False
 | _=>False
def vG(P:Program)(H:aK)(t:TypeId)(x key:AV)(ok:Bool)(K:AV->Prop):Prop:=
 Er P H t x key fun _ r kt oi=>match Kd P kt.2 with
   | some z=>K (Gd ok z r.es oi)
   | none=>False
def wR(c:Bool):AV->AV->AV
 | .v (.bool true),.v (.bool b)=>.v (.bool (c||b))
 | .v (.bool a),.v (.bool false)=>.v (.bool (c&&a))
 | .v (.bool a),.v (.bool b)=>.v (.bool (bif c then a else b))
 | x,y=>bif c then x else y
def Bp(G:Option Bool)(c:Bool)(x y:AV)(K:AV->Prop):Prop:=
 match x,y with
 | .gd g x,.gd g' y=>(gt G->c=true->g=true)/\(gt G->c=false->g'=true)/\K (wR c x y)
 | .gd g x,y=>(gt G->c=true->g=true)/\K (wR c x y)
 | x,.gd g' y=>(gt G->c=false->g'=true)/\K (wR c x y)
 | x,y=>K (wR c x y)
def pM(G:Option Bool)(H:aK)(l:Option Nat)(x:AV)(K:AV->Prop):Prop:=
 match x with
 | .rp cs off=>match l with
   | none=>(gt G->off<cs.length)/\K (cs.getD off .any)
   | some n=>(gt G->off+n<=cs.length)/\K (.agg ((cs.drop off).take n))
 | .op k i f=>match H k with
   | some r=>match l with
     | none=>(gt G->i<r.es.length/\f<r.sz)/\K ((r.es.getD i []).getD f .any)
     | some n=>(gt G->i<r.es.length/\f+n<=r.sz)/\K (.agg (((r.es.getD i []).drop f).take n))
   | none=>False
 | _=>False
def apart(G:Option Bool)(off:Nat)(l:Option Nat)(x:AV)(K:AV->Prop):Prop:=
 match x with
 | .agg cs=>match l with
   | none=>(gt G->off<cs.length)/\K (cs.getD off .any)
   | some n=>(gt G->off+n<=cs.length)/\K (.agg ((cs.drop off).take n))
 | _=>False
def Iw(P:Program)(H:aK)(t:TypeId)(x:AV)(K:AV->Prop):Prop:=
 match x with
 | .sl es=>if cT P t then K (.v (.int .i64 es.length))else False
 | .os k=>match H k with
   | some r=>if cT P t then K (.v (.int .i64 r.es.length))else False
   | none=>False
 | .v (.string s)=>if eJ P t then K (.v (.int .i64 s.size))else False
 | _=>False
def fP(a b:Int):Int:=if b>a then b else a
def aeZ(a b:Int):Int:=if b<a then b else a
def TH(x y:AV)(K:AV->Prop):Prop:=
 match x,y with
 | .v (.int k a),.v (.int _ b)=>K (.v (.int k (fP a b)))
 | _,_=>False
def RB(x y:AV)(K:AV->Prop):Prop:=
 match x,y with
 | .v (.int k a),.v (.int _ b)=>K (.v (.int k (aeZ a b)))
 | _,_=>False
def gG(P:Program)(G:Option Bool)(H:aK)(t:TypeId)(x i:AV)(K:AV->Prop):Prop:=
 match x,i with
 | .sl es,.v (.int _ n)=>match cF P t with
   | some (_,sz,_)=>(gt G->(0<=n/\n<es.length)/\(es.getD n.toNat []).length=sz)/\K (.rp (es.getD n.toNat []) 0)
   | none=>False
 | .os k,.v (.int _ n)=>match H k,cF P t with
   | some r,some (_,sz,_)=>(gt G->(0<=n/\n<r.es.length)/\r.sz=sz)/\K (.op k n.toNat 0)
   | _,_=>False
 | .rp cs off,.v (.int _ n)=>match BW P t with
   | some (m,s,_)=>(gt G->0<=n/\n<m)/\K (.rp cs (off+n.toNat*s))
   | none=>False
 | .op k j f,.v (.int _ n)=>match BW P t with
   | some (m,s,_)=>(gt G->0<=n/\n<m)/\K (.op k j (f+n.toNat*s))
   | none=>False
 | _,_=>False
def kC(P:Program)(t:TypeId)(f:Nat)(x:AV)(K:AV->Prop):Prop:=
 match x with
 | .rp cs off=>match aO P t f with
   | some (o,_)=>K (.rp cs (off+o))
   | none=>False
 | .op k i g=>match aO P t f with
   | some (o,_)=>K (.op k i (g+o))
   | none=>False
 | _=>False
def rY(places:List (Nat×Nat)):List AV->List (Nat×List AV)->Option (List AV)
 | cs,[]=>some cs
 | cs,(i,x)::rest=>match places[i]? with
   | some (off,n)=>if x.length=n/\off+n<=cs.length then rY places (cs.take off++x++cs.drop (off+n)) rest else none
   | none=>none
def qZ(G:Option Bool)(ρ:Env):List (Nat×Operand)->(List (Nat×List AV)->Prop)->Prop
 | [],K=>K []
 | (i,x)::rest,K=>bZ G (aev ρ x) fun y=>nC y fun cs=>qZ G ρ rest fun l=>K ((i,cs)::l)
def Bo(G:Option Bool)(ρ:Env):List Operand->(List AV->Prop)->Prop
 | [],K=>K []
 | x::rest,K=>bZ G (aev ρ x) fun y=>Bo G ρ rest fun l=>K (y::l)
def yR(P:Program)(t:TypeId)(parts:List (Nat×List AV))(K:AV->Prop):Prop:=
 match dU P t,eN P t with
 | some z,some pl=>match rY pl z parts with
   | some cs=>K (.agg cs)
   | none=>False
 | _,_=>False
def Mp:Nat->Nat->List Nat
 | _,0=>[]
 | i,n+1=>i::Mp (i+1) n
def cZ(n:Nat):List (List AV)->Prop
 | []=>True
 | cs::r=>cs.length=n/\cZ n r
def nF(P:Program)(G:Option Bool)(t:TypeId)(x:AV)(lo hi:Option AV)(K:AV->Prop):Prop:=
 match x,lo,hi with
 | .sl es,some (.v (.int _ a)),some (.v (.int _ b))=>match cF P t with
   | some (_,sz,_)=>(gt G->(0<=a/\a<=b/\b<=es.length)/\cZ sz es)/\K (.sl ((es.take b.toNat).drop a.toNat))
   | none=>False
 | .sl es,some (.v (.int _ a)),none=>match cF P t with
   | some (_,sz,_)=>(gt G->(0<=a/\a<=es.length)/\cZ sz es)/\K (.sl (es.drop a.toNat))
   | none=>False
 | .sl es,none,some (.v (.int _ b))=>match cF P t with
   | some _=>(gt G->0<=b/\b<=es.length)/\K (.sl (es.take b.toNat))
   | none=>False
 | .v (.string s),some (.v (.int _ a)),some (.v (.int _ b))=>
   if eJ P t then(gt G->0<=a/\a<=b/\b<=s.size)/\K (.v (.string (s.extract a.toNat b.toNat)))else False
 | .v (.string s),some (.v (.int _ a)),none=>
   if eJ P t then(gt G->0<=a/\a<=s.size)/\K (.v (.string (s.extract a.toNat s.size)))else False
 | .v (.string s),none,some (.v (.int _ b))=>
   if eJ P t then(gt G->0<=b/\b<=s.size)/\K (.v (.string (s.extract 0 b.toNat)))else False
 | _,_,_=>False
def asl(P:Program)(G:Option Bool)(H:aK)(t:TypeId)(x:AV)(lo hi:Option AV)(K:AV->Prop):Prop:=
 match x with
 | .os k=>match H k,cF P t with
   | some r,some (_,sz,_)=>match lo,hi with
     | some (.v (.int _ a)),some (.v (.int _ b))=>(gt G->(0<=a/\a<=b/\b<=r.es.length)/\r.sz=sz)/\K (.oz k a.toNat b.toNat)
     | some (.v (.int _ a)),none=>(gt G->(0<=a/\a<=r.es.length)/\r.sz=sz)/\K (.oz k a.toNat r.es.length)
     | none,some (.v (.int _ b))=>(gt G->(0<=b/\b<=r.es.length)/\r.sz=sz)/\K (.oz k 0 b.toNat)
     | _,_=>False
   | _,_=>False
 | x=>nF P G t x lo hi K
def E1(P:Program)(G:Option Bool)(t:TypeId)(x a b:AV)(K:AV->Prop):Prop:=
 match x,a,b with
 | .sl es,.v (.int _ a),.v (.int _ b)=>match cF P t with
   | some _=>(gt G->a=es.length/\b=es.length)/\K (.cl es)
   | none=>False
 | _,_,_=>False
def yM(P:Program)(G:Option Bool)(t:TypeId)(x i:AV)(K:AV->Prop):Prop:=
 match x,i with
 | .v (.string s),.v (.int _ n)=>
   if eJ P t then(gt G->0<=n/\n<s.size)/\K (.v (.int .u8 ((s.data.getD n.toNat 0).toNat:Int)))else False
 | .agg cs,.v (.int _ n)=>match BW P t with
   | some (m,s,l)=>(gt G->0<=n/\n<m)/\apart G (n.toNat*s) l (.agg cs) K
   | none=>False
 | _,_=>False
def aun(op:UnOp)(x:AV)(K:AV->Prop):Prop:=
 match op,x with
 | .not,.v (.bool b)=>K (.v (.bool !b))
 | .neg,.v (.int k n)=>K (.v (.int k (k.wrap (0-n))))
 | _,_=>False
def rQ:List (List AV)->Option (List Int)
 | []=>some []
 | [.v (.int .u8 n)]::r=>(rQ r).map (n::·)
 | _=>none
def Ds(P:Program)(t:TypeId):Bool:=
 match P.underlying t with
 | some (.slice e)=>match P.underlying e with
   | some (.int .u8)=>true
   | _=>false
 | _=>false
def G3(P:Program)(t:TypeId):Option IntKind:=match P.underlying t with|some (.int k)=>some k|_=>none
def zS(P:Program)(src dst:TypeId)(x:AV)(K:AV->Prop):Prop:=
 match x with
 | .v (.int _ n)=>match G3 P dst,G3 P src with
   | some k,some _=>K (.v (.int k (k.wrap n)))
   | _,_=>False
 | .v (.string s)=>if eJ P src/\eJ P dst then K (.v (.string s))else False
 | .sl es => if Ds P src /\ eJ P dst then
     match rQ es with
     | some ns=>K (.v (.string (strOfNums ns)))
     | none=>False
   else False
 | _=>False
def uD:Operand->Bool
 | .const (.slice none 0 0)=>true
 | _=>false
def rO(op:BinOp)(x:AV)(K:AV->Prop):Prop:=
 match op,x with
 | .eql,.sl es=>(es=[]->K (.v (.bool true)))/\K (.v (.bool false))
 | .neq,.sl es=>(es=[]->K (.v (.bool false)))/\K (.v (.bool true))
 | .eql,.os _=>K (.v (.bool true))/\K (.v (.bool false))
 | .neq,.os _=>K (.v (.bool false))/\K (.v (.bool true))
 | .eql,.v (.slice none 0 0)=>K (.v (.bool true))
 | .neq,.v (.slice none 0 0)=>K (.v (.bool false))
 | _,_=>False
def iP(P:Program)(G:Option Bool)(ρ:Env)(H:aK)(op:Op)(K:AV->Prop):Prop:=
 match op with
 | .move x| .assign x=>bZ G (aev ρ x) K
 | .pick c a b=>bZ G (aev ρ c) fun
   | .v (.bool c)=>Bp G c (aev ρ a) (aev ρ b) K
   | _=>False
 | .build t parts=>qZ G ρ parts.toList fun l=>yR P t l K
 | .load t a=>match ldT P t with
   | some l=>bZ G (aev ρ a) fun a=>pM G H l a K
   | none=>False
 | .nilCheck x=>bZ G (aev ρ x) fun
   | .rp cs off=>K (.rp cs off)
   | .op k i f=>K (.op k i f)
   | _=>False
 | .binOp op t x y _=>if uD y=true then bZ G (aev ρ x) fun x=>cT P t=true/\rO op x K else bZ G (aev ρ x) fun x=>bZ G (aev ρ y) fun y=>iN P G op t x y K
 | .unOp op _ x=>bZ G (aev ρ x) fun x=>aun op x K
 | .convert src dst x=>bZ G (aev ρ x) fun x=>zS P src dst x K
 | .slice t x lo hi none=>bZ G (aev ρ x) fun x=>match lo,hi with
   | some lo,some hi=>bZ G (aev ρ lo) fun lo=>bZ G (aev ρ hi) fun hi=>asl P G H t x (some lo) (some hi) K
   | some lo,none=>bZ G (aev ρ lo) fun lo=>asl P G H t x (some lo) none K
   | none,some hi=>bZ G (aev ρ hi) fun hi=>asl P G H t x none (some hi) K
   | none,none=>False
 | .slice t x none (some hi) (some m)=>bZ G (aev ρ x) fun x=>bZ G (aev ρ hi) fun hi=>bZ G (aev ρ m) fun m=>E1 P G t x hi m K
 | .fieldAddr t x f=>bZ G (aev ρ x) fun x=>kC P t f x K
 | .field t x f=>match aO P t f with
   | some (o,l)=>bZ G (aev ρ x) fun x=>apart G o l x K
   | none=>False
 | .indexAddr t x i=>bZ G (aev ρ x) fun x=>bZ G (aev ρ i) fun i=>gG P G H t x i K
 | .index t x i=>bZ G (aev ρ x) fun x=>bZ G (aev ρ i) fun i=>yM P G t x i K
 | .extract x i=>bZ G (aev ρ x) fun
   | .tup vs=>(gt G->i<vs.length)/\K (vs.getD i .any)
   | _=>False
 | .lookup t x i ok=>bZ G (aev ρ x) fun x=>bZ G (aev ρ i) fun i=>vG P H t x i ok K
 | .makeFunc f first cap=>match f with
   | .func f=>first=#[]/\Bo G ρ cap.toList fun l=>K (.fn f l)
   | _=>False
 | _=>False
def cQ(ops:Array Oper)(ρ:Env)(g:Option (Nat×Bool))(K:Option Bool->Prop):Prop:=
 match g with
 | none=>K none
 | some (j,want)=>match (ops[j]?).bind (·.dst)with
   | some t=>match ρ t with
     | .v (.bool b)=>K (some (b == want))
     | .gd g (.v (.bool b))=>K (some (g&&(b == want)))
     | _=>False
   | none=>False
def sG(mt:Nat->Bool):Option Nat->Bool
 | some d=>mt d
 | none=>false
def qB(H:aK)(r:Row)(K:Nat->aK->Prop):Prop:=∀k,H k=none->K k (aI H k (some r))
def nH(cs:List AV)(f:Nat)(xs:List AV):List AV:=cs.take f++xs++cs.drop (f+xs.length)
def kM:List (Nat×TypeId×Nat)->List AV->aK->(List AV->aK->Prop)->Prop
 | [],cs,H,K=>K cs H
 | x::r,cs,H,K=>qB H ⟨x.2.1,x.2.2,[]⟩ fun k H'=>kM r (cs.set x.1 (.os k)) H' K
def Dh(P:Program)(mt:Nat->Bool)(quiet:Bool)(G:Option Bool)(o:Oper)(x:Operand)(ρ:Env)(H:aK)(K:Env->aK->Prop):Prop:=
 if sG mt o.dst=true/\G=none/\quiet=false/\uD x=true then
   match cF P o.type with
   | some (e,sz,_)=>qB H ⟨e,sz,[]⟩ fun k H'=>K (upd ρ o.dst (.os k)) H'
   | none=>False
 else bZ G (aev ρ x) fun y=>K (upd ρ o.dst (wr G y)) H
def akA(mt:Nat->Bool)(o:Oper)(t:TypeId)(cs:List AV)(ρ:Env)(H:aK)(K:Env->aK->Prop):Prop:=
 if sG mt o.dst=true then
   0<cs.length/\qB H ⟨t,cs.length,[cs]⟩ fun k H'=>K (upd ρ o.dst (.op k 0 0)) H'
 else K (upd ρ o.dst (.rp cs 0)) H
def oS(P:Program)(mt:Nat->Bool)(G:Option Bool)(o:Oper)(t:TypeId)(n:Nat)(parts:List (Nat×List AV))(ρ:Env)(H:aK)(K:Env->aK->Prop):Prop:=
 match cF P t with
 | some (e,sz,_)=>
   (parts.map (·.1)=Mp 0 n/\cZ sz (parts.map (·.2))/\n*sz<=16777216) /\
   (if sG mt o.dst=true/\G=none then qB H ⟨e,sz,parts.map (·.2)⟩ fun k H'=>K (upd ρ o.dst (.os k)) H'
    else K (upd ρ o.dst (wr G (.sl (parts.map (·.2))))) H)
 | none=>False
def Ah(P:Program)(o:Oper)(t:TypeId)(a:AV)(cs:List AV)(ρ:Env)(H:aK)(K:Env->aK->Prop):Prop:=
 match a with
 | .op k i f=>match H k,ldT P t with
   | some r, some l => (i < r.es.length /\ cs.length = l.getD 1 /\ f + cs.length <= r.sz /\ (l = none -> ∃ i, P.info? t = some i /\ i.size = 1)) /\
       K (upd ρ o.dst .any) (aI H k (some { r with es:=r.es.set i (nH (r.es.getD i []) f cs) }))
   | _,_=>False
 | _=>False
def uV(P:Program)(o:Oper)(t:TypeId)(a:AV)(cs:List AV)(ρ:Env)(H:aK)(K:Env->aK->Prop):Prop:=
 Ah P o t a cs ρ H K\/((ldT P t).isSome=true/\∃nl:List (Nat×TypeId×Nat),(∀x∈nl,cs[x.1]?=some (.v (.slice none 0 0))/\0<x.2.2)/\kM nl cs H fun cs H=>Ah P o t a cs ρ H K)
def A6(x:Operand)(ρ:Env)(d:Option Nat)(H:aK)(K:Env->aK->Prop):Prop:=
 match x with
 | .tmp t=>match ρ t with
   | .os j=>match H j with
     | some r=>∀Hr:aK,Hr j=none->(∀k,k≠j->Hr k=H k)->K (upd (upd ρ (some t) (.sl r.es)) d (.sl r.es)) Hr
     | none=>False
   | _=>False
 | _=>False
theorem Bc{t j:Nat}{r:Row}{ρ:Env}{d:Option Nat}{H:aK}{K:Env->aK->Prop}(I:ρ t=.os j)(F:H j=some r)(h:∀E:aK,E j=none->(∀k,k≠j->E k=H k)->K (upd (upd ρ (some t) (.sl r.es)) d (.sl r.es)) E):A6 (.tmp t) ρ d H K:=by
 unfold A6;simp only[I,F];exact h
def Kk(l:List Nat)(H:aK):List AV->List AV->Prop
 | [],[]=>True
 | x::xs,y::ys=>(x=y\/∃j r,j∈l/\x=.os j/\H j=some r/\y=.sl r.es)/\Kk l H xs ys
 | _,_=>False
def Jz(x:AV)(ρ:Env)(d:Option Nat)(H:aK)(K:Env->aK->Prop):Prop:=
 match x with
 | .agg cs=>∃(l:List Nat) (ys:List AV),Kk l H cs ys/\∀Hr:aK,(∀k,k∈l->Hr k=none)->(∀k,¬k∈l->Hr k=H k)->K (upd ρ d (.agg ys)) Hr
 | _=>False
def zW(H:aK)(x:AV)(K:List (List AV)->Prop):Prop:=
 match x with
 | .sl es=>K es
 | .os k=>match H k with
   | some r=>K r.es
   | none=>False
 | .oz k a b=>match H k with
   | some r=>K ((r.es.take b).drop a)
   | none=>False
 | _=>False
def IG(H:aK)(x:AV)(K:Nat->Nat->Nat->Row->Prop):Prop:=
 match x with
 | .os k=>match H k with
   | some r=>K k 0 r.es.length r
   | none=>False
 | .oz k a b=>match H k with
   | some r=>K k a (b-a) r
   | none=>False
 | _=>False
def VC(P:Program)(o:Oper)(t:TypeId)(x y:AV)(ρ:Env)(H:aK)(K:Env->aK->Prop):Prop:=
 IG H x fun k a n r=>zW H y fun news=>match cF P t with
   | some (_,sz,_)=>(r.sz=sz/\cZ sz news)/\K (upd ρ o.dst (.v (.int .i64 (min news.length n:Nat)))) (aI H k (some { r with es:=r.es.take a++news.take (min news.length n)++r.es.drop (a+min news.length n) }))
   | none=>False
def Lh(P:Program)(o:Oper)(t:TypeId)(x:AV)(ρ:Env)(H:aK)(K:Env->aK->Prop):Prop:=
 IG H x fun k a n r=>match cF P t with
   | some (e,sz,_)=>match dU P e with
     | some zs=>r.sz=sz/\K (upd ρ o.dst .any) (aI H k (some { r with es:=r.es.take a++List.replicate n zs++r.es.drop (a+n) }))
     | none=>False
   | none=>False
def uP(P:Program)(o:Oper)(t:TypeId)(s x:AV)(ρ:Env)(H:aK)(K:Env->aK->Prop):Prop:=
 match s,cF P t with
 | .os k,some (e,sz,bytes)=>match H k with
   | some r => zW H x fun news =>
       (r.e=e/\r.sz=sz/\cZ sz news/\(r.es.length+news.length)*bytes<=140737488355328) /\
       ∀k',H k'=none->K (upd ρ o.dst (.os k')) (aI (aI H k none) k' (some ⟨e,sz,r.es++news⟩))
   | none=>False
 | .cl es, some (e, sz, bytes) => zW H x fun news =>
     (news≠[]/\cZ sz es/\cZ sz news/\(es.length+news.length)*bytes<=140737488355328) /\
     ∀k',H k'=none->K (upd ρ o.dst (.os k')) (aI H k' (some ⟨e,sz,es++news⟩))
 | .v (.slice none 0 0), some (e, sz, bytes) => zW H x fun news =>
     (news≠[]/\cZ sz ([]:List (List AV))/\cZ sz news/\(([]:List (List AV)).length+news.length)*bytes<=140737488355328) /\
     ∀k',H k'=none->K (upd ρ o.dst (.os k')) (aI H k' (some ⟨e,sz,[]++news⟩))
 | _,_=>False
def Kc:List (Nat×TypeId×Nat)->List AV->List AV
 | [],z=>z
 | x::r,z=>Kc r (z.set x.1 (.v (.slice none 0 0)))
def Bb(P:Program)(o:Oper)(t:TypeId)(parts:List (Nat×Operand))(ρ:Env)(H:aK)(K:Env->aK->Prop):Prop:=
 qZ none ρ parts fun l=>match dU P t,eN P t,tU P t with
   | some z,some pl,some nl=>match rY pl (Kc nl z) l with
     | some cs=>K (upd ρ o.dst (.agg cs)) H
     | none=>False
   | _,_,_=>False
def Di(P:Program)(o:Oper)(t:TypeId)(parts:List (Nat×Operand))(ρ:Env)(H:aK)(K:Env->aK->Prop):Prop:=
 qZ none ρ parts fun l=>match dU P t,eN P t,tU P t with
   | some z,some pl,some nl=>kM nl z H fun z H=>match rY pl z l with
     | some cs=>K (upd ρ o.dst (.agg cs)) H
     | none=>False
   | _,_,_=>False
def mE(P:Program)(o:Oper)(t:TypeId)(m x v:AV)(ρ:Env)(H:aK)(K:Env->aK->Prop):Prop:=
 Er P H t m x fun j r _ oi=>K (upd ρ o.dst .any) (aI H j (some { r with es:=Xv r.es oi x v }))
def Bf(P:Program)(o:Oper)(t:TypeId)(m x:AV)(ρ:Env)(H:aK)(K:Env->aK->Prop):Prop:=
 Er P H t m x fun j r kt oi=>match oi with
   | some i=>K (upd ρ o.dst (.tup [(r.es.getD i []).getD 1 .any,.v (.int .i64 i)])) H
   | none=>match Kd P kt.2 with
     | some z=>K (upd ρ o.dst (.tup [z,.v (.int .i64 r.es.length)])) (aI H j (some { r with es:=r.es++[[x,z]] }))
     | none=>False
def uS(o:Oper)(m s v:AV)(ρ:Env)(H:aK)(K:Env->aK->Prop):Prop:=
 match m,s with
 | .om j,.v (.int _ i)=>match H j with
   | some r=>(0<=i/\i<r.es.length)/\K (upd ρ o.dst .any) (aI H j (some { r with es:=r.es.set i.toNat [(r.es.getD i.toNat []).getD 0 .any,v] }))
   | none=>False
 | _,_=>False
def tZ(P:Program)(o:Oper)(t:TypeId)(l c:AV)(ρ:Env)(H:aK)(K:Env->aK->Prop):Prop:=
 match l,c with
 | .v (.int _ a),.v (.int _ b)=>match cF P t with
   | some (e,sz,bytes)=>match dU P e with
     | some z=>((0<=a/\a<=b)/\(bytes:Int)*b<=140737488355328)/\qB H ⟨e,sz,List.replicate a.toNat z⟩ fun k H'=>K (upd ρ o.dst (.os k)) H'
     | none=>False
   | none=>False
 | _,_=>False
def Ni:AV->Option (FuncId×List AV×List AV)
 | .v (.func (.func f) first captured)=>some (f,first.toList.map .v,captured.toList.map .v)
 | .fn f cap=>some (f,[],cap)
 | _=>none
def aG(P:Program)(f:FuncId):Bool:=match P.funcs[f]? with|some fn=>fn.name != "runtime.NumGoroutine" && fn.body.isSome|none=>false
abbrev mD:=FuncId->List AV->aK->(AV->aK->Prop)->Prop
def nfq(quiet:Bool)(r:AV)(K:AV->Prop):Prop:=match quiet,r with
 | true,.nf _=>False
 | false,.nf x=>K x
 | _,r=>K r
def Cj(P:Program)(C:mD)(PC:FuncId->List AV->aK->AV->Prop)(nl quiet:Bool)(G:Option Bool)(o:Oper)(c:Call)(ρ:Env)(H:aK)(K:Env->aK->Prop):Prop:=
 match c.callee with
 | .builtin b=>Bo G ρ c.args.toList fun l=>match b,l,c.argTypes.toList with
   | .len,[x],[t]=>Iw P H t x fun y=>K (upd ρ o.dst (wr G y)) H
   | .append,[s,x],[t,t']=>if t=t'/\G=none/\quiet=false then uP P o t s x ρ H K else False
   | .copy,[x,y],[t,_]=>if G=none/\quiet=false then VC P o t x y ρ H K else False
   | .clear,[x],[t]=>if G=none/\quiet=false then Lh P o t x ρ H K else False
   | .max,[x,y],[_,_]=>TH x y fun z=>K (upd ρ o.dst (wr G z)) H
   | .min,[x,y],[_,_]=>RB x y fun z=>K (upd ρ o.dst (wr G z)) H
   | _,_,_=>False
 | .value f=>bZ G (aev ρ f) fun x=>match Ni x with
   | some (f,first,captured)=>if nl=true then G=none/\quiet=false/\aG P f=true/\C f (first++c.args.toList.map (Mo ρ)++captured) H fun r H'=>K (upd ρ o.dst r) H' else Bo G ρ c.args.toList fun l=>
     aG P f=true/\if G=none/\quiet=false then C f (first++l++captured) H fun r H'=>K (upd ρ o.dst r) H'
     else ∃r,(gt G->PC f (first++l++captured) H r)/\nfq quiet r fun r=>K (upd ρ o.dst (wr G r)) H
   | none=>False
 | .invoke _ _=>False
def aop(P:Program)(C:mD)(PC:FuncId->List AV->aK->AV->Prop)(mt:Nat->Bool)(quiet:Bool)(ops:Array Oper)(o:Oper)(ρ:Env)(H:aK)(K:Env->aK->Prop):Prop:=
 cQ ops ρ o.guard fun G=>
 match o.op with
 | .assign x=>Dh P mt quiet G o x ρ H K
 | .alloc t=>match dU P t with
   | some z => G = none /\ quiet = false /\ (if sG mt o.dst = true then match tU P t with
       | some nl=>kM nl z H fun z H=>qB H ⟨t,z.length,[z]⟩ fun k H'=>K (upd ρ o.dst (.op k 0 0)) H'
       | none=>False
     else qB H ⟨t,z.length,[z]⟩ fun k H'=>K (upd ρ o.dst (.op k 0 0)) H')
   | none=>False
 | .box t x=>G=none/\quiet=false/\bZ G (aev ρ x) fun x=>nC x fun cs=>akA mt o t cs ρ H K
 | .buildSlice t n parts=>quiet=false/\qZ G ρ parts.toList fun l=>oS P mt G o t n l ρ H K
 | .store t a x => G = none /\ quiet = false /\ (if uD x = true then bZ G (aev ρ a) fun a => match cF P t with
       | some (e,sz,_)=>qB H ⟨e,sz,[]⟩ fun k H=>uV P o t a [.os k] ρ H K
       | none=>False
     else bZ G (aev ρ a) fun a=>bZ G (aev ρ x) fun x=>nC x fun cs=>uV P o t a cs ρ H K)
 | .call c=>Cj P C PC (sG mt o.dst) quiet G o c ρ H K
 | .move x=>if sG mt o.dst=true then G=none/\quiet=false/\A6 x ρ o.dst H K else iP P G ρ H (.move x) fun x=>K (upd ρ o.dst (wr G x)) H
 | .pick c a b=>iP P G ρ H (.pick c a b) fun x=>K (upd ρ o.dst (wr G x)) H
 | .build t parts=>if sG mt o.dst=true then G=none/\(if quiet=true then Bb P o t parts.toList ρ H K else Di P o t parts.toList ρ H K)else iP P G ρ H (.build t parts) fun x=>K (upd ρ o.dst (wr G x)) H
 | .load t a=>if sG mt o.dst=true then G=none/\quiet=false/\iP P none ρ H (.load t a) fun x=>Jz x ρ o.dst H K else iP P G ρ H (.load t a) fun x=>K (upd ρ o.dst (wr G x)) H
 | .nilCheck x=>iP P G ρ H (.nilCheck x) fun x=>K (upd ρ o.dst (wr G x)) H
 | .binOp op t x y t'=>iP P G ρ H (.binOp op t x y t') fun x=>K (upd ρ o.dst (wr G x)) H
 | .unOp op t x=>iP P G ρ H (.unOp op t x) fun x=>K (upd ρ o.dst (wr G x)) H
 | .convert s d x=>iP P G ρ H (.convert s d x) fun x=>K (upd ρ o.dst (wr G x)) H
 | .slice t x lo hi m=>iP P G ρ H (.slice t x lo hi m) fun x=>K (upd ρ o.dst (wr G x)) H
 | .fieldAddr t x f=>iP P G ρ H (.fieldAddr t x f) fun x=>K (upd ρ o.dst (wr G x)) H
 | .field t x f=>iP P G ρ H (.field t x f) fun x=>K (upd ρ o.dst (wr G x)) H
 | .indexAddr t x i=>iP P G ρ H (.indexAddr t x i) fun x=>K (upd ρ o.dst (wr G x)) H
 | .index t x i=>iP P G ρ H (.index t x i) fun x=>K (upd ρ o.dst (wr G x)) H
 | .extract x i=>iP P G ρ H (.extract x i) fun x=>K (upd ρ o.dst (wr G x)) H
 | .makeFunc f a b=>iP P G ρ H (.makeFunc f a b) fun x=>K (upd ρ o.dst (wr G x)) H
 | .makeSlice t l c=>G=none/\quiet=false/\bZ G (aev ρ l) fun l=>bZ G (aev ρ c) fun c=>tZ P o t l c ρ H K
 | .lookup t x i ok=>iP P G ρ H (.lookup t x i ok) fun x=>K (upd ρ o.dst (wr G x)) H
 | .makeMap _ none=>G=none/\quiet=false/\qB H ⟨0,2,[]⟩ fun k H'=>K (upd ρ o.dst (.om k)) H'
 | .mapUpdate t m x v=>G=none/\quiet=false/\bZ G (aev ρ m) fun m=>bZ G (aev ρ x) fun x=>bZ G (aev ρ v) fun v=>mE P o t m x v ρ H K
 | .insert t m x v=>G=none/\quiet=false/\bZ G (aev ρ m) fun m=>bZ G (aev ρ x) fun x=>bZ G (aev ρ v) fun v=>mE P o t m x v ρ H K
 | .mapEntry t m x=>G=none/\quiet=false/\bZ G (aev ρ m) fun m=>bZ G (aev ρ x) fun x=>Bf P o t m x ρ H K
 | .entryStore _ m s v=>G=none/\quiet=false/\bZ G (aev ρ m) fun m=>bZ G (aev ρ s) fun s=>bZ G (aev ρ v) fun v=>uS o m s v ρ H K
 | _=>False
def xR(P:Program)(C:mD)(PC:FuncId->List AV->aK->AV->Prop)(mt:Nat->Bool)(quiet:Bool)(ops:Array Oper)(K:Env->aK->Prop):List Oper->Env->aK->Prop
 | [],ρ,H=>K ρ H
 | o::rest,ρ,H=>aop P C PC mt quiet ops o ρ H (xR P C PC mt quiet ops K rest)
def Ex.seq(K:Env->aK->Prop)(Q:Ex->Env->aK->Prop):Ex->Env->aK->Prop
 | .normal,ρ,H=>K ρ H
 | e,ρ,H=>Q e ρ H
def Ex.blk(id:Nat)(Q:Ex->Env->aK->Prop):Ex->Env->aK->Prop
 | .exit i,ρ,H=>if i=id then Q .normal ρ H else Q (.exit i) ρ H
 | e,ρ,H=>Q e ρ H
def VG(W:(Ex->Env->aK->Prop)->Env->aK->Prop)(Q:Ex->Env->aK->Prop)(ρ:Env)(H:aK):Prop:=
 ∃(I:Env->aK->Prop) (μ:Env->aK->Nat),I ρ H/\∀ρ' H',I ρ' H'->W (Ex.seq (fun ρ'' H''=>I ρ'' H''/\μ ρ'' H''<μ ρ' H') Q) ρ' H'
def alZ(mt:Nat->Bool)(o:Oper):Bool:=match o.op with
 | .alloc _=>true
 | .buildSlice ..=>true
 | .store ..=>true
 | .makeSlice ..=>true
 | .makeMap ..=>true
 | .mapUpdate ..=>true
 | .insert ..=>true
 | .mapEntry ..=>true
 | .entryStore ..=>true
 | .call ⟨.builtin .append,_,_⟩=>true
 | .call ⟨.builtin .copy,_,_⟩=>true
 | .call ⟨.builtin .clear,_,_⟩=>true
 | _=>sG mt o.dst
def Uw(mt:Nat->Bool):List Oper->Nat
 | []=>0
 | o::r=>if alZ mt o=true then 0 else Uw mt r+1
def Ur(ops:Array Oper)(n:Nat):Bool:=Region.noSelect ops&&decide (n<=ops.size)&&Region.lexHead .any ops (ops.size-n) n 0 (Array.replicate ops.size false)
def qH(o:Oper)(H:aK):aK:=match o.op with
 | .slice ..=>H
 | _=>fun _=>none
def AS(P:Program)(C:mD)(PC:FuncId->List AV->aK->AV->Prop)(mt:Nat->Bool)(ops:Array Oper)(K:Env->aK->Prop):List (Nat×Bool)->Env->aK->Prop
 | [],ρ,H=>K ρ H
 | (k,b)::f,ρ,H=>match ops[k]? with
   | some o=>if b=true then aop P C PC mt true ops o ρ (qH o H) fun ρ' _=>AS P C PC mt ops K f ρ' H
     else aop P C PC mt false ops o ρ H (AS P C PC mt ops K f)
   | none=>False
def rF(P:Program)(C:mD)(PC:FuncId->List AV->aK->AV->Prop)(mt:Nat->Bool)(ops:Array Oper)(K:Env->aK->Prop)(Hp:aK):List (Nat×Bool)->Env->aK->Prop
 | [],ρ,H=>K ρ H
 | (k,b)::f,ρ,H=>match ops[k]? with
   | some o=>if b=true then aop P C PC mt true ops o ρ Hp fun ρ' _=>rF P C PC mt ops K Hp f ρ' H
     else aop P C PC mt false ops o ρ H (rF P C PC mt ops K Hp f)
   | none=>False
def nB(l:List Nat)(H:aK)(K:Env->aK->Prop)(ρ':Env)(H':aK):Prop:=
 (∀k,k∈l->H' k=none)->∀Hm:aK,(∀k,k∈l->Hm k=H k)->(∀k,k∉l->Hm k=H' k)->K ρ' Hm
theorem iO{l:List Nat}{H:aK}{K:Env->aK->Prop}{E:Env}{H':aK}(h:(∀k,k∈l->H' k=none)->∀F:aK,(∀k,k∈l->F k=H k)->(∀k,k∉l->F k=H' k)->K E F):nB l H K E H':=h
def pN(ops:Array Oper):List (Nat×Bool)->Array Bool->Bool
 | [],listed=>(Region.ready .any ops listed).isEmpty
 | (k,true)::f,listed=>(Region.ready .any ops listed).contains k&&Region.free .any ops listed k&&pN ops f (listed.setIfInBounds k true)
 | (k,false)::f,listed=>decide (Region.ready .any ops listed=[k])&&pN ops f (listed.setIfInBounds k true)
def Of(ops:Array Oper)(f:List (Nat×Bool)):Bool:=Region.noSelect ops&&decide (f.length=ops.size)&&pN ops f (Array.replicate ops.size false)
inductive Mx where
 | nil
 | q (k:Nat) (t:Mx)
 | a1 (k:Nat) (t:Mx)
 | a2 (k:Nat) (t:Mx) (k':Nat) (t':Mx)
 | a3 (k:Nat) (t:Mx) (k':Nat) (t':Mx) (k'':Nat) (t'':Mx)
def BY(P:Program)(C:mD)(PC:FuncId->List AV->aK->AV->Prop)(mt:Nat->Bool)(quiet:Bool)(ops:Array Oper)(k:Nat)(ρ:Env)(H:aK)(K:Env->aK->Prop):Prop:=
 match ops[k]? with
 | some o=>aop P C PC mt quiet ops o ρ H K
 | none=>False
def nL(P:Program)(C:mD)(PC:FuncId->List AV->aK->AV->Prop)(mt:Nat->Bool)(ops:Array Oper)(K:Env->aK->Prop)(Hp:aK):Mx->Env->aK->Prop
 | .nil,ρ,H=>K ρ H
 | .q k t,ρ,H=>BY P C PC mt true ops k ρ Hp fun ρ' _=>nL P C PC mt ops K Hp t ρ' H
 | .a1 k t,ρ,H=>BY P C PC mt false ops k ρ H (nL P C PC mt ops K Hp t)
 | .a2 k t k' t',ρ,H=>BY P C PC mt false ops k ρ H (nL P C PC mt ops K Hp t)/\BY P C PC mt false ops k' ρ H (nL P C PC mt ops K Hp t')
 | .a3 k t k' t' k'' t'',ρ,H=>BY P C PC mt false ops k ρ H (nL P C PC mt ops K Hp t)/\BY P C PC mt false ops k' ρ H (nL P C PC mt ops K Hp t')/\BY P C PC mt false ops k'' ρ H (nL P C PC mt ops K Hp t'')
def gF(ops:Array Oper):Mx->Nat->Array Bool->Bool
 | .nil,0,listed=>(Region.ready .any ops listed).isEmpty
 | .q k t,n+1,listed=>(Region.ready .any ops listed).contains k&&Region.free .any ops listed k&&gF ops t n (listed.setIfInBounds k true)
 | .a1 k t,n+1,listed=>decide (Region.ready .any ops listed=[k])&&gF ops t n (listed.setIfInBounds k true)
 | .a2 k t k' t',n+1,listed=>decide (Region.ready .any ops listed=[k,k'])&&gF ops t n (listed.setIfInBounds k true)&&gF ops t' n (listed.setIfInBounds k' true)
 | .a3 k t k' t' k'' t'',n+1,listed=>decide (Region.ready .any ops listed=[k,k',k''])&&gF ops t n (listed.setIfInBounds k true)&&gF ops t' n (listed.setIfInBounds k' true)&&gF ops t'' n (listed.setIfInBounds k'' true)
 | _,_,_=>false
def Kp(ops:Array Oper)(t:Mx):Bool:=Region.noSelect ops&&gF ops t ops.size (Array.replicate ops.size false)
def uY(P:Program)(C:mD)(PC:FuncId->List AV->aK->AV->Prop)(mt:Nat->Bool)(ops:Array Oper)(K:Env->aK->Prop)(m:Nat)(ρ:Env)(H:aK):Prop:=
 (m=ops.size/\Region.lexB .any ops=true/\xR P C PC mt true ops K ops.toList ρ H) \/
 (Ur ops m=true/\xR P C PC mt true ops (fun ρ' _=>xR P C PC mt false ops K (ops.toList.drop m) ρ' H) (ops.toList.take m) ρ fun _=>none) \/
 (∃f,Of ops f=true/\AS P C PC mt ops K f ρ H) \/
 (∃l f,(∀k,k∈l->(H k).isSome=true)/\Of ops f=true/\∀Hp Hr:aK,(∀k,k∈l->Hp k=H k)->(∀k,k∉l->Hr k=H k)->(∀k,k∉l->Hp k=none)->(∀k,k∈l->Hr k=none)->rF P C PC mt ops (nB l H K) Hp f ρ Hr) \/
 ∃l t,(∀k,k∈l->(H k).isSome=true)/\Kp ops t=true/\∀Hp Hr:aK,(∀k,k∈l->Hp k=H k)->(∀k,k∉l->Hr k=H k)->(∀k,k∉l->Hp k=none)->(∀k,k∈l->Hr k=none)->nL P C PC mt ops (nB l H K) Hp t ρ Hr
theorem cN{P:Program}{C:mD}{PC:FuncId->List AV->aK->AV->Prop}{mt:Nat->Bool}{l:List Oper}{K:Env->aK->Prop}{m:Nat}{ρ:Env}{H:aK}(F:(m == l.length)=true)(E:Region.lexB .any l.toArray=true)
 (h:xR P C PC mt true l.toArray K l ρ H):uY P C PC mt l.toArray K m ρ H:=.inl ⟨by simpa using F,E,h⟩
theorem FD{P:Program}{C:mD}{PC:FuncId->List AV->aK->AV->Prop}{mt:Nat->Bool}{l:List Oper}{K:Env->aK->Prop}{m:Nat}{ρ:Env}{H:aK}(F:Ur l.toArray m=true)
 (h:xR P C PC mt true l.toArray (fun E _=>xR P C PC mt false l.toArray K (l.drop m) E H) (l.take m) ρ fun _=>none):uY P C PC mt l.toArray K m ρ H:=.inr (.inl ⟨F,h⟩)
theorem xM{P:Program}{C:mD}{PC:FuncId->List AV->aK->AV->Prop}{mt:Nat->Bool}{l:List Oper}{K:Env->aK->Prop}{m:Nat}{ρ:Env}{H:aK}(f:List (Nat×Bool))(E:Of l.toArray f=true)
 (h:AS P C PC mt l.toArray K f ρ H):uY P C PC mt l.toArray K m ρ H:=.inr (.inr (.inl ⟨f,E,h⟩))
theorem gB{P:Program}{C:mD}{PC:FuncId->List AV->aK->AV->Prop}{mt:Nat->Bool}{ops:List Oper}{K:Env->aK->Prop}{m:Nat}{ρ:Env}{H:aK}(l:List Nat)(f:List (Nat×Bool))(I:∀k,k∈l->(H k).isSome=true)(F:Of ops.toArray f=true)
 (h:∀Hp E:aK,(∀k,k∈l->Hp k=H k)->(∀k,k∉l->E k=H k)->(∀k,k∉l->Hp k=none)->(∀k,k∈l->E k=none)->rF P C PC mt ops.toArray (nB l H K) Hp f ρ E):uY P C PC mt ops.toArray K m ρ H:=.inr (.inr (.inr (.inl ⟨l,f,I,F,h⟩)))
theorem LD{P:Program}{C:mD}{PC:FuncId->List AV->aK->AV->Prop}{mt:Nat->Bool}{ops:List Oper}{K:Env->aK->Prop}{m:Nat}{ρ:Env}{H:aK}(l:List Nat)(t:Mx)(I:∀k,k∈l->(H k).isSome=true)(F:Kp ops.toArray t=true)
 (h:∀Hp E:aK,(∀k,k∈l->Hp k=H k)->(∀k,k∉l->E k=H k)->(∀k,k∉l->Hp k=none)->(∀k,k∈l->E k=none)->nL P C PC mt ops.toArray (nB l H K) Hp t ρ E):uY P C PC mt ops.toArray K m ρ H:=.inr (.inr (.inr (.inr ⟨l,t,I,F,h⟩)))
def awp(P:Program)(C:mD)(PC:FuncId->List AV->aK->AV->Prop)(mt:Nat->Bool):Code->(Ex->Env->aK->Prop)->Env->aK->Prop
 | .skip,Q,ρ,H=>Q .normal ρ H
 | .region _ ops draw,Q,ρ,H=>if draw=true then uY P C PC mt ops (Q .normal) (Uw mt ops.toList) ρ H else xR P C PC mt false ops (Q .normal) ops.toList ρ H
 | .seq a b,Q,ρ,H=>awp P C PC mt a (Ex.seq (awp P C PC mt b Q) Q) ρ H
 | .cond c a b,Q,ρ,H=>match aev ρ c with
   | .v (.bool t)=>(t=true->awp P C PC mt a Q ρ H)/\(t=false->awp P C PC mt b Q ρ H)
   | _=>False
 | .block id c,Q,ρ,H=>awp P C PC mt c (Ex.blk id Q) ρ H
 | .loop c,Q,ρ,H=>VG (awp P C PC mt c) Q ρ H
 | .scope c,Q,ρ,H=>awp P C PC mt c Q ρ H
 | .label _,Q,ρ,H=>Q .normal ρ H
 | .exit id,Q,ρ,H=>Q (.exit id) ρ H
 | .ret,Q,ρ,H=>Q .ret ρ H
 | _,_,_,_=>False
def Ai(x:AV)(A B:Env->aK->Prop)(ρ:Env)(H:aK):Prop:=
 match x with
 | .v (.bool t)=>(t=true->A ρ H)/\(t=false->B ρ H)
 | _=>False
section
variable{P:Program}{C:mD}{PC:FuncId->List AV->aK->AV->Prop}{mt:Nat->Bool}{Q:Ex->Env->aK->Prop}{K:Env->aK->Prop}{ρ:Env}{H:aK}{a b c:Code}{id:Nat}{ops:Array Oper}{draw:Bool}
theorem YG:awp P C PC mt .skip Q ρ H=Q .normal ρ H:=(rfl)
theorem HI:awp P C PC mt (.region id ops false) Q ρ H=xR P C PC mt false ops (Q .normal) ops.toList ρ H:=by simp[awp]
theorem OH:awp P C PC mt (.region id ops true) Q ρ H=uY P C PC mt ops (Q .normal) (Uw mt ops.toList) ρ H:=by simp[awp]
@[congr] theorem adraw_c {m m':Nat} (h:m=m'):uY P C PC mt ops K m ρ H=uY P C PC mt ops K m' ρ H:=h▸rfl
theorem Ue:awp P C PC mt (.seq a b) Q ρ H=awp P C PC mt a (Ex.seq (awp P C PC mt b Q) Q) ρ H:=(rfl)
theorem M9{x:Operand}:awp P C PC mt (.cond x a b) Q ρ H=Ai (aev ρ x) (awp P C PC mt a Q) (awp P C PC mt b Q) ρ H:=(rfl)
theorem Jy:awp P C PC mt (.block id c) Q ρ H=awp P C PC mt c (Ex.blk id Q) ρ H:=(rfl)
theorem Pw:awp P C PC mt (.loop c) Q ρ H=VG (awp P C PC mt c) Q ρ H:=(rfl)
theorem Kf:awp P C PC mt (.scope c) Q ρ H=awp P C PC mt c Q ρ H:=(rfl)
theorem XG{l:Nat}:awp P C PC mt (.label l) Q ρ H=Q .normal ρ H:=(rfl)
theorem X7:awp P C PC mt (.exit id) Q ρ H=Q (.exit id) ρ H:=(rfl)
theorem ajK:awp P C PC mt .ret Q ρ H=Q .ret ρ H:=(rfl)
theorem YF:xR P C PC mt draw ops K [] ρ H=K ρ H:=(rfl)
theorem VV{o:Oper}{r:List Oper}:xR P C PC mt draw ops K (o::r) ρ H=aop P C PC mt draw ops o ρ H (xR P C PC mt draw ops K r):=(rfl)
theorem RN:Ex.seq K Q .normal ρ H=K ρ H:=(rfl)
theorem Zp:Ex.seq K Q (.exit id) ρ H=Q (.exit id) ρ H:=(rfl)
theorem agQ:Ex.seq K Q .ret ρ H=Q .ret ρ H:=(rfl)
theorem Ra:Ex.blk id Q .normal ρ H=Q .normal ρ H:=(rfl)
theorem Uh:Ex.blk id Q .ret ρ H=Q .ret ρ H:=(rfl)
theorem On:Ex.blk id Q (.exit id) ρ H=Q .normal ρ H:=by simp[Ex.blk]
theorem VJ{i:Nat}(h:(i == id)=false):Ex.blk id Q (.exit i) ρ H=Q (.exit i) ρ H:=by
 have:i≠id:=by simpa using h
 simp[Ex.blk,this]
end
@[congr] theorem wopd_c {G x x' k} (h:x=x'):bZ G x k=bZ G x' k:=h▸rfl
@[congr] theorem abin_c {P G op t x x' y y' k} (h:x=x') (h':y=y'):iN P G op t x y k=iN P G op t x' y' k:=h▸h'▸rfl
@[congr] theorem apick_c {G c c' x x' y y' k} (h0:c=c') (h:x=x') (h':y=y'):Bp G c x y k=Bp G c' x' y' k:=h0▸h▸h'▸rfl
@[congr] theorem aload_c {G H l l' x x' k} (h:l=l') (h':x=x'):pM G H l x k=pM G H l' x' k:=h▸h'▸rfl
@[congr] theorem apart_c {G o o' l l' x x' k} (h0:o=o') (h:l=l') (h':x=x'):apart G o l x k=apart G o' l' x' k:=h0▸h▸h'▸rfl
@[congr] theorem alen_c {P H t x x' k} (h':x=x'):Iw P H t x k=Iw P H t x' k:=h'▸rfl
@[congr] theorem aindexAddr_c {P G H t x x' y y' k} (h:x=x') (h':y=y'):gG P G H t x y k=gG P G H t x' y' k:=h▸h'▸rfl
@[congr] theorem aindex_c {P G t x x' y y' k} (h:x=x') (h':y=y'):yM P G t x y k=yM P G t x' y' k:=h▸h'▸rfl
@[congr] theorem afieldAddr_c {P t f x x' k} (h':x=x'):kC P t f x k=kC P t f x' k:=h'▸rfl
@[congr] theorem abuild_c {P t l l' k} (h':l=l'):yR P t l k=yR P t l' k:=h'▸rfl
@[congr] theorem aslice_c {P G t x x' lo lo' hi hi' k} (h:x=x') (h1:lo=lo') (h2:hi=hi'):nF P G t x lo hi k=nF P G t x' lo' hi' k:=h▸h1▸h2▸rfl
@[congr] theorem aun_c {op x x' k} (h':x=x'):aun op x k=aun op x' k:=h'▸rfl
@[congr] theorem aconv_c {P s t x x' k} (h':x=x'):zS P s t x k=zS P s t x' k:=h'▸rfl
@[congr] theorem wcells_c {x x' K} (h:x=x'):nC x K=nC x' K:=h▸rfl
@[congr] theorem acond_c {x x' A B ρ H} (h':x=x'):Ai x A B ρ H=Ai x' A B ρ H:=h'▸rfl
@[congr] theorem abox_c {mt o t x x' ρ H K} (h:x=x'):akA mt o t x ρ H K=akA mt o t x' ρ H K:=h▸rfl
@[congr] theorem abuildSlice_c {P mt G o t n x x' ρ H K} (h:x=x'):oS P mt G o t n x ρ H K=oS P mt G o t n x' ρ H K:=h▸rfl
@[congr] theorem astore_c {P o t a a' x x' ρ H K} (h:a=a') (h':x=x'):Ah P o t a x ρ H K=Ah P o t a' x' ρ H K:=h▸h'▸rfl
@[congr] theorem aappend_c {P o t a a' x x' ρ H K} (h:a=a') (h':x=x'):uP P o t a x ρ H K=uP P o t a' x' ρ H K:=h▸h'▸rfl
@[congr] theorem asrc_c {H x x' K} (h:x=x'):zW H x K=zW H x' K:=h▸rfl
@[congr] theorem anew_c {H r r' K} (h:r=r'):qB H r K=qB H r' K:=h▸rfl
theorem aB{t:Bool}{A B:Env->aK->Prop}{ρ:Env}{H:aK}(h1:t=true->A ρ H)(E:t=false->B ρ H):Ai (.v (.bool t)) A B ρ H:=⟨h1,E⟩
def DH(args:List AV):Env:=fun t=>args.getD t .any
def aV:AV->Nat
 | .v (.int _ n)=>n.toNat
 | _=>0
theorem aE{k n}:aV (.v (.int k n))=n.toNat:=(rfl)
section
variable{G:Option Bool}{k:AV->Prop}
theorem acF{x}:bZ G (.v x) k=k (.v x):=(rfl)
theorem Pg:bZ G .any k=k .any:=(rfl)
theorem Uy{x}:bZ G (.sl x) k=k (.sl x):=(rfl)
theorem UA{x o}:bZ G (.rp x o) k=k (.rp x o):=(rfl)
theorem Pn{x}:bZ G (.agg x) k=k (.agg x):=(rfl)
theorem NN{x}:bZ G (.tup x) k=k (.tup x):=(rfl)
theorem U0{x}:bZ G (.os x) k=k (.os x):=(rfl)
theorem Uf{x i f}:bZ G (.op x i f) k=k (.op x i f):=(rfl)
theorem Ua{f l}:bZ G (.fn f l) k=k (.fn f l):=(rfl)
theorem Uu{j a b}:bZ G (.oz j a b) k=k (.oz j a b):=(rfl)
theorem U3{es}:bZ G (.cl es) k=k (.cl es):=(rfl)
theorem Ve{j}:bZ G (.om j) k=k (.om j):=(rfl)
theorem UW{g x}:bZ G (.gd g x) k=(gok G g/\k x):=(rfl)
end
def Vj(K:Env->aK->Prop)(ρ:Env)(d:Option Tmp)(j:Nat)(H:aK):Prop:=K (upd ρ d (.os j)) H
def Vk(K:Env->aK->Prop)(ρ:Env)(d:Option Tmp)(j:Nat)(H:aK):Prop:=K (upd ρ d (.op j 0 0)) H
def PI(K:Env->aK->Prop)(ρ:Env)(d:Option Tmp)(r:AV)(H:aK):Prop:=K (upd ρ d r) H
theorem Pa{K ρ d j H}:Vj K ρ d j H=K (upd ρ d (.os j)) H:=(rfl)
theorem N6{K ρ d j H}:Vk K ρ d j H=K (upd ρ d (.op j 0 0)) H:=(rfl)
theorem OT{K ρ d r H}:PI K ρ d r H=K (upd ρ d r) H:=(rfl)
def wpick(G:Option Bool)(c x y:AV)(k:AV->Prop):Prop:=match c with
 | .v (.bool c)=>Bp G c x y k
 | _=>False
@[congr] theorem wpick_c {G c c' x y k} (h:c=c'):wpick G c x y k=wpick G c' x y k:=h▸rfl
theorem Vr{G c x y k}:wpick G (.v (.bool c)) x y k=Bp G c x y k:=(rfl)
def abU(x:AV)(k:AV->Prop):Prop:=match x with
 | .rp cs off=>k (.rp cs off)
 | .op j i f=>k (.op j i f)
 | _=>False
@[congr] theorem wptr_c {x x' k} (h:x=x'):abU x k=abU x' k:=h▸rfl
theorem T9{cs o k}:abU (.rp cs o) k=k (.rp cs o):=(rfl)
theorem UY{j i f k}:abU (.op j i f) k=k (.op j i f):=(rfl)
def akX(G:Option Bool)(x:AV)(i:Nat)(k:AV->Prop):Prop:=match x with
 | .tup vs=>(gt G->i<vs.length)/\k (vs.getD i .any)
 | _=>False
@[congr] theorem wtup_c {G x x' i k} (h:x=x'):akX G x i k=akX G x' i k:=h▸rfl
theorem UG{G vs i k}:akX G (.tup vs) i k=((gt G->i<vs.length)/\k (vs.getD i .any)):=(rfl)
def WU(P:Program)(d:Option Tmp)(t:TypeId)(a:AV)(cs:List AV)(ρ:Env)(H:aK)(K:Env->aK->Prop):Prop:=uV P ⟨d,.move (.tmp 0),0,"",#[],none⟩ t a cs ρ H K
@[congr] theorem wput_c {P d t a a' cs cs' ρ H K} (h:a=a') (h':cs=cs'):WU P d t a cs ρ H K=WU P d t a' cs' ρ H K:=h▸h'▸rfl
def Lu(P:Program)(d:Option Tmp)(t:TypeId)(s x:AV)(ρ:Env)(H:aK)(K:Env->aK->Prop):Prop:=uP P ⟨d,.move (.tmp 0),0,"",#[],none⟩ t s x ρ H K
@[congr] theorem wapp_c {P d t s s' x x' ρ H K} (h:s=s') (h':x=x'):Lu P d t s x ρ H K=Lu P d t s' x' ρ H K:=h▸h'▸rfl
def PO(P:Program)(d:Option Tmp)(t:TypeId)(l c:AV)(ρ:Env)(H:aK)(K:Env->aK->Prop):Prop:=tZ P ⟨d,.move (.tmp 0),0,"",#[],none⟩ t l c ρ H K
@[congr] theorem wmake_c {P d t s s' x x' ρ H K} (h:s=s') (h':x=x'):PO P d t s x ρ H K=PO P d t s' x' ρ H K:=h▸h'▸rfl
def Oc(P:Program)(d:Option Tmp)(t:TypeId)(x y:AV)(ρ:Env)(H:aK)(K:Env->aK->Prop):Prop:=VC P ⟨d,.move (.tmp 0),0,"",#[],none⟩ t x y ρ H K
@[congr] theorem wcopy_c {P d t s s' x x' ρ H K} (h:s=s') (h':x=x'):Oc P d t s x ρ H K=Oc P d t s' x' ρ H K:=h▸h'▸rfl
theorem UU{P:Program}{d:Option Tmp}{t:TypeId}{x y:AV}{ρ:Env}{H:aK}{K:Env->aK->Prop}{e:TypeId}{sz E j a n:Nat}{r:Row}{news:List (List AV)}(X:cF P t=some (e,sz,E))(J:H j=some r)
   (Z:(x=.os j/\a=0/\n=r.es.length)\/∃b,x=.oz j a b/\n=b-a) (U:y=.sl news\/(∃i r',y=.os i/\H i=some r'/\r'.es=news)\/∃i r' p q,y=.oz i p q/\H i=some r'/\(r'.es.take q).drop p=news)
   (h1:r.sz=sz) (V:cZ sz news) (h:K (upd ρ d (.v (.int .i64 (min news.length n:Nat)))) (aI H j (some { r with es:=r.es.take a++news.take (min news.length n)++r.es.drop (a+min news.length n) }))):Oc P d t x y ρ H K:=by
 unfold Oc VC;have O:∀F:List (List AV)->Prop,F news->zW H y F:=by
   intro F I;rcases U with rfl|⟨i,r',rfl,hi,rfl⟩|⟨i,r',p,q,rfl,hi,rfl⟩
   . exact I
   . simp only[zW,hi];exact I
   . simp only[zW,hi];exact I
 have Y:∀F:Nat->Nat->Nat->Row->Prop,F j a n r->IG H x F:=by
   intro F I;rcases Z with⟨rfl,rfl,rfl⟩|⟨b,rfl,rfl⟩
   . simp only[IG,J];exact I
   . simp only[IG,J];exact I
 refine Y _ (O _ ?_);simp only[X];exact⟨⟨h1,V⟩,h⟩
def GT(P:Program)(d:Option Tmp)(t:TypeId)(x:AV)(ρ:Env)(H:aK)(K:Env->aK->Prop):Prop:=Lh P ⟨d,.move (.tmp 0),0,"",#[],none⟩ t x ρ H K
@[congr] theorem wclear_c {P d t s s' ρ H K} (h:s=s'):GT P d t s ρ H K=GT P d t s' ρ H K:=h▸rfl
theorem X3{P:Program}{d:Option Tmp}{t:TypeId}{x:AV}{ρ:Env}{H:aK}{K:Env->aK->Prop}{e:TypeId}{sz E j a n:Nat}{r:Row}{J:List AV}(V:cF P t=some (e,sz,E))(U:dU P e=some J)(O:H j=some r)
   (Y:(x=.os j/\a=0/\n=r.es.length)\/∃b,x=.oz j a b/\n=b-a) (h1:r.sz=sz) (h:K (upd ρ d .any) (aI H j (some { r with es:=r.es.take a++List.replicate n J++r.es.drop (a+n) }))):GT P d t x ρ H K:=by
 unfold GT Lh;have X:∀F:Nat->Nat->Nat->Row->Prop,F j a n r->IG H x F:=by
   intro F I;rcases Y with⟨rfl,rfl,rfl⟩|⟨b,rfl,rfl⟩
   . simp only[IG,O];exact I
   . simp only[IG,O];exact I
 refine X _ ?_;simp only[V,U];exact⟨h1,h⟩
theorem Vp{P:Program}{d:Option Tmp}{t:TypeId}{es:List (List AV)}{x:AV}{ρ:Env}{H:aK}{K:Env->aK->Prop}{e:TypeId}{sz E:Nat}{news:List (List AV)}(O:cF P t=some (e,sz,E))
   (U:x=.sl news\/∃i r',x=.os i/\H i=some r'/\r'.es=news) (h0:news≠[]) (h1:cZ sz es) (I:cZ sz news) (J:(es.length+news.length)*E<=140737488355328)
   (h:∀F,H F=none->K (upd ρ d (.os F)) (aI H F (some ⟨e,sz,es++news⟩))):Lu P d t (.cl es) x ρ H K:=by
 unfold Lu uP;simp only[O];rcases U with rfl|⟨i,r',rfl,hi,rfl⟩
 . exact⟨⟨h0,h1,I,J⟩,h⟩
 . simp only[zW,hi]
   exact⟨⟨h0,h1,I,J⟩,h⟩
theorem YJ{P:Program}{d:Option Tmp}{t:TypeId}{x:AV}{ρ:Env}{H:aK}{K:Env->aK->Prop}{e:TypeId}{sz E:Nat}{news:List (List AV)}(O:cF P t=some (e,sz,E))
   (U:x=.sl news\/∃i r',x=.os i/\H i=some r'/\r'.es=news) (h0:news≠[]) (I:cZ sz news) (J:news.length*E<=140737488355328)
   (h:∀F,H F=none->K (upd ρ d (.os F)) (aI H F (some ⟨e,sz,news⟩))):Lu P d t (.v (.slice none 0 0)) x ρ H K:=by
 unfold Lu uP;simp only[O];rcases U with rfl|⟨i,r',rfl,hi,rfl⟩
 . exact⟨⟨h0,trivial,I,by simpa using J⟩,h⟩
 . simp only[zW,hi]
   exact⟨⟨h0,trivial,I,by simpa using J⟩,h⟩
theorem aL{H:aK}{r:Row}{F:Nat->aK->Prop}(h:∀j,H j=none->F j (aI H j (some r))):qB H r F:=h
def bU{α:Type}(o:Option α)(f:α->Prop):Prop:=match o with|some x=>f x|none=>False
theorem Gi{α:Type}{x:α}{f:α->Prop}:bU (some x) f=f x:=(rfl)
@[congr] theorem withO_c {α:Type} {o o':Option α} {f:α->Prop} (h:o=o'):bU o f=bU o' f:=h▸rfl
section
variable{P:Program}{C:mD}{PC:FuncId->List AV->aK->AV->Prop}{mt:Nat->Bool}{q:Bool}{ops:Array Oper}{d:Option Tmp}{ty:TypeId}{pos:String}{aft:Array Edge}{ρ:Env}{H:aK}{K:Env->aK->Prop}{G:Option Bool}{k:AV->Prop}
theorem U9{t}:aev ρ (.tmp t)=ρ t:=(rfl)
theorem KG{v}:aev ρ (.const v)=rI v:=(rfl)
theorem OB{f}:aev ρ (.func f)=.v (.func (.func f) #[] #[]):=(rfl)
theorem PX{t n a b}:iN P G .add t (.v (.int n a)) (.v (.int n b)) k=k (.v (.int n (n.wrap (a+b)))):=by simp[iN,zX]
theorem Om{t n a b}:iN P G .sub t (.v (.int n a)) (.v (.int n b)) k=k (.v (.int n (n.wrap (a-b)))):=by simp[iN,zX]
theorem Qo{t n a b}:iN P G .mul t (.v (.int n a)) (.v (.int n b)) k=k (.v (.int n (n.wrap (a*b)))):=by simp[iN,zX]
theorem Pk{t n a b}:iN P G .quo t (.v (.int n a)) (.v (.int n b)) k=((gt G->b≠0)/\k (.v (.int n (n.wrap (a.tdiv b))))):=by simp[iN,zX]
theorem OE{t n a b}:iN P G .rem t (.v (.int n a)) (.v (.int n b)) k=((gt G->b≠0)/\k (.v (.int n (a.tmod b)))):=by simp[iN,zX]
theorem P2{t n a b}:iN P G .eql t (.v (.int n a)) (.v (.int n b)) k=k (.v (.bool (a == b))):=by simp[iN,zX]
theorem O4{t n a b}:iN P G .neq t (.v (.int n a)) (.v (.int n b)) k=k (.v (.bool (a != b))):=by simp[iN,zX]
theorem OC{t n a b}:iN P G .lss t (.v (.int n a)) (.v (.int n b)) k=k (.v (.bool (decide (a<b)))):=by simp[iN,zX]
theorem PH{t n a b}:iN P G .leq t (.v (.int n a)) (.v (.int n b)) k=k (.v (.bool (decide (a<=b)))):=by simp[iN,zX]
theorem ND{t n a b}:iN P G .gtr t (.v (.int n a)) (.v (.int n b)) k=k (.v (.bool (decide (a>b)))):=by simp[iN,zX]
theorem NT{t n a b}:iN P G .geq t (.v (.int n a)) (.v (.int n b)) k=k (.v (.bool (decide (a>=b)))):=by simp[iN,zX]
theorem Nd{t n m a b}:iN P G .shl t (.v (.int n a)) (.v (.int m b)) k=((gt G->0<=b)/\k (.v (.int n (shV .shl n a b)))):=by simp[iN,zX]
theorem Pm{t n m a b}:iN P G .shr t (.v (.int n a)) (.v (.int m b)) k=((gt G->0<=b)/\k (.v (.int n (shV .shr n a b)))):=by simp[iN,zX]
theorem Ot{t n a b}:iN P G .and t (.v (.int n a)) (.v (.int n b)) k=k (.v (.int n (vU .and n a b))):=by simp[iN,zX]
theorem Uo{t n a b}:iN P G .or t (.v (.int n a)) (.v (.int n b)) k=k (.v (.int n (vU .or n a b))):=by simp[iN,zX]
theorem EK{t n a b}:iN P G .andNot t (.v (.int n a)) (.v (.int n b)) k=k (.v (.int n (vU .andNot n a b))):=by simp[iN,zX]
theorem JL{op t x}:iN P G op t .any (.v x) k=((gt G->False)/\k .any):=by cases x <;> rfl
theorem J7{x}:wR false .any (.v x)=.v x:=by cases x <;> rfl
theorem HU{x}:wR true (.v x) .any=.v x:=by cases x with
 | bool b=>cases b <;> rfl
 | _=>rfl
theorem JY{t a b}:iN P G .add t (.v (.string a)) (.v (.string b)) k=((gt G->((a.size+b.size:Nat):Int)<=IntKind.i64.max)/\k (.v (.string (a++b)))):=(rfl)
theorem Ka{t a b}:iN P G .eql t (.v (.string a)) (.v (.string b)) k=k (.v (.bool (a.toList == b.toList))):=(rfl)
theorem Jl{t a b}:iN P G .neq t (.v (.string a)) (.v (.string b)) k=k (.v (.bool !(a.toList == b.toList))):=(rfl)
theorem Ky{t a b}:iN P G .eql t (.v (.bool a)) (.v (.bool b)) k=if Bi P t then k (.v (.bool (a == b)))else False:=(rfl)
theorem I7{t a b}:iN P G .neq t (.v (.bool a)) (.v (.bool b)) k=if Bi P t then k (.v (.bool !(a == b)))else False:=(rfl)
theorem Ki{t x y}:iN P G .eql t (.agg x) (.agg y) k=bU (zT P t) fun l=>bU (iH l x y) fun b=>k (.v (.bool b)):=by
 cases h1:zT P t with
 | none=>simp[iN,bU,h1]
 | some l=>cases E:iH l x y <;> simp[iN,bU,h1,E]
theorem JJ{t x y}:iN P G .neq t (.agg x) (.agg y) k=bU (zT P t) fun l=>bU (iH l x y) fun b=>k (.v (.bool !b)):=by
 cases h1:zT P t with
 | none=>simp[iN,bU,h1]
 | some l=>cases E:iH l x y <;> simp[iN,bU,h1,E]
theorem NU{c x y}:Bp G c (.v x) (.v y) k=k (wR c (.v x) (.v y)):=(rfl)
theorem PP{c x g y}:Bp G c (.v x) (.gd g y) k=((gt G->c=false->g=true)/\k (wR c (.v x) y)):=(rfl)
theorem NO{c g x y}:Bp G c (.gd g x) (.v y) k=((gt G->c=true->g=true)/\k (wR c x (.v y))):=(rfl)
theorem Un{c b}:wR c (.v (.bool true)) (.v (.bool b))=.v (.bool (c||b)):=(rfl)
theorem Ud{c a}:wR c (.v (.bool a)) (.v (.bool false))=.v (.bool (c&&a)):=by cases a <;> cases c <;> rfl
theorem I8{cs o}:pM G H none (.rp cs o) k=((gt G->o<cs.length)/\k (cs.getD o .any)):=(rfl)
theorem Ke{cs o n}:pM G H (some n) (.rp cs o) k=((gt G->o+n<=cs.length)/\k (.agg ((cs.drop o).take n))):=(rfl)
theorem KV{j i f}:pM G H none (.op j i f) k=bU (H j) fun r=>(gt G->i<r.es.length/\f<r.sz)/\k ((r.es.getD i []).getD f .any):=by
 cases h1:H j <;> simp[pM,bU,h1]
theorem Jp{j i f n}:pM G H (some n) (.op j i f) k=bU (H j) fun r=>(gt G->i<r.es.length/\f+n<=r.sz)/\k (.agg (((r.es.getD i []).drop f).take n)):=by
 cases h1:H j <;> simp[pM,bU,h1]
theorem T2{o cs}:apart G o none (.agg cs) k=((gt G->o<cs.length)/\k (cs.getD o .any)):=(rfl)
theorem VE{o n cs}:apart G o (some n) (.agg cs) k=((gt G->o+n<=cs.length)/\k (.agg ((cs.drop o).take n))):=(rfl)
theorem U2{t es}:Iw P H t (.sl es) k=if cT P t then k (.v (.int .i64 es.length))else False:=(rfl)
theorem T3{t j}:Iw P H t (.os j) k=bU (H j) fun r=>if cT P t then k (.v (.int .i64 r.es.length))else False:=by
 cases h1:H j <;> simp[Iw,bU,h1]
theorem UF{t s}:Iw P H t (.v (.string s)) k=if eJ P t then k (.v (.int .i64 s.size))else False:=(rfl)
theorem Bt{t es n i}:gG P G H t (.sl es) (.v (.int n i)) k=bU (cF P t) fun e=>(gt G->(0<=i/\i<es.length)/\(es.getD i.toNat []).length=e.2.1)/\k (.rp (es.getD i.toNat []) 0):=by
 cases h1:cF P t <;> simp[gG,bU,h1]
theorem BF{t j n i}:gG P G H t (.os j) (.v (.int n i)) k=bU (H j) fun r=>bU (cF P t) fun e=>(gt G->(0<=i/\i<r.es.length)/\r.sz=e.2.1)/\k (.op j i.toNat 0):=by
 cases h1:H j <;> cases E:cF P t <;> simp[gG,bU,h1,E]
theorem BH{t cs o n i}:gG P G H t (.rp cs o) (.v (.int n i)) k=bU (BW P t) fun e=>(gt G->0<=i/\i<e.1)/\k (.rp cs (o+i.toNat*e.2.1)):=by
 cases h1:BW P t <;> simp[gG,bU,h1]
theorem Bz{t j a o n i}:gG P G H t (.op j a o) (.v (.int n i)) k=bU (BW P t) fun e=>(gt G->0<=i/\i<e.1)/\k (.op j a (o+i.toNat*e.2.1)):=by
 cases h1:BW P t <;> simp[gG,bU,h1]
theorem Br{t f cs o}:kC P t f (.rp cs o) k=bU (aO P t f) fun e=>k (.rp cs (o+e.1)):=by
 cases h1:aO P t f <;> simp[kC,bU,h1]
theorem BI{t f j i o}:kC P t f (.op j i o) k=bU (aO P t f) fun e=>k (.op j i (o+e.1)):=by
 cases h1:aO P t f <;> simp[kC,bU,h1]
theorem U7{b}:aun .not (.v (.bool b)) k=k (.v (.bool !b)):=(rfl)
theorem UR{n i}:aun .neg (.v (.int n i)) k=k (.v (.int n (n.wrap (0-i)))):=(rfl)
theorem KR{s t n i}:zS P s t (.v (.int n i)) k=bU (G3 P t) fun m=>bU (G3 P s) fun _=>k (.v (.int m (m.wrap i))):=by
 cases h1:G3 P t <;> cases E:G3 P s <;> simp[zS,bU,h1,E]
theorem JC{s t x}:zS P s t (.v (.string x)) k=if eJ P s/\eJ P t then k (.v (.string x))else False:=(rfl)
theorem Qp{s t es}:zS P s t (.sl es) k=if Ds P s/\eJ P t then bU (rQ es) fun ns=>k (.v (.string (strOfNums ns)))else False:=by
 by_cases E:Ds P s/\eJ P t
 . cases h1:rQ es <;> simp[zS,bU,E,h1]
 . simp[zS,E]
theorem Kv{t es n a m b}:nF P G t (.sl es) (some (.v (.int n a))) (some (.v (.int m b))) k=bU (cF P t) fun e=>(gt G->(0<=a/\a<=b/\b<=es.length)/\cZ e.2.1 es)/\k (.sl ((es.take b.toNat).drop a.toNat)):=by
 cases h1:cF P t <;> simp[nF,bU,h1]
theorem PJ{t es n a}:nF P G t (.sl es) (some (.v (.int n a))) none k=bU (cF P t) fun e=>(gt G->(0<=a/\a<=es.length)/\cZ e.2.1 es)/\k (.sl (es.drop a.toNat)):=by
 cases h1:cF P t <;> simp[nF,bU,h1]
theorem M2{t es m b}:nF P G t (.sl es) none (some (.v (.int m b))) k=bU (cF P t) fun _=>(gt G->0<=b/\b<=es.length)/\k (.sl (es.take b.toNat)):=by
 cases h1:cF P t <;> simp[nF,bU,h1]
theorem F8{t s n a m b}:nF P G t (.v (.string s)) (some (.v (.int n a))) (some (.v (.int m b))) k=if eJ P t then(gt G->0<=a/\a<=b/\b<=s.size)/\k (.v (.string (s.extract a.toNat b.toNat)))else False:=(rfl)
theorem Kl{t s n a}:nF P G t (.v (.string s)) (some (.v (.int n a))) none k=if eJ P t then(gt G->0<=a/\a<=s.size)/\k (.v (.string (s.extract a.toNat s.size)))else False:=(rfl)
theorem Jk{t s m b}:nF P G t (.v (.string s)) none (some (.v (.int m b))) k=if eJ P t then(gt G->0<=b/\b<=s.size)/\k (.v (.string (s.extract 0 b.toNat)))else False:=(rfl)
theorem PD{P:Program}{t es n m}{a b:Int}:E1 P G t (.sl es) (.v (.int n a)) (.v (.int m b)) k=bU (cF P t) fun _=>(gt G->a=es.length/\b=es.length)/\k (.cl es):=by
 unfold E1 bU;cases cF P t <;> rfl
@[congr] theorem aclip_c {P:Program} {t x x' a a' b b'} (h:x=x') (h1:a=a') (h2:b=b'):E1 P G t x a b k=E1 P G t x' a' b' k:=h▸h1▸h2▸rfl
theorem I6{t s n i}:yM P G t (.v (.string s)) (.v (.int n i)) k=if eJ P t then(gt G->0<=i/\i<s.size)/\k (.v (.int .u8 ((s.data.getD i.toNat 0).toNat:Int)))else False:=(rfl)
theorem JA{t cs n i}:yM P G t (.agg cs) (.v (.int n i)) k=bU (BW P t) fun e=>(gt G->0<=i/\i<e.1)/\apart G (i.toNat*e.2.1) e.2.2 (.agg cs) k:=by
 cases h1:BW P t <;> simp[yM,bU,h1]
theorem HA{cs}{k:List AV->Prop}:nC (.agg cs) k=k cs:=(rfl)
theorem NM{v}{k:List AV->Prop}:nC (.v v) k=(v.oneCell'=true/\k [.v v]):=(rfl)
theorem KU{es}{k:List AV->Prop}:nC (.sl es) k=k [.sl es]:=(rfl)
theorem J3{cs o}{k:List AV->Prop}:nC (.rp cs o) k=k [.rp cs o]:=(rfl)
theorem KF{j}{k:List AV->Prop}:nC (.os j) k=k [.os j]:=(rfl)
theorem KK{j i f}{k:List AV->Prop}:nC (.op j i f) k=k [.op j i f]:=(rfl)
theorem Jq{t l}:yR P t l k=bU (dU P t) fun z=>bU (eN P t) fun E=>bU (rY E z l) fun cs=>k (.agg cs):=by
 cases h1:dU P t with
 | none=>simp[yR,bU,h1]
 | some z=>cases F:eN P t with
   | none=>simp[yR,bU,h1,F]
   | some E=>cases I:rY E z l <;> simp[yR,bU,h1,F,I]
def wgd(x:AV)(w:Bool)(F:Option Bool->Prop):Prop:=match x with
 | .v (.bool b)=>F (some (b == w))
 | .gd g (.v (.bool b))=>F (some (g&&(b == w)))
 | _=>False
@[congr] theorem wgd_c {x x' w F} (h:x=x'):wgd x w F=wgd x' w F:=h▸rfl
theorem amE{b w F}:wgd (.v (.bool b)) w F=F (some (b == w)):=(rfl)
theorem amL{g b w F}:wgd (.gd g (.v (.bool b))) w F=F (some (g&&(b == w))):=(rfl)
theorem Ea{F}:cQ ops ρ none F=F none:=(rfl)
theorem Es{j w F}:cQ ops ρ (some (j,w)) F=bU ((ops[j]?).bind (·.dst)) fun t=>wgd (ρ t) w F:=by
 cases h1:(ops[j]?).bind (·.dst)with
 | none=>simp[cQ,bU,h1]
 | some t=>simp only[cQ,bU,h1,wgd]
def nU(K:Env->aK->Prop)(ρ:Env)(d:Option Tmp)(G:Option Bool)(H:aK)(x:AV):Prop:=K (upd ρ d (wr G x)) H
theorem Js{x}:nU K ρ d none H x=K (upd ρ d x) H:=(rfl)
theorem Kx{b x}:nU K ρ d (some b) H x=K (upd ρ d (.gd b x)) H:=(rfl)
end
section
variable{P:Program}{C:mD}{PC:FuncId->List AV->aK->AV->Prop}{mt:Nat->Bool}{q:Bool}{ops:Array Oper}{d:Option Tmp}{ty:TypeId}{pos:String}{aft:Array Edge}{gd:Option (Nat×Bool)}{ρ:Env}{H:aK}{K:Env->aK->Prop}
theorem abI{x}:aop P C PC mt q ops ⟨d,.move x,ty,pos,aft,gd⟩ ρ H K=cQ ops ρ gd fun G=>if sG mt d=true then G=none/\q=false/\A6 x ρ d H K else bZ G (aev ρ x) (nU K ρ d G H):=(rfl)
theorem X9{c a b}:aop P C PC mt q ops ⟨d,.pick c a b,ty,pos,aft,gd⟩ ρ H K=cQ ops ρ gd fun G=>bZ G (aev ρ c) fun x=>wpick G x (aev ρ a) (aev ρ b) (nU K ρ d G H):=(rfl)
theorem WY{t l}: aop P C PC mt q ops ⟨d, .build t l, ty, pos, aft, gd⟩ ρ H K = cQ ops ρ gd fun G => if sG mt d = true then G = none /\ (if q = true then qZ none ρ l.toList (fun l => bU (dU P t) fun z => bU (eN P t) fun E => bU (tU P t) fun nl => bU (rY E (Kc nl z) l) fun cs => nU K ρ d none H (.agg cs)) else
     qZ none ρ l.toList (fun l=>bU (dU P t) fun z=>bU (eN P t) fun E=>bU (tU P t) fun nl=>kM nl z H fun z H=>bU (rY E z l) fun cs=>nU K ρ d none H (.agg cs)))
   else qZ G ρ l.toList fun l=>yR P t l (nU K ρ d G H):=by
 show cQ ops ρ gd (fun G=>if sG mt d=true then G=none/\(if q=true then Bb P ⟨d,.build t l,ty,pos,aft,gd⟩ t l.toList ρ H K else Di P ⟨d,.build t l,ty,pos,aft,gd⟩ t l.toList ρ H K)else _)=_
 congr 1;funext G;congr 3
 . unfold Bb
   congr 1;funext l
   cases h1:dU P t with
   | none=>simp[bU]
   | some z=>cases F:eN P t with
     | none=>simp[bU]
     | some E=>cases I:tU P t with
       | none=>simp[bU]
       | some nl=>simp only[bU];cases J:rY E (Kc nl z) l <;> rfl
 unfold Di
 congr 1;funext l
 cases h1:dU P t with
 | none=>simp[bU]
 | some z=>cases F:eN P t with
   | none=>simp[bU]
   | some E=>cases I:tU P t with
     | none=>simp[bU]
     | some nl=>simp only[bU];congr 1;funext z H;cases J:rY E z l <;> rfl
theorem adH{t x}:aop P C PC mt q ops ⟨d,.load t x,ty,pos,aft,gd⟩ ρ H K=cQ ops ρ gd fun G=>if sG mt d=true then G=none/\q=false/\bU (ldT P t) fun l=>bZ none (aev ρ x) fun y=>pM none H l y fun z=>Jz z ρ d H K else bU (ldT P t) fun l=>bZ G (aev ρ x) fun y=>pM G H l y (nU K ρ d G H):=by
 show cQ ops ρ gd (fun G=>if sG mt d=true then G=none/\q=false/\iP P none ρ H (.load t x) fun z=>Jz z ρ d H K else iP P G ρ H (.load t x) (nU K ρ d G H))=_
 congr 1;funext G;cases h1:ldT P t <;> simp[iP,bU,h1]
theorem MA{x}:aop P C PC mt q ops ⟨d,.nilCheck x,ty,pos,aft,gd⟩ ρ H K=cQ ops ρ gd fun G=>bZ G (aev ρ x) fun y=>abU y (nU K ρ d G H):=(rfl)
theorem ahV{op t x y t'}:aop P C PC mt q ops ⟨d,.binOp op t x y t',ty,pos,aft,gd⟩ ρ H K=cQ ops ρ gd fun G=>if uD y=true then bZ G (aev ρ x) fun x=>cT P t=true/\rO op x (nU K ρ d G H)else bZ G (aev ρ x) fun x=>bZ G (aev ρ y) fun y=>iN P G op t x y (nU K ρ d G H):=(rfl)
theorem aqH{op t x}:aop P C PC mt q ops ⟨d,.unOp op t x,ty,pos,aft,gd⟩ ρ H K=cQ ops ρ gd fun G=>bZ G (aev ρ x) fun x=>aun op x (nU K ρ d G H):=(rfl)
theorem Ys{s t x}:aop P C PC mt q ops ⟨d,.convert s t x,ty,pos,aft,gd⟩ ρ H K=cQ ops ρ gd fun G=>bZ G (aev ρ x) fun x=>zS P s t x (nU K ρ d G H):=(rfl)
theorem MM{t x lo hi}:aop P C PC mt q ops ⟨d,.slice t x (some lo) (some hi) none,ty,pos,aft,gd⟩ ρ H K=cQ ops ρ gd fun G=>bZ G (aev ρ x) fun x=>bZ G (aev ρ lo) fun lo=>bZ G (aev ρ hi) fun hi=>asl P G H t x (some lo) (some hi) (nU K ρ d G H):=(rfl)
theorem Qm{t x hi m}:aop P C PC mt q ops ⟨d,.slice t x none (some hi) (some m),ty,pos,aft,gd⟩ ρ H K=cQ ops ρ gd fun G=>bZ G (aev ρ x) fun x=>bZ G (aev ρ hi) fun hi=>bZ G (aev ρ m) fun m=>E1 P G t x hi m (nU K ρ d G H):=(rfl)
theorem O2{t x lo}:aop P C PC mt q ops ⟨d,.slice t x (some lo) none none,ty,pos,aft,gd⟩ ρ H K=cQ ops ρ gd fun G=>bZ G (aev ρ x) fun x=>bZ G (aev ρ lo) fun lo=>asl P G H t x (some lo) none (nU K ρ d G H):=(rfl)
theorem OL{t x hi}:aop P C PC mt q ops ⟨d,.slice t x none (some hi) none,ty,pos,aft,gd⟩ ρ H K=cQ ops ρ gd fun G=>bZ G (aev ρ x) fun x=>bZ G (aev ρ hi) fun hi=>asl P G H t x none (some hi) (nU K ρ d G H):=(rfl)
theorem Iv{t x f}:aop P C PC mt q ops ⟨d,.fieldAddr t x f,ty,pos,aft,gd⟩ ρ H K=cQ ops ρ gd fun G=>bZ G (aev ρ x) fun x=>kC P t f x (nU K ρ d G H):=(rfl)
theorem IP{t x i}:aop P C PC mt q ops ⟨d,.indexAddr t x i,ty,pos,aft,gd⟩ ρ H K=cQ ops ρ gd fun G=>bZ G (aev ρ x) fun x=>bZ G (aev ρ i) fun i=>gG P G H t x i (nU K ρ d G H):=(rfl)
theorem We{t x i}:aop P C PC mt q ops ⟨d,.index t x i,ty,pos,aft,gd⟩ ρ H K=cQ ops ρ gd fun G=>bZ G (aev ρ x) fun x=>bZ G (aev ρ i) fun i=>yM P G t x i (nU K ρ d G H):=(rfl)
theorem PG{x i}:aop P C PC mt q ops ⟨d,.extract x i,ty,pos,aft,gd⟩ ρ H K=cQ ops ρ gd fun G=>bZ G (aev ρ x) fun x=>akX G x i (nU K ρ d G H):=(rfl)
theorem RF{x}:aop P C PC mt q ops ⟨d,.assign x,ty,pos,aft,gd⟩ ρ H K=cQ ops ρ gd fun G=>if sG mt d=true/\G=none/\q=false/\uD x=true then bU (cF P ty) fun e=>qB H ⟨e.1,e.2.1,[]⟩ (Vj K ρ d)else bZ G (aev ρ x) (nU K ρ d G H):=by
 show cQ ops ρ gd (fun G=>Dh P mt q G ⟨d,.assign x,ty,pos,aft,gd⟩ x ρ H K)=_
 congr 1;funext G
 unfold Dh;cases h1:cF P ty <;> rfl
theorem Xo{t}:aop P C PC mt q ops ⟨d,.alloc t,ty,pos,aft,gd⟩ ρ H K=cQ ops ρ gd fun G=>bU (dU P t) fun z=>G=none/\q=false/\(if sG mt d=true then bU (tU P t) fun nl=>kM nl z H fun z H=>qB H ⟨t,z.length,[z]⟩ (Vk K ρ d)else qB H ⟨t,z.length,[z]⟩ (Vk K ρ d)):=by
 show cQ ops ρ gd (fun G=>match dU P t with
   | some z => G = none /\ q = false /\ (if sG mt d = true then match tU P t with
       | some nl=>kM nl z H fun z H=>qB H ⟨t,z.length,[z]⟩ fun k H'=>K (upd ρ d (.op k 0 0)) H'
       | none=>False
     else qB H ⟨t,z.length,[z]⟩ fun k H'=>K (upd ρ d (.op k 0 0)) H')
   | none=>False)=_
 congr 1;funext G;cases h1:dU P t <;> cases E:tU P t <;> rfl
theorem aeX{t x}:aop P C PC mt q ops ⟨d,.box t x,ty,pos,aft,gd⟩ ρ H K=cQ ops ρ gd fun G=>G=none/\q=false/\bZ G (aev ρ x) fun x=>nC x fun cs=>
 if sG mt d=true then 0<cs.length/\qB H ⟨t,cs.length,[cs]⟩ (Vk K ρ d)else K (upd ρ d (.rp cs 0)) H:=(rfl)
theorem FQ{t n l}:aop P C PC mt q ops ⟨d,.buildSlice t n l,ty,pos,aft,gd⟩ ρ H K=cQ ops ρ gd fun G=>q=false/\qZ G ρ l.toList fun l=>bU (cF P t) fun e=>
   (l.map (·.1)=Mp 0 n/\cZ e.2.1 (l.map (·.2))/\n*e.2.1<=16777216)/\(if sG mt d=true/\G=none then qB H ⟨e.1,e.2.1,l.map (·.2)⟩ (Vj K ρ d)else nU K ρ d G H (.sl (l.map (·.2)))):=by
 show cQ ops ρ gd (fun G=>q=false/\qZ G ρ l.toList fun l'=>oS P mt G ⟨d,.buildSlice t n l,ty,pos,aft,gd⟩ t n l' ρ H K)=_
 congr 1;funext G;congr 2;funext l;unfold oS;cases h1:cF P t <;> rfl
theorem VY{t x y}:aop P C PC mt q ops ⟨d,.store t x y,ty,pos,aft,gd⟩ ρ H K=cQ ops ρ gd fun G=>G=none/\q=false/\(if uD y=true then bZ G (aev ρ x) fun x=>bU (cF P t) fun e=>qB H ⟨e.1,e.2.1,[]⟩ (fun j H=>WU P d t x [.os j] ρ H K)else bZ G (aev ρ x) fun x=>bZ G (aev ρ y) fun y=>nC y fun cs=>WU P d t x cs ρ H K):=by
 show cQ ops ρ gd (fun G => G = none /\ q = false /\ (if uD y = true then bZ G (aev ρ x) fun a => match cF P t with
       | some (e,sz,_)=>qB H ⟨e,sz,[]⟩ fun k H=>uV P _ t a [.os k] ρ H K
       | none=>False
     else bZ G (aev ρ x) fun a=>bZ G (aev ρ y) fun x=>nC x fun cs=>uV P _ t a cs ρ H K))=_
 congr 1;funext G;congr 4;funext a
 cases h1:cF P t <;> rfl
theorem Ze:AS P C PC mt ops K [] ρ H=K ρ H:=(rfl)
theorem anU{k f}:AS P C PC mt ops K ((k,true)::f) ρ H=bU ops[k]? fun o=>aop P C PC mt true ops o ρ (qH o H) fun E _=>AS P C PC mt ops K f E H:=by
 cases h:ops[k]? <;> simp[AS,bU,h]
theorem anK{k f}:AS P C PC mt ops K ((k,false)::f) ρ H=bU ops[k]? fun o=>aop P C PC mt false ops o ρ H (AS P C PC mt ops K f):=by
 cases h:ops[k]? <;> simp[AS,bU,h]
theorem WX{Hp}:rF P C PC mt ops K Hp [] ρ H=K ρ H:=(rfl)
theorem akD{Hp k f}:rF P C PC mt ops K Hp ((k,true)::f) ρ H=bU ops[k]? fun o=>aop P C PC mt true ops o ρ Hp fun E _=>rF P C PC mt ops K Hp f E H:=by
 cases h:ops[k]? <;> simp[rF,bU,h]
theorem aiE{Hp k f}:rF P C PC mt ops K Hp ((k,false)::f) ρ H=bU ops[k]? fun o=>aop P C PC mt false ops o ρ H (rF P C PC mt ops K Hp f):=by
 cases h:ops[k]? <;> simp[rF,bU,h]
theorem amN{k}:BY P C PC mt q ops k ρ H K=bU ops[k]? fun o=>aop P C PC mt q ops o ρ H K:=by
 cases h:ops[k]? <;> simp[BY,bU,h]
theorem Wn{Hp}:nL P C PC mt ops K Hp .nil ρ H=K ρ H:=(rfl)
theorem aiF{Hp k t}:nL P C PC mt ops K Hp (.q k t) ρ H=BY P C PC mt true ops k ρ Hp fun E _=>nL P C PC mt ops K Hp t E H:=(rfl)
theorem afR{Hp k t}:nL P C PC mt ops K Hp (.a1 k t) ρ H=BY P C PC mt false ops k ρ H (nL P C PC mt ops K Hp t):=(rfl)
theorem wX{Hp k t k' t'}(h:BY P C PC mt false ops k ρ H (nL P C PC mt ops K Hp t))(E:BY P C PC mt false ops k' ρ H (nL P C PC mt ops K Hp t')):nL P C PC mt ops K Hp (.a2 k t k' t') ρ H:=⟨h,E⟩
theorem My{f cap}:aop P C PC mt q ops ⟨d,.makeFunc (.func f) #[] cap,ty,pos,aft,gd⟩ ρ H K=cQ ops ρ gd fun G=>Bo G ρ cap.toList fun l=>nU K ρ d G H (.fn f l):=by
 show cQ ops ρ gd (fun G=>iP P G ρ H (.makeFunc (.func f) #[] cap) (nU K ρ d G H))=_
 congr 1;funext G;simp[iP]
def alU(K:Env->aK->Prop)(ρ:Env)(d:Option Tmp)(j:Nat)(H:aK):Prop:=K (upd ρ d (.om j)) H
theorem Nl{j}:alU K ρ d j H=K (upd ρ d (.om j)) H:=(rfl)
theorem QL{t x i ok}:aop P C PC mt q ops ⟨d,.lookup t x i ok,ty,pos,aft,gd⟩ ρ H K=cQ ops ρ gd fun G=>bZ G (aev ρ x) fun x=>bZ G (aev ρ i) fun i=>vG P H t x i ok (nU K ρ d G H):=(rfl)
theorem Oe{t}:aop P C PC mt q ops ⟨d,.makeMap t none,ty,pos,aft,gd⟩ ρ H K=cQ ops ρ gd fun G=>G=none/\q=false/\qB H ⟨0,2,[]⟩ (alU K ρ d):=(rfl)
def I9(P:Program)(d:Option Tmp)(t:TypeId)(m x v:AV)(ρ:Env)(H:aK)(K:Env->aK->Prop):Prop:=mE P ⟨d,.move (.tmp 0),0,"",#[],none⟩ t m x v ρ H K
@[congr] theorem wmapU_c {P d t m m' x x' v v' ρ H K} (h0:m=m') (h1:x=x') (h2:v=v'):I9 P d t m x v ρ H K=I9 P d t m' x' v' ρ H K:=h0▸h1▸h2▸rfl
def Zw(P:Program)(d:Option Tmp)(t:TypeId)(m x:AV)(ρ:Env)(H:aK)(K:Env->aK->Prop):Prop:=Bf P ⟨d,.move (.tmp 0),0,"",#[],none⟩ t m x ρ H K
@[congr] theorem wmapE_c {P d t m m' x x' ρ H K} (h0:m=m') (h1:x=x'):Zw P d t m x ρ H K=Zw P d t m' x' ρ H K:=h0▸h1▸rfl
def Yt(d:Option Tmp)(m s v:AV)(ρ:Env)(H:aK)(K:Env->aK->Prop):Prop:=uS ⟨d,.move (.tmp 0),0,"",#[],none⟩ m s v ρ H K
@[congr] theorem wmapS_c {d m m' x x' v v' ρ H K} (h0:m=m') (h1:x=x') (h2:v=v'):Yt d m x v ρ H K=Yt d m' x' v' ρ H K:=h0▸h1▸h2▸rfl
@[congr] theorem alookup_c {P H t x x' i i' ok k} (h0:x=x') (h1:i=i'):vG P H t x i ok k=vG P H t x' i' ok k:=h0▸h1▸rfl
theorem IK{t m x v}:aop P C PC mt q ops ⟨d,.mapUpdate t m x v,ty,pos,aft,gd⟩ ρ H K=cQ ops ρ gd fun G=>G=none/\q=false/\bZ G (aev ρ m) fun m=>bZ G (aev ρ x) fun x=>bZ G (aev ρ v) fun v=>I9 P d t m x v ρ H K:=(rfl)
theorem RY{t m x v}:aop P C PC mt q ops ⟨d,.insert t m x v,ty,pos,aft,gd⟩ ρ H K=cQ ops ρ gd fun G=>G=none/\q=false/\bZ G (aev ρ m) fun m=>bZ G (aev ρ x) fun x=>bZ G (aev ρ v) fun v=>I9 P d t m x v ρ H K:=(rfl)
theorem LP{t m x}:aop P C PC mt q ops ⟨d,.mapEntry t m x,ty,pos,aft,gd⟩ ρ H K=cQ ops ρ gd fun G=>G=none/\q=false/\bZ G (aev ρ m) fun m=>bZ G (aev ρ x) fun x=>Zw P d t m x ρ H K:=(rfl)
theorem F3{t m s v}:aop P C PC mt q ops ⟨d,.entryStore t m s v,ty,pos,aft,gd⟩ ρ H K=cQ ops ρ gd fun G=>G=none/\q=false/\bZ G (aev ρ m) fun m=>bZ G (aev ρ s) fun s=>bZ G (aev ρ v) fun v=>Yt d m s v ρ H K:=(rfl)
theorem Dk{t j key ok k r kt oi z}(O:H j=some r)(F:QY P t=some kt)(I:nI P kt.1 key=true)(J:vB (rM P kt.1 key) r.es 0=some oi)(E:Kd P kt.2=some z)(h:k (Gd ok z r.es oi)):vG P H t (.om j) key ok k:=by
 unfold vG Er;simp only[O,F,J,E];exact⟨I,h⟩
theorem LE{t j key v r kt oi}(J:H j=some r)(E:QY P t=some kt)(F:nI P kt.1 key=true)(I:vB (rM P kt.1 key) r.es 0=some oi)(h:K (upd ρ d .any) (aI H j (some { r with es:=Xv r.es oi key v }))):I9 P d t (.om j) key v ρ H K:=by
 unfold I9 mE Er;simp only[J,E,I];exact⟨F,h⟩
theorem I3{t l c}:aop P C PC mt q ops ⟨d,.makeSlice t l c,ty,pos,aft,gd⟩ ρ H K=cQ ops ρ gd fun G=>G=none/\q=false/\bZ G (aev ρ l) fun l=>bZ G (aev ρ c) fun c=>PO P d t l c ρ H K:=(rfl)
theorem XV{t args tys}:aop P C PC mt q ops ⟨d,.call ⟨.value (.tmp t),args,tys⟩,ty,pos,aft,gd⟩ ρ H K=cQ ops ρ gd fun G=>bZ G (ρ t) fun x=>bU (Ni x) fun y=>if sG mt d=true then G=none/\q=false/\aG P y.1=true/\C y.1 (y.2.1++args.toList.map (Mo ρ)++y.2.2) H (PI K ρ d)else Bo G ρ args.toList fun l=>
   aG P y.1=true/\(if G=none/\q=false then C y.1 (y.2.1++l++y.2.2) H (PI K ρ d)else ∃r,(gt G->PC y.1 (y.2.1++l++y.2.2) H r)/\nfq q r (nU K ρ d G H)):=by
 show cQ ops ρ gd (fun G=>Cj P C PC (sG mt d) q G ⟨d,.call ⟨.value (.tmp t),args,tys⟩,ty,pos,aft,gd⟩ ⟨.value (.tmp t),args,tys⟩ ρ H K)=_
 congr 1;funext G
 simp only[Cj,aev]
 congr 1;funext x
 cases h:Ni x with
 | none=>simp[bU]
 | some y=>obtain⟨a,b,c⟩:=y;rfl
theorem Z6{f args tys}:aop P C PC mt q ops ⟨d,.call ⟨.value (.func f),args,tys⟩,ty,pos,aft,gd⟩ ρ H K=cQ ops ρ gd fun G=>if sG mt d=true then G=none/\q=false/\aG P f=true/\C f (args.toList.map (Mo ρ)) H (PI K ρ d)else Bo G ρ args.toList fun l=>
   aG P f=true/\(if G=none/\q=false then C f l H (PI K ρ d)else ∃r,(gt G->PC f l H r)/\nfq q r (nU K ρ d G H)):=by
 show cQ ops ρ gd (fun G=>Cj P C PC (sG mt d) q G ⟨d,.call ⟨.value (.func f),args,tys⟩,ty,pos,aft,gd⟩ ⟨.value (.func f),args,tys⟩ ρ H K)=_
 congr 1;funext G
 simp only[Cj,aev,bZ,Ni,List.map_nil,List.nil_append,List.append_nil];rfl
theorem Pl{t}:Mo ρ (.tmp t)=ρ t:=(rfl)
theorem GU{v}:Mo ρ (.const v)=.v v:=(rfl)
theorem KL{f}:Mo ρ (.func f)=.v (.func (.func f) #[] #[]):=(rfl)
theorem afO{x t}:aop P C PC mt q ops ⟨d,.call ⟨.builtin .len,#[x],#[t]⟩,ty,pos,aft,gd⟩ ρ H K=cQ ops ρ gd fun G=>bZ G (aev ρ x) fun x=>Iw P H t x (nU K ρ d G H):=(rfl)
theorem ajB{x y t t'}:aop P C PC mt q ops ⟨d,.call ⟨.builtin .max,#[x,y],#[t,t']⟩,ty,pos,aft,gd⟩ ρ H K=cQ ops ρ gd fun G=>bZ G (aev ρ x) fun x=>bZ G (aev ρ y) fun y=>TH x y (nU K ρ d G H):=(rfl)
theorem alF{x y t t'}:aop P C PC mt q ops ⟨d,.call ⟨.builtin .min,#[x,y],#[t,t']⟩,ty,pos,aft,gd⟩ ρ H K=cQ ops ρ gd fun G=>bZ G (aev ρ x) fun x=>bZ G (aev ρ y) fun y=>RB x y (nU K ρ d G H):=(rfl)
theorem aaO{n m a b}{k:AV->Prop}:TH (.v (.int n a)) (.v (.int m b)) k=k (.v (.int n (fP a b))):=(rfl)
theorem Z1{n m a b}{k:AV->Prop}:RB (.v (.int n a)) (.v (.int m b)) k=k (.v (.int n (aeZ a b))):=(rfl)
theorem Yz{x y t t'}:aop P C PC mt q ops ⟨d,.call ⟨.builtin .copy,#[x,y],#[t,t']⟩,ty,pos,aft,gd⟩ ρ H K=cQ ops ρ gd fun G=>bZ G (aev ρ x) fun x=>bZ G (aev ρ y) fun y=>
 if G=none/\q=false then Oc P d t x y ρ H K else False:=(rfl)
theorem Xe{x t}:aop P C PC mt q ops ⟨d,.call ⟨.builtin .clear,#[x],#[t]⟩,ty,pos,aft,gd⟩ ρ H K=cQ ops ρ gd fun G=>bZ G (aev ρ x) fun x=>
 if G=none/\q=false then GT P d t x ρ H K else False:=(rfl)
theorem ZE{G:Option Bool}{k:AV->Prop}{t es lo hi}:asl P G H t (.sl es) lo hi k=nF P G t (.sl es) lo hi k:=(rfl)
theorem alX{G:Option Bool}{k:AV->Prop}{t v lo hi}:asl P G H t (.v v) lo hi k=nF P G t (.v v) lo hi k:=(rfl)
theorem alV{G:Option Bool}{k:AV->Prop}{t j n a}:asl P G H t (.os j) (some (.v (.int n a))) none k=bU (H j) fun r=>bU (cF P t) fun e=>(gt G->(0<=a/\a<=r.es.length)/\r.sz=e.2.1)/\k (.oz j a.toNat r.es.length):=by
 cases h1:H j <;> cases E:cF P t <;> simp[asl,bU,h1,E]
theorem amC{G:Option Bool}{k:AV->Prop}{t j m b}:asl P G H t (.os j) none (some (.v (.int m b))) k=bU (H j) fun r=>bU (cF P t) fun e=>(gt G->(0<=b/\b<=r.es.length)/\r.sz=e.2.1)/\k (.oz j 0 b.toNat):=by
 cases h1:H j <;> cases E:cF P t <;> simp[asl,bU,h1,E]
theorem Ov{k:AV->Prop}{es}:rO .eql (.sl es) k=((es=[]->k (.v (.bool true)))/\k (.v (.bool false))):=(rfl)
theorem No{k:AV->Prop}{es}:rO .neq (.sl es) k=((es=[]->k (.v (.bool false)))/\k (.v (.bool true))):=(rfl)
theorem JH{k:AV->Prop}{j}:rO .eql (.os j) k=(k (.v (.bool true))/\k (.v (.bool false))):=(rfl)
theorem Jj{k:AV->Prop}:rO .eql (.v (.slice none 0 0)) k=k (.v (.bool true)):=(rfl)
theorem KB{k:AV->Prop}:rO .neq (.v (.slice none 0 0)) k=k (.v (.bool false)):=(rfl)
theorem J6{k:AV->Prop}{j}:rO .neq (.os j) k=(k (.v (.bool false))/\k (.v (.bool true))):=(rfl)
theorem TX{s x t t'}:aop P C PC mt q ops ⟨d,.call ⟨.builtin .append,#[s,x],#[t,t']⟩,ty,pos,aft,gd⟩ ρ H K=cQ ops ρ gd fun G=>bZ G (aev ρ s) fun s=>bZ G (aev ρ x) fun x=>
 if t=t'/\G=none/\q=false then Lu P d t s x ρ H K else False:=(rfl)
end
section
variable{P:Program}{d:Option Tmp}{ρ:Env}{H:aK}{K:Env->aK->Prop}
theorem Vq{t n a m b}:PO P d t (.v (.int n a)) (.v (.int m b)) ρ H K=bU (cF P t) fun e=>bU (dU P e.1) fun z=>((0<=a/\a<=b)/\(e.2.2:Int)*b<=140737488355328)/\qB H ⟨e.1,e.2.1,List.replicate a.toNat z⟩ (Vj K ρ d):=by
 unfold PO tZ;cases h1:cF P t with
 | none=>simp[bU]
 | some e=>obtain⟨x,y,z⟩:=e;cases E:dU P x <;> simp[bU,E] <;> intros <;> rfl
theorem aqL{f first captured}:Ni (.v (.func (.func f) first captured))=some (f,first.toList.map .v,captured.toList.map .v):=(rfl)
theorem alW{q x}{k:AV->Prop}:nfq q (.v x) k=k (.v x):=by cases q <;> rfl
theorem Ui{q x}{k:AV->Prop}:nfq q (.agg x) k=k (.agg x):=by cases q <;> rfl
theorem Vx{q x}{k:AV->Prop}:nfq q (.tup x) k=k (.tup x):=by cases q <;> rfl
theorem ZR{x}{k:AV->Prop}:nfq false (.nf x) k=k x:=(rfl)
theorem adX{f l}:Ni (.fn f l)=some (f,[],l):=(rfl)
end
attribute [go_sem ↓] JL J7 HU
attribute [go_sem] JL J7 HU
@[congr] theorem asl_c {P G H t x x' lo lo' hi hi' k} (h:x=x') (h1:lo=lo') (h2:hi=hi'):asl P G H t x lo hi k=asl P G H t x' lo' hi' k:=h▸h1▸h2▸rfl
@[congr] theorem aeqNil_c {op x x' k} (h:x=x'):rO op x k=rO op x' k:=h▸rfl
theorem MI{α:Type}{a:α}{l r:List α}:List.append (a::l) r=a::List.append l r:=(rfl)
theorem Nq{α:Type}{r:List α}:List.append [] r=r:=(rfl)
attribute [go_sem] MI Nq
attribute [go_sem] qH
@[congr] theorem amax_c {x x' y y' K} (h:x=x') (h':y=y'):TH x y K=TH x' y' K:=h▸h'▸rfl
@[congr] theorem amin_c {x x' y y' K} (h:x=x') (h':y=y'):RB x y K=RB x' y' K:=h▸h'▸rfl
attribute [go_sem ↓] ajB alF aaO Z1
attribute [go_sem] aaO Z1
@[congr] theorem pinEnd_c {l l' H K ρ H'} (h:l=l'):nB l H K ρ H'=nB l' H K ρ H':=h▸rfl
attribute [go_sem] Kc List.set_cons_zero List.set_cons_succ
attribute [go_sem ↓] Wn aiF afR amN
attribute [go_sem ↓] WX akD aiE
attribute [go_sem ↓] Ze anU anK Yz Xe ZE alX alV amC Ov No JH J6 Jj KB
attribute [go_sem] ZE alX alV amC Ov No JH J6 Jj KB
attribute [go_sem ↓] alW Ui Vx ZR
attribute [go_sem ↓] QL Oe IK RY LP F3 Ve Nl
attribute [go_sem] Ve Nl
attribute [go_sem] alW Ui Vx ZR
attribute [go_sem ↓] My I3 XV Vq Nd Pm Ot Uo EK Ua Uu U3 PD Qm
attribute [go_sem] Vq Nd Pm Ot Uo EK Ua Uu U3 PD aqL adX
attribute [go_sem] Uw alZ
@[congr] theorem ownNils_c {l l' z z' H K} (h:l=l') (h':z=z'):kM l z H K=kM l' z' H K:=h▸h'▸rfl
theorem Pb{z H K}:kM [] z H K=K z H:=(rfl)
theorem Mm{o e sz r z H K}:kM ((o,e,sz)::r) z H K=qB H ⟨e,sz,[]⟩ fun k H'=>kM r (z.set o (.os k)) H' K:=(rfl)
attribute [go_sem ↓] Pb Mm
attribute [go_sem ↓] YG HI OH Ue M9 Jy Kf XG Pw X7 ajK YF VV RN Zp agQ Ra Uh On VJ
attribute [go_sem ↓] Bo qZ abI X9 WY adH MA ahV aqH Ys MM O2 OL Iv IP We PG RF Xo aeX FQ VY Z6 afO TX
attribute [go_sem ↓] Vr T9 UY UG PX Om Qo Pk OE P2 O4 OC PH ND NT JY Ka Jl Ky I7 Ki JJ NU PP NO Un Ud I8 Ke KV Jp T2 VE U2 T3 UF Bt BF BH Bz Br BI U7 UR KR JC Qp Kv PJ M2 F8 Kl Jk I6 JA HA NM KU J3 KF KK Jq amE amL Ea Es acF Pg Uy UA Pn NN U0 Uf UW Gi Js Kx Pa N6 OT U9 KG OB Pl GU KL
attribute [go_sem] Vr T9 UY UG PX Om Qo Pk OE P2 O4 OC PH ND NT JY Ka Jl Ky I7 Ki JJ NU PP NO Un Ud I8 Ke KV Jp T2 VE U2 T3 UF Bt BF BH Bz Br BI U7 UR KR JC Qp Kv PJ M2 F8 Kl Jk I6 JA HA NM KU J3 KF KK Jq amE amL Ea Es acF Pg Uy UA Pn NN U0 Uf UW Gi Js Kx Pa N6 OT U9 KG OB Pl GU KL
attribute [go_sem] aoA abG sG uD rI DH gt gok wr vX iH N4 Value.oneCell' Mp cZ rQ Option.map_some rY nH aA
attribute [go_sem] Bool.false_eq_true if_false if_true reduceCtorEq true_and and_true false_and and_false false_implies true_implies implies_true forall_const and_self imp_self ne_eq not_true_eq_false not_false_eq_true
attribute [go_sem] List.getD_cons_zero List.getD_cons_succ List.getD_nil List.length_cons List.length_nil List.drop_zero List.drop_succ_cons List.take_succ_cons List.take_zero Option.getD_some Option.getD_none Nat.zero_add Nat.add_zero List.map_cons List.map_nil List.cons_append List.nil_append List.append_nil
attribute [go_sem] Option.bind_some List.getElem?_toArray List.getElem?_cons_zero List.getElem?_cons_succ
attribute [go_sem ↓] reduceIte
attribute [go_sem] Nat.reduceEqDiff Nat.reduceAdd Nat.reduceMul Nat.reduceSub Nat.reduceLT Nat.reduceLeDiff Nat.reduceBEq
end Go.Aw
