import Derived.StillTail
import Derived.WalkKit
import Derived.Deep.Quiet
import Derived.Deep.QuietTactic
import Derived.Maps.AppendAt
import Derived.Laws.BytesArg
set_option linter.unusedSimpArgs false
set_option linter.unusedVariables false
set_option maxRecDepth 100000
namespace Go.Aw
open Go.RowKit
inductive AV where
 | v (x:Value)
 | any
 | sl (es:List (List AV))
 | rp (cs:List AV) (off:Nat)
 | agg (cs:List AV)
 | tup (vs:List AV)
 | os (k:Nat)
 | op (k i f:Nat)
 | gd (g:Bool) (x:AV)
 | fn (f:FuncId) (cap:List AV)
 | oz (k a b:Nat)
 | nf (x:AV)
 | om (k:Nat)
 | cl (es:List (List AV))
 deriving Inhabited
structure Row where
 e:TypeId
 sz:Nat
 es:List (List AV)
abbrev Env:=Nat->AV
abbrev aH:=Nat->Option Row
inductive Ex where
 | normal
 | exit (id:Nat)
 | ret
def upd(ρ:Env)(d:Option Nat)(x:AV):Env:=
 match d with
 | some d=>fun t=>if t=d then x else ρ t
 | none=>ρ
def aI(H:aH)(k:Nat)(r:Option Row):aH:=fun j=>if j=k then r else H j
theorem agA(ρ:Env)(d:Nat)(x:AV)(t:Nat):upd ρ (some d) x t=if t=d then x else ρ t:=rfl
theorem WN(ρ:Env)(x:AV):upd ρ none x=ρ:=rfl
theorem aB(H:aH)(k:Nat)(r:Option Row):aI H k r k=r:=by simp[aI]
theorem aD(H:aH)(k:Nat)(r:Option Row)(j:Nat)(h:j≠k):aI H k r j=H j:=by simp[aI,h]
def ldT(P:Program)(t:TypeId):Option (Option Nat):=
 match P.underlying t,P.info? t with
 | some (.struct _),some i=>some (some i.size)
 | some (.array _ _),some i=>some (some i.size)
 | some _,some _=>some none
 | _,_=>none
def aM(P:Program)(t:TypeId)(f:Nat):Option (Nat×Option Nat):=
 match P.underlying t with
 | some (.struct fs)=>match fs[f]? with
   | some fd=>match P.info? fd.type with
     | some i=>if i.size=0 then none else(ldT P fd.type).map fun l=>(fd.offset,l)
     | none=>none
   | none=>none
 | _=>none
def bW(P:Program)(t:TypeId):Option (TypeId×Nat×Nat):=
 match P.underlying t with
 | some (.slice e)=>match P.info? e with
   | some i=>if i.size=0\/i.bytes=0\/i.zero.map (·.cells.size)≠some i.size then none else some (e,i.size,i.bytes)
   | none=>none
 | _=>none
def tI(P:Program)(t:TypeId):Option (Nat×Nat×Option Nat):=
 match P.underlying t with
 | some (.array n e)=>match P.info? e with
   | some i=>if i.size=0 then none else(ldT P e).map fun l=>(n,i.size,l)
   | none=>none
 | _=>none
def pJ:Value->AV
 | .slice none 0 0=>.sl []
 | x=>.v x
def dO(P:Program)(t:TypeId):Option (List AV):=
 match P.info? t with
 | some i=>match i.zero with
   | some z=>if z.cells.size=i.size/\i.size≠0/\z.cells.toList.all (·.oneCell')=true then some (z.cells.toList.map pJ)else none
   | none=>none
 | none=>none
def Kr(P:Program):Nat->TypeId->Nat->List (Nat×TypeId×Nat)
 | 0,_,_=>[]
 | n+1,t,o=>match P.underlying t with
   | some (.slice _)=>match bW P t with
     | some (e,sz,_)=>[(o,e,sz)]
     | none=>[]
   | some (.struct fs)=>fs.toList.flatMap fun f=>Kr P n f.type (o+f.offset)
   | some (.array m e)=>(List.range m).flatMap fun j=>Kr P n e (o+j*((P.info? e).map (·.size)).getD 0)
   | _=>[]
def X5:Option Value->Bool
 | some (.slice none 0 0)=>true
 | _=>false
def rE(P:Program)(t:TypeId):Option (List (Nat×TypeId×Nat)):=
 match P.info? t with
 | some i=>match i.zero with
   | some z=>if(Kr P 8 t 0).all (fun x=>X5 z.cells.toList[x.1]?&&decide (0<x.2.2))=true then some (Kr P 8 t 0)else none
   | none=>none
 | none=>none
def eC(P:Program)(t:TypeId):Option (List (Nat×Nat)):=
 match P.underlying t with
 | some (.struct fs)=>fs.toList.mapM fun f=>(P.info? f.type).map fun i=>(f.offset,i.size)
 | some (.array n e)=>(P.info? e).map fun i=>(List.range n).map fun j=>(j*i.size,i.size)
 | _=>none
def dY(P:Program)(t:TypeId):Bool:=match P.underlying t with|some .string=>true|_=>false
def cL(P:Program)(t:TypeId):Bool:=match P.underlying t with|some (.slice _)=>true|_=>false
def zS(P:Program)(t:TypeId):Bool:=match P.underlying t with|some .bool=>true|_=>false
def aev(ρ:Env):Operand->AV
 | .tmp t=>ρ t
 | .const v=>pJ v
 | .global _=>.any
 | .func f=>.v (.func (.func f) #[] #[])
def J5(ρ:Env):Operand->AV
 | .const v=>.v v
 | x=>aev ρ x
def gt:Option Bool->Prop
 | none=>True
 | some b=>b=true
def gok:Option Bool->Bool->Prop
 | none,g=>g=true
 | some b,g=>b=true->g=true
def wr:Option Bool->AV->AV
 | none,x=>x
 | some b,x=>.gd b x
def bT(G:Option Bool)(x:AV)(k:AV->Prop):Prop:=
 match x with
 | .gd g y=>gok G g/\k y
 | x=>k x
def lZ(x:AV)(K:List AV->Prop):Prop:=
 match x with
 | .agg cs=>K cs
 | .v y=>y.oneCell'=true/\K [.v y]
 | .sl es=>K [.sl es]
 | .rp cs o=>K [.rp cs o]
 | .os k=>K [.os k]
 | .op k i f=>K [.op k i f]
 | _=>False
def sF(P:Program)(t:TypeId):Option Nat:=match P.underlying t with|some (.int _)=>some 0|some .string=>some 1|some .bool=>some 2|_=>none
def tN(c:Nat)(x y:AV):Option Bool:=
 match c,x,y with
 | 0,.v (.int k a),.v (.int k' b)=>if k=k' then some (a == b)else none
 | 1,.v (.string a),.v (.string b)=>some (a.toList == b.toList)
 | 2,.v (.bool a),.v (.bool b)=>some (a == b)
 | _,_,_=>none
def Nx:Option Bool->Option Bool->Option Bool
 | some a,some b=>some (a&&b)
 | _,_=>none
def gW:List Nat->List AV->List AV->Option Bool
 | [],[],[]=>some true
 | c::l,x::r,y::s=>Nx (tN c x y) (gW l r s)
 | _,_,_=>none
def oQ(P:Program):Nat->List Field->Option (List Nat)
 | _,[]=>some []
 | o,f::r=>if f.name != "_" && f.offset == o&&(P.info? f.type).isSome then match sF P f.type,oQ P (o+1) r with
   | some c,some l=>some (c::l)
   | _,_=>none
   else none
def wS(P:Program)(t:TypeId):Option (List Nat):=
 match P.underlying t with
 | some (.struct fs)=>if P.stoodInHeld t=false/\P.eqGuardType P.depth t=false then oQ P 0 fs.toList else none
 | some (.array n e)=>if(P.info? e).map (·.size)=some 1/\P.eqGuardType P.depth t=false then(sF P e).map (List.replicate n)else none
 | _=>none
def vD:BinOp->Bool
 | .shl=>true
 | .shr=>true
 | _=>false
def shV(op:BinOp)(k:IntKind)(a b:Int):Int:=match op with
 | .shl=>k.wrap (a*2^min b.toNat k.bits)
 | _=>a.fdiv (2^min b.toNat k.bits)
def rY(op:BinOp)(k:IntKind)(a b:Int):Int:=match op with
 | .and=>k.wrap ((BitVec.ofInt k.bits a &&& BitVec.ofInt k.bits b).toNat:Nat)
 | .or=>k.wrap ((BitVec.ofInt k.bits a ||| BitVec.ofInt k.bits b).toNat:Nat)
 | .xor=>k.wrap ((BitVec.ofInt k.bits a ^^^ BitVec.ofInt k.bits b).toNat:Nat)
 | _=>k.wrap ((BitVec.ofInt k.bits a &&& ~~~(BitVec.ofInt k.bits b)).toNat:Nat)
def gD(P:Program)(G:Option Bool)(op:BinOp)(t:TypeId)(x y:AV)(K:AV->Prop):Prop:=
 match x,y with
 | .v (.int k a),.v (.int k' b)=>
   if vD op=true then(gt G->0<=b)/\K (.v (.int k (shV op k a b)))
   else if k=k' then
     match op with
     | .and=>K (.v (.int k (rY .and k a b)))
     | .or=>K (.v (.int k (rY .or k a b)))
     | .xor=>K (.v (.int k (rY .xor k a b)))
     | .andNot=>K (.v (.int k (rY .andNot k a b)))
     | .add=>K (.v (.int k (k.wrap (a+b))))
     | .sub=>K (.v (.int k (k.wrap (a-b))))
     | .mul=>K (.v (.int k (k.wrap (a*b))))
     | .quo=>(gt G->b≠0)/\K (.v (.int k (k.wrap (a.tdiv b))))
     | .rem=>(gt G->b≠0)/\K (.v (.int k (a.tmod b)))
     | .eql=>K (.v (.bool (a == b)))
     | .neq=>K (.v (.bool (a != b)))
     | .lss=>K (.v (.bool (decide (a<b))))
     | .leq=>K (.v (.bool (decide (a<=b))))
     | .gtr=>K (.v (.bool (decide (a>b))))
     | .geq=>K (.v (.bool (decide (a>=b))))
     | _=>False
   else False
 | .v (.string a),.v (.string b)=>
   match op with
   | .add=>(gt G->((a.size+b.size:Nat):Int)<=IntKind.i64.max)/\K (.v (.string (a++b)))
   | .eql=>K (.v (.bool (a.toList == b.toList)))
   | .neq=>K (.v (.bool !(a.toList == b.toList)))
   | .lss=>K (.v (.bool (Op.bytesLess a.toList b.toList)))
   | _=>False
 | .v (.bool a),.v (.bool b)=>
   if zS P t then
     match op with
     | .eql=>K (.v (.bool (a == b)))
     | .neq=>K (.v (.bool !(a == b)))
     | _=>False
   else False
 | .agg xs,.agg ys=>match wS P t with
   | some l=>match gW l xs ys with
     | some b=>match op with
       | .eql=>K (.v (.bool b))
       | .neq=>K (.v (.bool !b))
       | _=>False
     | none=>False
   | none=>False
 | _,_=>(gt G->False)/\K .any
def QF(P:Program)(t:TypeId):Option (TypeId×TypeId):=match P.underlying t with|some (.map k e)=>some (k,e)|_=>none
def IK(P:Program)(t:TypeId):Option AV:=
 match P.info? t with
 | some i=>match i.zero with
   | some (.agg cs)=>if cs.toList.all (·.oneCell')=true then some (.agg (cs.toList.map pJ))else none
   | some v=>if v.oneCell'=true then some (pJ v)else none
   | none=>none
 | none=>none
def pM(P:Program)(kt:TypeId)(x y:AV):Option Bool:=
 match x,y with
 | .v a,.v b=>match sF P kt with
   | some c=>tN c (.v a) (.v b)
   | none=>none
 | _,_=>none
def mH(P:Program)(kt:TypeId):AV->Bool
 | .v (.int _ _)=>sF P kt == some 0
 | .v (.string _)=>sF P kt == some 1
 | .v (.bool _)=>sF P kt == some 2
 | _=>false
def sQ(eq:AV->Option Bool):List (List AV)->Nat->Option (Option Nat)
 | [],_=>some none
 | e::r,i=>match eq (e.getD 0 .any)with
   | some true=>some (some i)
   | some false=>sQ eq r (i+1)
   | none=>none
def FC(ok:Bool)(z:AV)(es:List (List AV))(oi:Option Nat):AV:=
 match oi with
 | some i=>if ok=true then .tup [(es.getD i []).getD 1 .any,.v (.bool true)]else(es.getD i []).getD 1 .any
 | none=>if ok=true then .tup [z,.v (.bool false)]else z
def TF(es:List (List AV))(oi:Option Nat)(k v:AV):List (List AV):=
 match oi with
 | some i=>es.set i [k,v]
 | none=>es++[[k,v]]
def D3(P:Program)(H:aH)(t:TypeId)(x key:AV)(K:Nat->Row->TypeId×TypeId->Option Nat->Prop):Prop:=
 match x with
 | .om j=>match H j,QF P t with
   | some r,some kt=>match sQ (pM P kt.1 key) r.es 0 with
     | some oi=>mH P kt.1 key=true/\K j r kt oi
     | none=>False
   | _,_=>False
 | _=>False
def sY(P:Program)(H:aH)(t:TypeId)(x key:AV)(ok:Bool)(K:AV->Prop):Prop:=
 D3 P H t x key fun _ r kt oi=>match IK P kt.2 with
   | some z=>K (FC ok z r.es oi)
   | none=>False
def uN(c:Bool):AV->AV->AV
 | .v (.bool true),.v (.bool b)=>.v (.bool (c||b))
 | .v (.bool a),.v (.bool false)=>.v (.bool (c&&a))
 | .v (.bool a),.v (.bool b)=>.v (.bool (bif c then a else b))
 | x,y=>bif c then x else y
def Ai(G:Option Bool)(c:Bool)(x y:AV)(K:AV->Prop):Prop:=
 match x,y with
 | .gd g x,.gd g' y=>(gt G->c=true->g=true)/\(gt G->c=false->g'=true)/\K (uN c x y)
 | .gd g x,y=>(gt G->c=true->g=true)/\K (uN c x y)
 | x,.gd g' y=>(gt G->c=false->g'=true)/\K (uN c x y)
 | x,y=>K (uN c x y)
def nP(G:Option Bool)(H:aH)(l:Option Nat)(x:AV)(K:AV->Prop):Prop:=
 match x with
 | .rp cs off=>match l with
   | none=>(gt G->off<cs.length)/\K (cs.getD off .any)
   | some n=>(gt G->off+n<=cs.length)/\K (.agg ((cs.drop off).take n))
 | .op k i f=>match H k with
   | some r=>match l with
     | none=>(gt G->i<r.es.length/\f<r.sz)/\K ((r.es.getD i []).getD f .any)
     | some n=>(gt G->i<r.es.length/\f+n<=r.sz)/\K (.agg (((r.es.getD i []).drop f).take n))
   | none=>False
 | _=>False
def apart(G:Option Bool)(off:Nat)(l:Option Nat)(x:AV)(K:AV->Prop):Prop:=
 match x with
 | .agg cs=>match l with
   | none=>(gt G->off<cs.length)/\K (cs.getD off .any)
   | some n=>(gt G->off+n<=cs.length)/\K (.agg ((cs.drop off).take n))
 | _=>False
def GW(P:Program)(H:aH)(t:TypeId)(x:AV)(K:AV->Prop):Prop:=
 match x with
 | .sl es=>if cL P t then K (.v (.int .i64 es.length))else False
 | .os k=>match H k with
   | some r=>if cL P t then K (.v (.int .i64 r.es.length))else False
   | none=>False
 | .v (.string s)=>if dY P t then K (.v (.int .i64 s.size))else False
 | _=>False
def kF(a b:Int):Int:=if b>a then b else a
def Z1(a b:Int):Int:=if b<a then b else a
def QT(x y:AV)(K:AV->Prop):Prop:=
 match x,y with
 | .v (.int k a),.v (.int _ b)=>K (.v (.int k (kF a b)))
 | _,_=>False
def Pw(x y:AV)(K:AV->Prop):Prop:=
 match x,y with
 | .v (.int k a),.v (.int _ b)=>K (.v (.int k (Z1 a b)))
 | _,_=>False
def fO(P:Program)(G:Option Bool)(H:aH)(t:TypeId)(x i:AV)(K:AV->Prop):Prop:=
 match x,i with
 | .sl es,.v (.int _ n)=>match bW P t with
   | some (_,sz,_)=>(gt G->(0<=n/\n<es.length)/\(es.getD n.toNat []).length=sz)/\K (.rp (es.getD n.toNat []) 0)
   | none=>False
 | .os k,.v (.int _ n)=>match H k,bW P t with
   | some r,some (_,sz,_)=>(gt G->(0<=n/\n<r.es.length)/\r.sz=sz)/\K (.op k n.toNat 0)
   | _,_=>False
 | .rp cs off,.v (.int _ n)=>match tI P t with
   | some (m,s,_)=>(gt G->0<=n/\n<m)/\K (.rp cs (off+n.toNat*s))
   | none=>False
 | .op k j f,.v (.int _ n)=>match tI P t with
   | some (m,s,_)=>(gt G->0<=n/\n<m)/\K (.op k j (f+n.toNat*s))
   | none=>False
 | _,_=>False
def jH(P:Program)(t:TypeId)(f:Nat)(x:AV)(K:AV->Prop):Prop:=
 match x with
 | .rp cs off=>match aM P t f with
   | some (o,_)=>K (.rp cs (off+o))
   | none=>False
 | .op k i g=>match aM P t f with
   | some (o,_)=>K (.op k i (g+o))
   | none=>False
 | _=>False
def pZ(places:List (Nat×Nat)):List AV->List (Nat×List AV)->Option (List AV)
 | cs,[]=>some cs
 | cs,(i,x)::rest=>match places[i]? with
   | some (off,n)=>if x.length=n/\off+n<=cs.length then pZ places (cs.take off++x++cs.drop (off+n)) rest else none
   | none=>none
def oI(G:Option Bool)(ρ:Env):List (Nat×Operand)->(List (Nat×List AV)->Prop)->Prop
 | [],K=>K []
 | (i,x)::rest,K=>bT G (aev ρ x) fun y=>lZ y fun cs=>oI G ρ rest fun l=>K ((i,cs)::l)
def Ag(G:Option Bool)(ρ:Env):List Operand->(List AV->Prop)->Prop
 | [],K=>K []
 | x::rest,K=>bT G (aev ρ x) fun y=>Ag G ρ rest fun l=>K (y::l)
def vP(P:Program)(t:TypeId)(parts:List (Nat×List AV))(K:AV->Prop):Prop:=
 match dO P t,eC P t with
 | some z,some pl=>match pZ pl z parts with
   | some cs=>K (.agg cs)
   | none=>False
 | _,_=>False
def JR:Nat->Nat->List Nat
 | _,0=>[]
 | i,n+1=>i::JR (i+1) n
def cZ(n:Nat):List (List AV)->Prop
 | []=>True
 | cs::r=>cs.length=n/\cZ n r
def lY(P:Program)(G:Option Bool)(t:TypeId)(x:AV)(lo hi:Option AV)(K:AV->Prop):Prop:=
 match x,lo,hi with
 | .sl es,some (.v (.int _ a)),some (.v (.int _ b))=>match bW P t with
   | some (_,sz,_)=>(gt G->(0<=a/\a<=b/\b<=es.length)/\cZ sz es)/\K (.sl ((es.take b.toNat).drop a.toNat))
   | none=>False
 | .sl es,some (.v (.int _ a)),none=>match bW P t with
   | some (_,sz,_)=>(gt G->(0<=a/\a<=es.length)/\cZ sz es)/\K (.sl (es.drop a.toNat))
   | none=>False
 | .sl es,none,some (.v (.int _ b))=>match bW P t with
   | some _=>(gt G->0<=b/\b<=es.length)/\K (.sl (es.take b.toNat))
   | none=>False
 | .v (.string s),some (.v (.int _ a)),some (.v (.int _ b))=>
   if dY P t then(gt G->0<=a/\a<=b/\b<=s.size)/\K (.v (.string (s.extract a.toNat b.toNat)))else False
 | .v (.string s),some (.v (.int _ a)),none=>
   if dY P t then(gt G->0<=a/\a<=s.size)/\K (.v (.string (s.extract a.toNat s.size)))else False
 | .v (.string s),none,some (.v (.int _ b))=>
   if dY P t then(gt G->0<=b/\b<=s.size)/\K (.v (.string (s.extract 0 b.toNat)))else False
 | _,_,_=>False
def asl(P:Program)(G:Option Bool)(H:aH)(t:TypeId)(x:AV)(lo hi:Option AV)(K:AV->Prop):Prop:=
 match x with
 | .os k=>match H k,bW P t with
   | some r,some (_,sz,_)=>match lo,hi with
     | some (.v (.int _ a)),some (.v (.int _ b))=>(gt G->(0<=a/\a<=b/\b<=r.es.length)/\r.sz=sz)/\K (.oz k a.toNat b.toNat)
     | some (.v (.int _ a)),none=>(gt G->(0<=a/\a<=r.es.length)/\r.sz=sz)/\K (.oz k a.toNat r.es.length)
     | none,some (.v (.int _ b))=>(gt G->(0<=b/\b<=r.es.length)/\r.sz=sz)/\K (.oz k 0 b.toNat)
     | _,_=>False
   | _,_=>False
 | x=>lY P G t x lo hi K
def DX(P:Program)(G:Option Bool)(t:TypeId)(x a b:AV)(K:AV->Prop):Prop:=
 match x,a,b with
 | .sl es,.v (.int _ a),.v (.int _ b)=>match bW P t with
   | some _=>(gt G->a=es.length/\b=es.length)/\K (.cl es)
   | none=>False
 | _,_,_=>False
def vU(P:Program)(G:Option Bool)(t:TypeId)(x i:AV)(K:AV->Prop):Prop:=
 match x,i with
 | .v (.string s),.v (.int _ n)=>
   if dY P t then(gt G->0<=n/\n<s.size)/\K (.v (.int .u8 ((s.data.getD n.toNat 0).toNat:Int)))else False
 | .agg cs,.v (.int _ n)=>match tI P t with
   | some (m,s,l)=>(gt G->0<=n/\n<m)/\apart G (n.toNat*s) l (.agg cs) K
   | none=>False
 | _,_=>False
def aun(op:UnOp)(x:AV)(K:AV->Prop):Prop:=
 match op,x with
 | .not,.v (.bool b)=>K (.v (.bool !b))
 | .neg,.v (.int k n)=>K (.v (.int k (k.wrap (0-n))))
 | _,_=>False
def pV:List (List AV)->Option (List Int)
 | []=>some []
 | [.v (.int .u8 n)]::r=>(pV r).map (n::·)
 | _=>none
def CJ(P:Program)(t:TypeId):Bool:=
 match P.underlying t with
 | some (.slice e)=>match P.underlying e with
   | some (.int .u8)=>true
   | _=>false
 | _=>false
def Fv(P:Program)(t:TypeId):Option IntKind:=match P.underlying t with|some (.int k)=>some k|_=>none
def wW(P:Program)(src dst:TypeId)(x:AV)(K:AV->Prop):Prop:=
 match x with
 | .v (.int _ n)=>match Fv P dst,Fv P src with
   | some k,some _=>K (.v (.int k (k.wrap n)))
   | _,_=>False
 | .v (.string s)=>if dY P src/\dY P dst then K (.v (.string s))else False
 | .sl es => if CJ P src /\ dY P dst then
     match pV es with
     | some ns=>K (.v (.string (strOfNums ns)))
     | none=>False
   else False
 | _=>False
def qW:Operand->Bool
 | .const (.slice none 0 0)=>true
 | _=>false
def pT(op:BinOp)(x:AV)(K:AV->Prop):Prop:=
 match op,x with
 | .eql,.sl es=>(es=[]->K (.v (.bool true)))/\K (.v (.bool false))
 | .neq,.sl es=>(es=[]->K (.v (.bool false)))/\K (.v (.bool true))
 | .eql,.os _=>K (.v (.bool true))/\K (.v (.bool false))
 | .neq,.os _=>K (.v (.bool false))/\K (.v (.bool true))
 | .eql,.v (.slice none 0 0)=>K (.v (.bool true))
 | .neq,.v (.slice none 0 0)=>K (.v (.bool false))
 | _,_=>False
def gK(P:Program)(G:Option Bool)(ρ:Env)(H:aH)(op:Op)(K:AV->Prop):Prop:=
 match op with
 | .move x| .assign x=>bT G (aev ρ x) K
 | .pick c a b=>bT G (aev ρ c) fun
   | .v (.bool c)=>Ai G c (aev ρ a) (aev ρ b) K
   | _=>False
 | .build t parts=>oI G ρ parts.toList fun l=>vP P t l K
 | .load t a=>match ldT P t with
   | some l=>bT G (aev ρ a) fun a=>nP G H l a K
   | none=>False
 | .nilCheck x=>bT G (aev ρ x) fun
   | .rp cs off=>K (.rp cs off)
   | .op k i f=>K (.op k i f)
   | _=>False
 | .binOp op t x y _=>if qW y=true then bT G (aev ρ x) fun x=>cL P t=true/\pT op x K else bT G (aev ρ x) fun x=>bT G (aev ρ y) fun y=>gD P G op t x y K
 | .unOp op _ x=>bT G (aev ρ x) fun x=>aun op x K
 | .convert src dst x=>bT G (aev ρ x) fun x=>wW P src dst x K
 | .slice t x lo hi none=>bT G (aev ρ x) fun x=>match lo,hi with
   | some lo,some hi=>bT G (aev ρ lo) fun lo=>bT G (aev ρ hi) fun hi=>asl P G H t x (some lo) (some hi) K
   | some lo,none=>bT G (aev ρ lo) fun lo=>asl P G H t x (some lo) none K
   | none,some hi=>bT G (aev ρ hi) fun hi=>asl P G H t x none (some hi) K
   | none,none=>False
 | .slice t x none (some hi) (some m)=>bT G (aev ρ x) fun x=>bT G (aev ρ hi) fun hi=>bT G (aev ρ m) fun m=>DX P G t x hi m K
 | .fieldAddr t x f=>bT G (aev ρ x) fun x=>jH P t f x K
 | .field t x f=>match aM P t f with
   | some (o,l)=>bT G (aev ρ x) fun x=>apart G o l x K
   | none=>False
 | .indexAddr t x i=>bT G (aev ρ x) fun x=>bT G (aev ρ i) fun i=>fO P G H t x i K
 | .index t x i=>bT G (aev ρ x) fun x=>bT G (aev ρ i) fun i=>vU P G t x i K
 | .extract x i=>bT G (aev ρ x) fun
   | .tup vs=>(gt G->i<vs.length)/\K (vs.getD i .any)
   | _=>False
 | .lookup t x i ok=>bT G (aev ρ x) fun x=>bT G (aev ρ i) fun i=>sY P H t x i ok K
 | .makeFunc f first cap=>match f with
   | .func f=>first=#[]/\Ag G ρ cap.toList fun l=>K (.fn f l)
   | _=>False
 | _=>False
def cJ(ops:Array Oper)(ρ:Env)(g:Option (Nat×Bool))(K:Option Bool->Prop):Prop:=
 match g with
 | none=>K none
 | some (j,want)=>match (ops[j]?).bind (·.dst)with
   | some t=>match ρ t with
     | .v (.bool b)=>K (some (b == want))
     | .gd g (.v (.bool b))=>K (some (g&&(b == want)))
     | _=>False
   | none=>False
def qD(mt:Nat->Bool):Option Nat->Bool
 | some d=>mt d
 | none=>false
def oM(H:aH)(r:Row)(K:Nat->aH->Prop):Prop:=∀k,H k=none->K k (aI H k (some r))
def oF(cs:List AV)(f:Nat)(xs:List AV):List AV:=cs.take f++xs++cs.drop (f+xs.length)
def jO:List (Nat×TypeId×Nat)->List AV->aH->(List AV->aH->Prop)->Prop
 | [],cs,H,K=>K cs H
 | x::r,cs,H,K=>oM H ⟨x.2.1,x.2.2,[]⟩ fun k H'=>jO r (cs.set x.1 (.os k)) H' K
def B9(P:Program)(mt:Nat->Bool)(quiet:Bool)(G:Option Bool)(o:Oper)(x:Operand)(ρ:Env)(H:aH)(K:Env->aH->Prop):Prop:=
 if qD mt o.dst=true/\G=none/\quiet=false/\qW x=true then
   match bW P o.type with
   | some (e,sz,_)=>oM H ⟨e,sz,[]⟩ fun k H'=>K (upd ρ o.dst (.os k)) H'
   | none=>False
 else bT G (aev ρ x) fun y=>K (upd ρ o.dst (wr G y)) H
def aeC(mt:Nat->Bool)(o:Oper)(t:TypeId)(cs:List AV)(ρ:Env)(H:aH)(K:Env->aH->Prop):Prop:=
 if qD mt o.dst=true then
   0<cs.length/\oM H ⟨t,cs.length,[cs]⟩ fun k H'=>K (upd ρ o.dst (.op k 0 0)) H'
 else K (upd ρ o.dst (.rp cs 0)) H
def mY(P:Program)(mt:Nat->Bool)(G:Option Bool)(o:Oper)(t:TypeId)(n:Nat)(parts:List (Nat×List AV))(ρ:Env)(H:aH)(K:Env->aH->Prop):Prop:=
 match bW P t with
 | some (e,sz,_)=>
   (parts.map (·.1)=JR 0 n/\cZ sz (parts.map (·.2))/\n*sz<=16777216) /\
   (if qD mt o.dst=true/\G=none then oM H ⟨e,sz,parts.map (·.2)⟩ fun k H'=>K (upd ρ o.dst (.os k)) H'
    else K (upd ρ o.dst (wr G (.sl (parts.map (·.2))))) H)
 | none=>False
def xJ(P:Program)(o:Oper)(t:TypeId)(a:AV)(cs:List AV)(ρ:Env)(H:aH)(K:Env->aH->Prop):Prop:=
 match a with
 | .op k i f=>match H k,ldT P t with
   | some r, some l => (i < r.es.length /\ cs.length = l.getD 1 /\ f + cs.length <= r.sz /\ (l = none -> ∃ i, P.info? t = some i /\ i.size = 1)) /\
       K (upd ρ o.dst .any) (aI H k (some { r with es:=r.es.set i (oF (r.es.getD i []) f cs) }))
   | _,_=>False
 | _=>False
def sL(P:Program)(o:Oper)(t:TypeId)(a:AV)(cs:List AV)(ρ:Env)(H:aH)(K:Env->aH->Prop):Prop:=
 xJ P o t a cs ρ H K\/((ldT P t).isSome=true/\∃nl:List (Nat×TypeId×Nat),(∀x∈nl,cs[x.1]?=some (.v (.slice none 0 0))/\0<x.2.2)/\jO nl cs H fun cs H=>xJ P o t a cs ρ H K)
def zD(x:Operand)(ρ:Env)(d:Option Nat)(H:aH)(K:Env->aH->Prop):Prop:=
 match x with
 | .tmp t=>match ρ t with
   | .os j=>match H j with
     | some r=>∀Hr:aH,Hr j=none->(∀k,k≠j->Hr k=H k)->K (upd (upd ρ (some t) (.sl r.es)) d (.sl r.es)) Hr
     | none=>False
   | _=>False
 | _=>False
theorem C2{t j:Nat}{r:Row}{ρ:Env}{d:Option Nat}{H:aH}{K:Env->aH->Prop}(F:ρ t=.os j)(E:H j=some r)(h:∀u:aH,u j=none->(∀k,k≠j->u k=H k)->K (upd (upd ρ (some t) (.sl r.es)) d (.sl r.es)) u):zD (.tmp t) ρ d H K:=by
 unfold zD;simp only[F,E];exact h
def IL(l:List Nat)(H:aH):List AV->List AV->Prop
 | [],[]=>True
 | x::xs,y::ys=>(x=y\/∃j r,j∈l/\x=.os j/\H j=some r/\y=.sl r.es)/\IL l H xs ys
 | _,_=>False
def HE(x:AV)(ρ:Env)(d:Option Nat)(H:aH)(K:Env->aH->Prop):Prop:=
 match x with
 | .agg cs=>∃(l:List Nat) (ys:List AV),IL l H cs ys/\∀Hr:aH,(∀k,k∈l->Hr k=none)->(∀k,¬k∈l->Hr k=H k)->K (upd ρ d (.agg ys)) Hr
 | _=>False
def wZ(H:aH)(x:AV)(K:List (List AV)->Prop):Prop:=
 match x with
 | .sl es=>K es
 | .os k=>match H k with
   | some r=>K r.es
   | none=>False
 | .oz k a b=>match H k with
   | some r=>K ((r.es.take b).drop a)
   | none=>False
 | _=>False
def GN(H:aH)(x:AV)(K:Nat->Nat->Nat->Row->Prop):Prop:=
 match x with
 | .os k=>match H k with
   | some r=>K k 0 r.es.length r
   | none=>False
 | .oz k a b=>match H k with
   | some r=>K k a (b-a) r
   | none=>False
 | _=>False
def Sf(P:Program)(o:Oper)(t:TypeId)(x y:AV)(ρ:Env)(H:aH)(K:Env->aH->Prop):Prop:=
 GN H x fun k a n r=>wZ H y fun news=>match bW P t with
   | some (_,sz,_)=>(r.sz=sz/\cZ sz news)/\K (upd ρ o.dst (.v (.int .i64 (min news.length n:Nat)))) (aI H k (some { r with es:=r.es.take a++news.take (min news.length n)++r.es.drop (a+min news.length n) }))
   | none=>False
def KC(P:Program)(o:Oper)(t:TypeId)(x:AV)(ρ:Env)(H:aH)(K:Env->aH->Prop):Prop:=
 GN H x fun k a n r=>match bW P t with
   | some (e,sz,_)=>match dO P e with
     | some zs=>r.sz=sz/\K (upd ρ o.dst .any) (aI H k (some { r with es:=r.es.take a++List.replicate n zs++r.es.drop (a+n) }))
     | none=>False
   | none=>False
def sJ(P:Program)(o:Oper)(t:TypeId)(s x:AV)(ρ:Env)(H:aH)(K:Env->aH->Prop):Prop:=
 match s,bW P t with
 | .os k,some (e,sz,bytes)=>match H k with
   | some r => wZ H x fun news =>
       (r.e=e/\r.sz=sz/\cZ sz news/\(r.es.length+news.length)*bytes<=140737488355328) /\
       ∀k',H k'=none->K (upd ρ o.dst (.os k')) (aI (aI H k none) k' (some ⟨e,sz,r.es++news⟩))
   | none=>False
 | .cl es, some (e, sz, bytes) => wZ H x fun news =>
     (news≠[]/\cZ sz es/\cZ sz news/\(es.length+news.length)*bytes<=140737488355328) /\
     ∀k',H k'=none->K (upd ρ o.dst (.os k')) (aI H k' (some ⟨e,sz,es++news⟩))
 | .v (.slice none 0 0), some (e, sz, bytes) => wZ H x fun news =>
     (news≠[]/\cZ sz ([]:List (List AV))/\cZ sz news/\(([]:List (List AV)).length+news.length)*bytes<=140737488355328) /\
     ∀k',H k'=none->K (upd ρ o.dst (.os k')) (aI H k' (some ⟨e,sz,[]++news⟩))
 | _,_=>False
def G6:List (Nat×TypeId×Nat)->List AV->List AV
 | [],z=>z
 | x::r,z=>G6 r (z.set x.1 (.v (.slice none 0 0)))
def zP(P:Program)(o:Oper)(t:TypeId)(parts:List (Nat×Operand))(ρ:Env)(H:aH)(K:Env->aH->Prop):Prop:=
 oI none ρ parts fun l=>match dO P t,eC P t,rE P t with
   | some z,some pl,some nl=>match pZ pl (G6 nl z) l with
     | some cs=>K (upd ρ o.dst (.agg cs)) H
     | none=>False
   | _,_,_=>False
def BX(P:Program)(o:Oper)(t:TypeId)(parts:List (Nat×Operand))(ρ:Env)(H:aH)(K:Env->aH->Prop):Prop:=
 oI none ρ parts fun l=>match dO P t,eC P t,rE P t with
   | some z,some pl,some nl=>jO nl z H fun z H=>match pZ pl z l with
     | some cs=>K (upd ρ o.dst (.agg cs)) H
     | none=>False
   | _,_,_=>False
def kY(P:Program)(o:Oper)(t:TypeId)(m x v:AV)(ρ:Env)(H:aH)(K:Env->aH->Prop):Prop:=
 D3 P H t m x fun j r _ oi=>K (upd ρ o.dst .any) (aI H j (some { r with es:=TF r.es oi x v }))
def zI(P:Program)(o:Oper)(t:TypeId)(m x:AV)(ρ:Env)(H:aH)(K:Env->aH->Prop):Prop:=
 D3 P H t m x fun j r kt oi=>match oi with
   | some i=>K (upd ρ o.dst (.tup [(r.es.getD i []).getD 1 .any,.v (.int .i64 i)])) H
   | none=>match IK P kt.2 with
     | some z=>K (upd ρ o.dst (.tup [z,.v (.int .i64 r.es.length)])) (aI H j (some { r with es:=r.es++[[x,z]] }))
     | none=>False
def sZ(o:Oper)(m s v:AV)(ρ:Env)(H:aH)(K:Env->aH->Prop):Prop:=
 match m,s with
 | .om j,.v (.int _ i)=>match H j with
   | some r=>(0<=i/\i<r.es.length)/\K (upd ρ o.dst .any) (aI H j (some { r with es:=r.es.set i.toNat [(r.es.getD i.toNat []).getD 0 .any,v] }))
   | none=>False
 | _,_=>False
def rG(P:Program)(o:Oper)(t:TypeId)(l c:AV)(ρ:Env)(H:aH)(K:Env->aH->Prop):Prop:=
 match l,c with
 | .v (.int _ a),.v (.int _ b)=>match bW P t with
   | some (e,sz,bytes)=>match dO P e with
     | some z=>((0<=a/\a<=b)/\(bytes:Int)*b<=140737488355328)/\oM H ⟨e,sz,List.replicate a.toNat z⟩ fun k H'=>K (upd ρ o.dst (.os k)) H'
     | none=>False
   | none=>False
 | _,_=>False
def NX:AV->Option (FuncId×List AV×List AV)
 | .v (.func (.func f) first captured)=>some (f,first.toList.map .v,captured.toList.map .v)
 | .fn f cap=>some (f,[],cap)
 | _=>none
def aC(P:Program)(f:FuncId):Bool:=match P.funcs[f]? with|some fn=>fn.name != "runtime.NumGoroutine" && fn.body.isSome|none=>false
abbrev lB:=FuncId->List AV->aH->(AV->aH->Prop)->Prop
def nfq(quiet:Bool)(r:AV)(K:AV->Prop):Prop:=match quiet,r with
 | true,.nf _=>False
 | false,.nf x=>K x
 | _,r=>K r
def Bk(P:Program)(C:lB)(PC:FuncId->List AV->aH->AV->Prop)(nl quiet:Bool)(G:Option Bool)(o:Oper)(c:Call)(ρ:Env)(H:aH)(K:Env->aH->Prop):Prop:=
 match c.callee with
 | .builtin b=>Ag G ρ c.args.toList fun l=>match b,l,c.argTypes.toList with
   | .len,[x],[t]=>GW P H t x fun y=>K (upd ρ o.dst (wr G y)) H
   | .append,[s,x],[t,t']=>if t=t'/\G=none/\quiet=false then sJ P o t s x ρ H K else False
   | .copy,[x,y],[t,_]=>if G=none/\quiet=false then Sf P o t x y ρ H K else False
   | .clear,[x],[t]=>if G=none/\quiet=false then KC P o t x ρ H K else False
   | .max,[x,y],[_,_]=>QT x y fun z=>K (upd ρ o.dst (wr G z)) H
   | .min,[x,y],[_,_]=>Pw x y fun z=>K (upd ρ o.dst (wr G z)) H
   | _,_,_=>False
 | .value f=>bT G (aev ρ f) fun x=>match NX x with
   | some (f,first,captured)=>if nl=true then G=none/\quiet=false/\aC P f=true/\C f (first++c.args.toList.map (J5 ρ)++captured) H fun r H'=>K (upd ρ o.dst r) H' else Ag G ρ c.args.toList fun l=>
     aC P f=true/\if G=none/\quiet=false then C f (first++l++captured) H fun r H'=>K (upd ρ o.dst r) H'
     else ∃r,(gt G->PC f (first++l++captured) H r)/\nfq quiet r fun r=>K (upd ρ o.dst (wr G r)) H
   | none=>False
 | .invoke _ _=>False
def aop(P:Program)(C:lB)(PC:FuncId->List AV->aH->AV->Prop)(mt:Nat->Bool)(quiet:Bool)(ops:Array Oper)(o:Oper)(ρ:Env)(H:aH)(K:Env->aH->Prop):Prop:=
 cJ ops ρ o.guard fun G=>
 match o.op with
 | .assign x=>B9 P mt quiet G o x ρ H K
 | .alloc t=>match dO P t with
   | some z => G = none /\ quiet = false /\ (if qD mt o.dst = true then match rE P t with
       | some nl=>jO nl z H fun z H=>oM H ⟨t,z.length,[z]⟩ fun k H'=>K (upd ρ o.dst (.op k 0 0)) H'
       | none=>False
     else oM H ⟨t,z.length,[z]⟩ fun k H'=>K (upd ρ o.dst (.op k 0 0)) H')
   | none=>False
 | .box t x=>G=none/\quiet=false/\bT G (aev ρ x) fun x=>lZ x fun cs=>aeC mt o t cs ρ H K
 | .buildSlice t n parts=>quiet=false/\oI G ρ parts.toList fun l=>mY P mt G o t n l ρ H K
 | .store t a x => G = none /\ quiet = false /\ (if qW x = true then bT G (aev ρ a) fun a => match bW P t with
       | some (e,sz,_)=>oM H ⟨e,sz,[]⟩ fun k H=>sL P o t a [.os k] ρ H K
       | none=>False
     else bT G (aev ρ a) fun a=>bT G (aev ρ x) fun x=>lZ x fun cs=>sL P o t a cs ρ H K)
 | .call c=>Bk P C PC (qD mt o.dst) quiet G o c ρ H K
 | .move x=>if qD mt o.dst=true then G=none/\quiet=false/\zD x ρ o.dst H K else gK P G ρ H (.move x) fun x=>K (upd ρ o.dst (wr G x)) H
 | .pick c a b=>gK P G ρ H (.pick c a b) fun x=>K (upd ρ o.dst (wr G x)) H
 | .build t parts=>if qD mt o.dst=true then G=none/\(if quiet=true then zP P o t parts.toList ρ H K else BX P o t parts.toList ρ H K)else gK P G ρ H (.build t parts) fun x=>K (upd ρ o.dst (wr G x)) H
 | .load t a=>if qD mt o.dst=true then G=none/\quiet=false/\gK P none ρ H (.load t a) fun x=>HE x ρ o.dst H K else gK P G ρ H (.load t a) fun x=>K (upd ρ o.dst (wr G x)) H
 | .nilCheck x=>gK P G ρ H (.nilCheck x) fun x=>K (upd ρ o.dst (wr G x)) H
 | .binOp op t x y t'=>gK P G ρ H (.binOp op t x y t') fun x=>K (upd ρ o.dst (wr G x)) H
 | .unOp op t x=>gK P G ρ H (.unOp op t x) fun x=>K (upd ρ o.dst (wr G x)) H
 | .convert s d x=>gK P G ρ H (.convert s d x) fun x=>K (upd ρ o.dst (wr G x)) H
 | .slice t x lo hi m=>gK P G ρ H (.slice t x lo hi m) fun x=>K (upd ρ o.dst (wr G x)) H
 | .fieldAddr t x f=>gK P G ρ H (.fieldAddr t x f) fun x=>K (upd ρ o.dst (wr G x)) H
 | .field t x f=>gK P G ρ H (.field t x f) fun x=>K (upd ρ o.dst (wr G x)) H
 | .indexAddr t x i=>gK P G ρ H (.indexAddr t x i) fun x=>K (upd ρ o.dst (wr G x)) H
 | .index t x i=>gK P G ρ H (.index t x i) fun x=>K (upd ρ o.dst (wr G x)) H
 | .extract x i=>gK P G ρ H (.extract x i) fun x=>K (upd ρ o.dst (wr G x)) H
 | .makeFunc f a b=>gK P G ρ H (.makeFunc f a b) fun x=>K (upd ρ o.dst (wr G x)) H
 | .makeSlice t l c=>G=none/\quiet=false/\bT G (aev ρ l) fun l=>bT G (aev ρ c) fun c=>rG P o t l c ρ H K
 | .lookup t x i ok=>gK P G ρ H (.lookup t x i ok) fun x=>K (upd ρ o.dst (wr G x)) H
 | .makeMap _ none=>G=none/\quiet=false/\oM H ⟨0,2,[]⟩ fun k H'=>K (upd ρ o.dst (.om k)) H'
 | .mapUpdate t m x v=>G=none/\quiet=false/\bT G (aev ρ m) fun m=>bT G (aev ρ x) fun x=>bT G (aev ρ v) fun v=>kY P o t m x v ρ H K
 | .insert t m x v=>G=none/\quiet=false/\bT G (aev ρ m) fun m=>bT G (aev ρ x) fun x=>bT G (aev ρ v) fun v=>kY P o t m x v ρ H K
 | .mapEntry t m x=>G=none/\quiet=false/\bT G (aev ρ m) fun m=>bT G (aev ρ x) fun x=>zI P o t m x ρ H K
 | .entryStore _ m s v=>G=none/\quiet=false/\bT G (aev ρ m) fun m=>bT G (aev ρ s) fun s=>bT G (aev ρ v) fun v=>sZ o m s v ρ H K
 | _=>False
def vE(P:Program)(C:lB)(PC:FuncId->List AV->aH->AV->Prop)(mt:Nat->Bool)(quiet:Bool)(ops:Array Oper)(K:Env->aH->Prop):List Oper->Env->aH->Prop
 | [],ρ,H=>K ρ H
 | o::rest,ρ,H=>aop P C PC mt quiet ops o ρ H (vE P C PC mt quiet ops K rest)
def Ex.seq(K:Env->aH->Prop)(Q:Ex->Env->aH->Prop):Ex->Env->aH->Prop
 | .normal,ρ,H=>K ρ H
 | e,ρ,H=>Q e ρ H
def Ex.blk(id:Nat)(Q:Ex->Env->aH->Prop):Ex->Env->aH->Prop
 | .exit i,ρ,H=>if i=id then Q .normal ρ H else Q (.exit i) ρ H
 | e,ρ,H=>Q e ρ H
def Sm(W:(Ex->Env->aH->Prop)->Env->aH->Prop)(Q:Ex->Env->aH->Prop)(ρ:Env)(H:aH):Prop:=
 ∃(I:Env->aH->Prop) (μ:Env->aH->Nat),I ρ H/\∀ρ' H',I ρ' H'->W (Ex.seq (fun ρ'' H''=>I ρ'' H''/\μ ρ'' H''<μ ρ' H') Q) ρ' H'
def aeV(mt:Nat->Bool)(o:Oper):Bool:=match o.op with
 | .alloc _=>true
 | .buildSlice ..=>true
 | .store ..=>true
 | .makeSlice ..=>true
 | .makeMap ..=>true
 | .mapUpdate ..=>true
 | .insert ..=>true
 | .mapEntry ..=>true
 | .entryStore ..=>true
 | .call ⟨.builtin .append,_,_⟩=>true
 | .call ⟨.builtin .copy,_,_⟩=>true
 | .call ⟨.builtin .clear,_,_⟩=>true
 | _=>qD mt o.dst
def RF(mt:Nat->Bool):List Oper->Nat
 | []=>0
 | o::r=>if aeV mt o=true then 0 else RF mt r+1
def SE(ops:Array Oper)(n:Nat):Bool:=Region.noSelect ops&&decide (n<=ops.size)&&Region.lexHead .any ops (ops.size-n) n 0 (Array.replicate ops.size false)
def qH(o:Oper)(H:aH):aH:=match o.op with
 | .slice ..=>H
 | _=>fun _=>none
def xE(P:Program)(C:lB)(PC:FuncId->List AV->aH->AV->Prop)(mt:Nat->Bool)(ops:Array Oper)(K:Env->aH->Prop):List (Nat×Bool)->Env->aH->Prop
 | [],ρ,H=>K ρ H
 | (k,b)::f,ρ,H=>match ops[k]? with
   | some o=>if b=true then aop P C PC mt true ops o ρ (qH o H) fun ρ' _=>xE P C PC mt ops K f ρ' H
     else aop P C PC mt false ops o ρ H (xE P C PC mt ops K f)
   | none=>False
def pO(P:Program)(C:lB)(PC:FuncId->List AV->aH->AV->Prop)(mt:Nat->Bool)(ops:Array Oper)(K:Env->aH->Prop)(Hp:aH):List (Nat×Bool)->Env->aH->Prop
 | [],ρ,H=>K ρ H
 | (k,b)::f,ρ,H=>match ops[k]? with
   | some o=>if b=true then aop P C PC mt true ops o ρ Hp fun ρ' _=>pO P C PC mt ops K Hp f ρ' H
     else aop P C PC mt false ops o ρ H (pO P C PC mt ops K Hp f)
   | none=>False
def mA(l:List Nat)(H:aH)(K:Env->aH->Prop)(ρ':Env)(H':aH):Prop:=
 (∀k,k∈l->H' k=none)->∀Hm:aH,(∀k,k∈l->Hm k=H k)->(∀k,k∉l->Hm k=H' k)->K ρ' Hm
theorem fI{l:List Nat}{H:aH}{K:Env->aH->Prop}{u:Env}{H':aH}(h:(∀k,k∈l->H' k=none)->∀E:aH,(∀k,k∈l->E k=H k)->(∀k,k∉l->E k=H' k)->K u E):mA l H K u H':=h
def oA(ops:Array Oper):List (Nat×Bool)->Array Bool->Bool
 | [],listed=>(Region.ready .any ops listed).isEmpty
 | (k,true)::f,listed=>(Region.ready .any ops listed).contains k&&Region.free .any ops listed k&&oA ops f (listed.setIfInBounds k true)
 | (k,false)::f,listed=>decide (Region.ready .any ops listed=[k])&&oA ops f (listed.setIfInBounds k true)
def L0(ops:Array Oper)(f:List (Nat×Bool)):Bool:=Region.noSelect ops&&decide (f.length=ops.size)&&oA ops f (Array.replicate ops.size false)
inductive Mx where
 | nil
 | q (k:Nat) (t:Mx)
 | a1 (k:Nat) (t:Mx)
 | a2 (k:Nat) (t:Mx) (k':Nat) (t':Mx)
 | a3 (k:Nat) (t:Mx) (k':Nat) (t':Mx) (k'':Nat) (t'':Mx)
def AK(P:Program)(C:lB)(PC:FuncId->List AV->aH->AV->Prop)(mt:Nat->Bool)(quiet:Bool)(ops:Array Oper)(k:Nat)(ρ:Env)(H:aH)(K:Env->aH->Prop):Prop:=
 match ops[k]? with
 | some o=>aop P C PC mt quiet ops o ρ H K
 | none=>False
def mI(P:Program)(C:lB)(PC:FuncId->List AV->aH->AV->Prop)(mt:Nat->Bool)(ops:Array Oper)(K:Env->aH->Prop)(Hp:aH):Mx->Env->aH->Prop
 | .nil,ρ,H=>K ρ H
 | .q k t,ρ,H=>AK P C PC mt true ops k ρ Hp fun ρ' _=>mI P C PC mt ops K Hp t ρ' H
 | .a1 k t,ρ,H=>AK P C PC mt false ops k ρ H (mI P C PC mt ops K Hp t)
 | .a2 k t k' t',ρ,H=>AK P C PC mt false ops k ρ H (mI P C PC mt ops K Hp t)/\AK P C PC mt false ops k' ρ H (mI P C PC mt ops K Hp t')
 | .a3 k t k' t' k'' t'',ρ,H=>AK P C PC mt false ops k ρ H (mI P C PC mt ops K Hp t)/\AK P C PC mt false ops k' ρ H (mI P C PC mt ops K Hp t')/\AK P C PC mt false ops k'' ρ H (mI P C PC mt ops K Hp t'')
def fL(ops:Array Oper):Mx->Nat->Array Bool->Bool
 | .nil,0,listed=>(Region.ready .any ops listed).isEmpty
 | .q k t,n+1,listed=>(Region.ready .any ops listed).contains k&&Region.free .any ops listed k&&fL ops t n (listed.setIfInBounds k true)
 | .a1 k t,n+1,listed=>decide (Region.ready .any ops listed=[k])&&fL ops t n (listed.setIfInBounds k true)
 | .a2 k t k' t',n+1,listed=>decide (Region.ready .any ops listed=[k,k'])&&fL ops t n (listed.setIfInBounds k true)&&fL ops t' n (listed.setIfInBounds k' true)
 | .a3 k t k' t' k'' t'',n+1,listed=>decide (Region.ready .any ops listed=[k,k',k''])&&fL ops t n (listed.setIfInBounds k true)&&fL ops t' n (listed.setIfInBounds k' true)&&fL ops t'' n (listed.setIfInBounds k'' true)
 | _,_,_=>false
def ME(ops:Array Oper)(t:Mx):Bool:=Region.noSelect ops&&fL ops t ops.size (Array.replicate ops.size false)
def tA(P:Program)(C:lB)(PC:FuncId->List AV->aH->AV->Prop)(mt:Nat->Bool)(ops:Array Oper)(K:Env->aH->Prop)(m:Nat)(ρ:Env)(H:aH):Prop:=
 (m=ops.size/\Region.lexB .any ops=true/\vE P C PC mt true ops K ops.toList ρ H) \/
 (SE ops m=true/\vE P C PC mt true ops (fun ρ' _=>vE P C PC mt false ops K (ops.toList.drop m) ρ' H) (ops.toList.take m) ρ fun _=>none) \/
 (∃f,L0 ops f=true/\xE P C PC mt ops K f ρ H) \/
 (∃l f,(∀k,k∈l->(H k).isSome=true)/\L0 ops f=true/\∀Hp Hr:aH,(∀k,k∈l->Hp k=H k)->(∀k,k∉l->Hr k=H k)->(∀k,k∉l->Hp k=none)->(∀k,k∈l->Hr k=none)->pO P C PC mt ops (mA l H K) Hp f ρ Hr) \/
 ∃l t,(∀k,k∈l->(H k).isSome=true)/\ME ops t=true/\∀Hp Hr:aH,(∀k,k∈l->Hp k=H k)->(∀k,k∉l->Hr k=H k)->(∀k,k∉l->Hp k=none)->(∀k,k∈l->Hr k=none)->mI P C PC mt ops (mA l H K) Hp t ρ Hr
theorem dJ{P:Program}{C:lB}{PC:FuncId->List AV->aH->AV->Prop}{mt:Nat->Bool}{l:List Oper}{K:Env->aH->Prop}{m:Nat}{ρ:Env}{H:aH}(u:(m == l.length)=true)(E:Region.lexB .any l.toArray=true)
 (h:vE P C PC mt true l.toArray K l ρ H):tA P C PC mt l.toArray K m ρ H:=.inl ⟨by simpa using u,E,h⟩
theorem Es{P:Program}{C:lB}{PC:FuncId->List AV->aH->AV->Prop}{mt:Nat->Bool}{l:List Oper}{K:Env->aH->Prop}{m:Nat}{ρ:Env}{H:aH}(E:SE l.toArray m=true)
 (h:vE P C PC mt true l.toArray (fun u _=>vE P C PC mt false l.toArray K (l.drop m) u H) (l.take m) ρ fun _=>none):tA P C PC mt l.toArray K m ρ H:=.inr (.inl ⟨E,h⟩)
theorem sM{P:Program}{C:lB}{PC:FuncId->List AV->aH->AV->Prop}{mt:Nat->Bool}{l:List Oper}{K:Env->aH->Prop}{m:Nat}{ρ:Env}{H:aH}(f:List (Nat×Bool))(u:L0 l.toArray f=true)
 (h:xE P C PC mt l.toArray K f ρ H):tA P C PC mt l.toArray K m ρ H:=.inr (.inr (.inl ⟨f,u,h⟩))
theorem fE{P:Program}{C:lB}{PC:FuncId->List AV->aH->AV->Prop}{mt:Nat->Bool}{ops:List Oper}{K:Env->aH->Prop}{m:Nat}{ρ:Env}{H:aH}(l:List Nat)(f:List (Nat×Bool))(F:∀k,k∈l->(H k).isSome=true)(E:L0 ops.toArray f=true)
 (h:∀Hp u:aH,(∀k,k∈l->Hp k=H k)->(∀k,k∉l->u k=H k)->(∀k,k∉l->Hp k=none)->(∀k,k∈l->u k=none)->pO P C PC mt ops.toArray (mA l H K) Hp f ρ u):tA P C PC mt ops.toArray K m ρ H:=.inr (.inr (.inr (.inl ⟨l,f,F,E,h⟩)))
theorem vA{P:Program}{C:lB}{PC:FuncId->List AV->aH->AV->Prop}{mt:Nat->Bool}{ops:List Oper}{K:Env->aH->Prop}{m:Nat}{ρ:Env}{H:aH}(l:List Nat)(t:Mx)(F:∀k,k∈l->(H k).isSome=true)(E:ME ops.toArray t=true)
 (h:∀Hp u:aH,(∀k,k∈l->Hp k=H k)->(∀k,k∉l->u k=H k)->(∀k,k∉l->Hp k=none)->(∀k,k∈l->u k=none)->mI P C PC mt ops.toArray (mA l H K) Hp t ρ u):tA P C PC mt ops.toArray K m ρ H:=.inr (.inr (.inr (.inr ⟨l,t,F,E,h⟩)))
def awp(P:Program)(C:lB)(PC:FuncId->List AV->aH->AV->Prop)(mt:Nat->Bool):Code->(Ex->Env->aH->Prop)->Env->aH->Prop
 | .skip,Q,ρ,H=>Q .normal ρ H
 | .region _ ops draw,Q,ρ,H=>if draw=true then tA P C PC mt ops (Q .normal) (RF mt ops.toList) ρ H else vE P C PC mt false ops (Q .normal) ops.toList ρ H
 | .seq a b,Q,ρ,H=>awp P C PC mt a (Ex.seq (awp P C PC mt b Q) Q) ρ H
 | .cond c a b,Q,ρ,H=>match aev ρ c with
   | .v (.bool t)=>(t=true->awp P C PC mt a Q ρ H)/\(t=false->awp P C PC mt b Q ρ H)
   | _=>False
 | .block id c,Q,ρ,H=>awp P C PC mt c (Ex.blk id Q) ρ H
 | .loop c,Q,ρ,H=>Sm (awp P C PC mt c) Q ρ H
 | .scope c,Q,ρ,H=>awp P C PC mt c Q ρ H
 | .label _,Q,ρ,H=>Q .normal ρ H
 | .exit id,Q,ρ,H=>Q (.exit id) ρ H
 | .ret,Q,ρ,H=>Q .ret ρ H
 | _,_,_,_=>False
def yR(x:AV)(A B:Env->aH->Prop)(ρ:Env)(H:aH):Prop:=
 match x with
 | .v (.bool t)=>(t=true->A ρ H)/\(t=false->B ρ H)
 | _=>False
section
variable{P:Program}{C:lB}{PC:FuncId->List AV->aH->AV->Prop}{mt:Nat->Bool}{Q:Ex->Env->aH->Prop}{K:Env->aH->Prop}{ρ:Env}{H:aH}{a b c:Code}{id:Nat}{ops:Array Oper}{draw:Bool}
theorem Vl:awp P C PC mt .skip Q ρ H=Q .normal ρ H:=(rfl)
theorem E7:awp P C PC mt (.region id ops false) Q ρ H=vE P C PC mt false ops (Q .normal) ops.toList ρ H:=by simp[awp]
theorem NR:awp P C PC mt (.region id ops true) Q ρ H=tA P C PC mt ops (Q .normal) (RF mt ops.toList) ρ H:=by simp[awp]
@[congr] theorem adraw_c {m m':Nat} (h:m=m'):tA P C PC mt ops K m ρ H=tA P C PC mt ops K m' ρ H:=h▸rfl
theorem Re:awp P C PC mt (.seq a b) Q ρ H=awp P C PC mt a (Ex.seq (awp P C PC mt b Q) Q) ρ H:=(rfl)
theorem MJ{x:Operand}:awp P C PC mt (.cond x a b) Q ρ H=yR (aev ρ x) (awp P C PC mt a Q) (awp P C PC mt b Q) ρ H:=(rfl)
theorem IF:awp P C PC mt (.block id c) Q ρ H=awp P C PC mt c (Ex.blk id Q) ρ H:=(rfl)
theorem Nj:awp P C PC mt (.loop c) Q ρ H=Sm (awp P C PC mt c) Q ρ H:=(rfl)
theorem I1:awp P C PC mt (.scope c) Q ρ H=awp P C PC mt c Q ρ H:=(rfl)
theorem UP{l:Nat}:awp P C PC mt (.label l) Q ρ H=Q .normal ρ H:=(rfl)
theorem VQ:awp P C PC mt (.exit id) Q ρ H=Q (.exit id) ρ H:=(rfl)
theorem ZR:awp P C PC mt .ret Q ρ H=Q .ret ρ H:=(rfl)
theorem YM:vE P C PC mt draw ops K [] ρ H=K ρ H:=(rfl)
theorem UJ{o:Oper}{r:List Oper}:vE P C PC mt draw ops K (o::r) ρ H=aop P C PC mt draw ops o ρ H (vE P C PC mt draw ops K r):=(rfl)
theorem O6:Ex.seq K Q .normal ρ H=K ρ H:=(rfl)
theorem XQ:Ex.seq K Q (.exit id) ρ H=Q (.exit id) ρ H:=(rfl)
theorem abZ:Ex.seq K Q .ret ρ H=Q .ret ρ H:=(rfl)
theorem Oj:Ex.blk id Q .normal ρ H=Q .normal ρ H:=(rfl)
theorem Q9:Ex.blk id Q .ret ρ H=Q .ret ρ H:=(rfl)
theorem Ob:Ex.blk id Q (.exit id) ρ H=Q .normal ρ H:=by simp[Ex.blk]
theorem UY{i:Nat}(h:(i == id)=false):Ex.blk id Q (.exit i) ρ H=Q (.exit i) ρ H:=by
 have:i≠id:=by simpa using h
 simp[Ex.blk,this]
end
@[congr] theorem wopd_c {G x x' k} (h:x=x'):bT G x k=bT G x' k:=h▸rfl
@[congr] theorem abin_c {P G op t x x' y y' k} (h:x=x') (h':y=y'):gD P G op t x y k=gD P G op t x' y' k:=h▸h'▸rfl
@[congr] theorem apick_c {G c c' x x' y y' k} (h0:c=c') (h:x=x') (h':y=y'):Ai G c x y k=Ai G c' x' y' k:=h0▸h▸h'▸rfl
@[congr] theorem aload_c {G H l l' x x' k} (h:l=l') (h':x=x'):nP G H l x k=nP G H l' x' k:=h▸h'▸rfl
@[congr] theorem apart_c {G o o' l l' x x' k} (h0:o=o') (h:l=l') (h':x=x'):apart G o l x k=apart G o' l' x' k:=h0▸h▸h'▸rfl
@[congr] theorem alen_c {P H t x x' k} (h':x=x'):GW P H t x k=GW P H t x' k:=h'▸rfl
@[congr] theorem aindexAddr_c {P G H t x x' y y' k} (h:x=x') (h':y=y'):fO P G H t x y k=fO P G H t x' y' k:=h▸h'▸rfl
@[congr] theorem aindex_c {P G t x x' y y' k} (h:x=x') (h':y=y'):vU P G t x y k=vU P G t x' y' k:=h▸h'▸rfl
@[congr] theorem afieldAddr_c {P t f x x' k} (h':x=x'):jH P t f x k=jH P t f x' k:=h'▸rfl
@[congr] theorem abuild_c {P t l l' k} (h':l=l'):vP P t l k=vP P t l' k:=h'▸rfl
@[congr] theorem aslice_c {P G t x x' lo lo' hi hi' k} (h:x=x') (h1:lo=lo') (h2:hi=hi'):lY P G t x lo hi k=lY P G t x' lo' hi' k:=h▸h1▸h2▸rfl
@[congr] theorem aun_c {op x x' k} (h':x=x'):aun op x k=aun op x' k:=h'▸rfl
@[congr] theorem aconv_c {P s t x x' k} (h':x=x'):wW P s t x k=wW P s t x' k:=h'▸rfl
@[congr] theorem wcells_c {x x' K} (h:x=x'):lZ x K=lZ x' K:=h▸rfl
@[congr] theorem acond_c {x x' A B ρ H} (h':x=x'):yR x A B ρ H=yR x' A B ρ H:=h'▸rfl
@[congr] theorem abox_c {mt o t x x' ρ H K} (h:x=x'):aeC mt o t x ρ H K=aeC mt o t x' ρ H K:=h▸rfl
@[congr] theorem abuildSlice_c {P mt G o t n x x' ρ H K} (h:x=x'):mY P mt G o t n x ρ H K=mY P mt G o t n x' ρ H K:=h▸rfl
@[congr] theorem astore_c {P o t a a' x x' ρ H K} (h:a=a') (h':x=x'):xJ P o t a x ρ H K=xJ P o t a' x' ρ H K:=h▸h'▸rfl
@[congr] theorem aappend_c {P o t a a' x x' ρ H K} (h:a=a') (h':x=x'):sJ P o t a x ρ H K=sJ P o t a' x' ρ H K:=h▸h'▸rfl
@[congr] theorem asrc_c {H x x' K} (h:x=x'):wZ H x K=wZ H x' K:=h▸rfl
@[congr] theorem anew_c {H r r' K} (h:r=r'):oM H r K=oM H r' K:=h▸rfl
theorem aA{t:Bool}{A B:Env->aH->Prop}{ρ:Env}{H:aH}(h1:t=true->A ρ H)(u:t=false->B ρ H):yR (.v (.bool t)) A B ρ H:=⟨h1,u⟩
def D9(args:List AV):Env:=fun t=>args.getD t .any
def aT:AV->Nat
 | .v (.int _ n)=>n.toNat
 | _=>0
theorem aE{k n}:aT (.v (.int k n))=n.toNat:=(rfl)
section
variable{G:Option Bool}{k:AV->Prop}
theorem VK{x}:bT G (.v x) k=k (.v x):=(rfl)
theorem Ln:bT G .any k=k .any:=(rfl)
theorem Sd{x}:bT G (.sl x) k=k (.sl x):=(rfl)
theorem SD{x o}:bT G (.rp x o) k=k (.rp x o):=(rfl)
theorem NE{x}:bT G (.agg x) k=k (.agg x):=(rfl)
theorem MT{x}:bT G (.tup x) k=k (.tup x):=(rfl)
theorem Sh{x}:bT G (.os x) k=k (.os x):=(rfl)
theorem Rh{x i f}:bT G (.op x i f) k=k (.op x i f):=(rfl)
theorem Ru{f l}:bT G (.fn f l) k=k (.fn f l):=(rfl)
theorem SK{j a b}:bT G (.oz j a b) k=k (.oz j a b):=(rfl)
theorem SS{es}:bT G (.cl es) k=k (.cl es):=(rfl)
theorem SF{j}:bT G (.om j) k=k (.om j):=(rfl)
theorem S9{g x}:bT G (.gd g x) k=(gok G g/\k x):=(rfl)
end
def Q4(K:Env->aH->Prop)(ρ:Env)(d:Option Tmp)(j:Nat)(H:aH):Prop:=K (upd ρ d (.os j)) H
def SL(K:Env->aH->Prop)(ρ:Env)(d:Option Tmp)(j:Nat)(H:aH):Prop:=K (upd ρ d (.op j 0 0)) H
def Lc(K:Env->aH->Prop)(ρ:Env)(d:Option Tmp)(r:AV)(H:aH):Prop:=K (upd ρ d r) H
theorem LA{K ρ d j H}:Q4 K ρ d j H=K (upd ρ d (.os j)) H:=(rfl)
theorem NP{K ρ d j H}:SL K ρ d j H=K (upd ρ d (.op j 0 0)) H:=(rfl)
theorem Oa{K ρ d r H}:Lc K ρ d r H=K (upd ρ d r) H:=(rfl)
def wpick(G:Option Bool)(c x y:AV)(k:AV->Prop):Prop:=match c with
 | .v (.bool c)=>Ai G c x y k
 | _=>False
@[congr] theorem wpick_c {G c c' x y k} (h:c=c'):wpick G c x y k=wpick G c' x y k:=h▸rfl
theorem Tc{G c x y k}:wpick G (.v (.bool c)) x y k=Ai G c x y k:=(rfl)
def XX(x:AV)(k:AV->Prop):Prop:=match x with
 | .rp cs off=>k (.rp cs off)
 | .op j i f=>k (.op j i f)
 | _=>False
@[congr] theorem wptr_c {x x' k} (h:x=x'):XX x k=XX x' k:=h▸rfl
theorem RK{cs o k}:XX (.rp cs o) k=k (.rp cs o):=(rfl)
theorem Rl{j i f k}:XX (.op j i f) k=k (.op j i f):=(rfl)
def Zz(G:Option Bool)(x:AV)(i:Nat)(k:AV->Prop):Prop:=match x with
 | .tup vs=>(gt G->i<vs.length)/\k (vs.getD i .any)
 | _=>False
@[congr] theorem wtup_c {G x x' i k} (h:x=x'):Zz G x i k=Zz G x' i k:=h▸rfl
theorem RN{G vs i k}:Zz G (.tup vs) i k=((gt G->i<vs.length)/\k (vs.getD i .any)):=(rfl)
def T4(P:Program)(d:Option Tmp)(t:TypeId)(a:AV)(cs:List AV)(ρ:Env)(H:aH)(K:Env->aH->Prop):Prop:=sL P ⟨d,.move (.tmp 0),0,"",#[],none⟩ t a cs ρ H K
@[congr] theorem wput_c {P d t a a' cs cs' ρ H K} (h:a=a') (h':cs=cs'):T4 P d t a cs ρ H K=T4 P d t a' cs' ρ H K:=h▸h'▸rfl
def Kj(P:Program)(d:Option Tmp)(t:TypeId)(s x:AV)(ρ:Env)(H:aH)(K:Env->aH->Prop):Prop:=sJ P ⟨d,.move (.tmp 0),0,"",#[],none⟩ t s x ρ H K
@[congr] theorem wapp_c {P d t s s' x x' ρ H K} (h:s=s') (h':x=x'):Kj P d t s x ρ H K=Kj P d t s' x' ρ H K:=h▸h'▸rfl
def NO(P:Program)(d:Option Tmp)(t:TypeId)(l c:AV)(ρ:Env)(H:aH)(K:Env->aH->Prop):Prop:=rG P ⟨d,.move (.tmp 0),0,"",#[],none⟩ t l c ρ H K
@[congr] theorem wmake_c {P d t s s' x x' ρ H K} (h:s=s') (h':x=x'):NO P d t s x ρ H K=NO P d t s' x' ρ H K:=h▸h'▸rfl
def Lq(P:Program)(d:Option Tmp)(t:TypeId)(x y:AV)(ρ:Env)(H:aH)(K:Env->aH->Prop):Prop:=Sf P ⟨d,.move (.tmp 0),0,"",#[],none⟩ t x y ρ H K
@[congr] theorem wcopy_c {P d t s s' x x' ρ H K} (h:s=s') (h':x=x'):Lq P d t s x ρ H K=Lq P d t s' x' ρ H K:=h▸h'▸rfl
theorem aeD{P:Program}{d:Option Tmp}{t:TypeId}{x y:AV}{ρ:Env}{H:aH}{K:Env->aH->Prop}{e:TypeId}{sz u j a n:Nat}{r:Row}{news:List (List AV)}(M:bW P t=some (e,sz,u))(J:H j=some r)
   (hx:(x=.os j/\a=0/\n=r.es.length)\/∃b,x=.oz j a b/\n=b-a) (hy:y=.sl news\/(∃i r',y=.os i/\H i=some r'/\r'.es=news)\/∃i r' p q,y=.oz i p q/\H i=some r'/\(r'.es.take q).drop p=news)
   (h1:r.sz=sz) (Z:cZ sz news) (h:K (upd ρ d (.v (.int .i64 (min news.length n:Nat)))) (aI H j (some { r with es:=r.es.take a++news.take (min news.length n)++r.es.drop (a+min news.length n) }))):Lq P d t x y ρ H K:=by
 unfold Lq Sf;have O:∀F:List (List AV)->Prop,F news->wZ H y F:=by
   intro F E;rcases hy with rfl|⟨i,r',rfl,I,rfl⟩|⟨i,r',p,q,rfl,I,rfl⟩
   . exact E
   . simp only[wZ,I];exact E
   . simp only[wZ,I];exact E
 have T:∀F:Nat->Nat->Nat->Row->Prop,F j a n r->GN H x F:=by
   intro F E;rcases hx with⟨rfl,rfl,rfl⟩|⟨b,rfl,rfl⟩
   . simp only[GN,J];exact E
   . simp only[GN,J];exact E
 refine T _ (O _ ?_);simp only[M];exact⟨⟨h1,Z⟩,h⟩
def EM(P:Program)(d:Option Tmp)(t:TypeId)(x:AV)(ρ:Env)(H:aH)(K:Env->aH->Prop):Prop:=KC P ⟨d,.move (.tmp 0),0,"",#[],none⟩ t x ρ H K
@[congr] theorem wclear_c {P d t s s' ρ H K} (h:s=s'):EM P d t s ρ H K=EM P d t s' ρ H K:=h▸rfl
theorem Vx{P:Program}{d:Option Tmp}{t:TypeId}{x:AV}{ρ:Env}{H:aH}{K:Env->aH->Prop}{e:TypeId}{sz u j a n:Nat}{r:Row}{J:List AV}(M:bW P t=some (e,sz,u))(Z:dO P e=some J)(E:H j=some r)
   (T:(x=.os j/\a=0/\n=r.es.length)\/∃b,x=.oz j a b/\n=b-a) (h1:r.sz=sz) (h:K (upd ρ d .any) (aI H j (some { r with es:=r.es.take a++List.replicate n J++r.es.drop (a+n) }))):EM P d t x ρ H K:=by
 unfold EM KC;have O:∀F:Nat->Nat->Nat->Row->Prop,F j a n r->GN H x F:=by
   intro F I;rcases T with⟨rfl,rfl,rfl⟩|⟨b,rfl,rfl⟩
   . simp only[GN,E];exact I
   . simp only[GN,E];exact I
 refine O _ ?_;simp only[M,Z];exact⟨h1,h⟩
theorem RQ{P:Program}{d:Option Tmp}{t:TypeId}{es:List (List AV)}{x:AV}{ρ:Env}{H:aH}{K:Env->aH->Prop}{e:TypeId}{sz u:Nat}{news:List (List AV)}(J:bW P t=some (e,sz,u))
   (M:x=.sl news\/∃i r',x=.os i/\H i=some r'/\r'.es=news) (h0:news≠[]) (h1:cZ sz es) (F:cZ sz news) (I:(es.length+news.length)*u<=140737488355328)
   (h:∀E,H E=none->K (upd ρ d (.os E)) (aI H E (some ⟨e,sz,es++news⟩))):Kj P d t (.cl es) x ρ H K:=by
 unfold Kj sJ;simp only[J];rcases M with rfl|⟨i,r',rfl,O,rfl⟩
 . exact⟨⟨h0,h1,F,I⟩,h⟩
 . simp only[wZ,O]
   exact⟨⟨h0,h1,F,I⟩,h⟩
theorem Y4{P:Program}{d:Option Tmp}{t:TypeId}{x:AV}{ρ:Env}{H:aH}{K:Env->aH->Prop}{e:TypeId}{sz u:Nat}{news:List (List AV)}(J:bW P t=some (e,sz,u))
   (M:x=.sl news\/∃i r',x=.os i/\H i=some r'/\r'.es=news) (h0:news≠[]) (F:cZ sz news) (I:news.length*u<=140737488355328)
   (h:∀E,H E=none->K (upd ρ d (.os E)) (aI H E (some ⟨e,sz,news⟩))):Kj P d t (.v (.slice none 0 0)) x ρ H K:=by
 unfold Kj sJ;simp only[J];rcases M with rfl|⟨i,r',rfl,O,rfl⟩
 . exact⟨⟨h0,trivial,F,by simpa using I⟩,h⟩
 . simp only[wZ,O]
   exact⟨⟨h0,trivial,F,by simpa using I⟩,h⟩
theorem aK{H:aH}{r:Row}{F:Nat->aH->Prop}(h:∀j,H j=none->F j (aI H j (some r))):oM H r F:=h
def bN{α:Type}(o:Option α)(f:α->Prop):Prop:=match o with|some x=>f x|none=>False
theorem FN{α:Type}{x:α}{f:α->Prop}:bN (some x) f=f x:=(rfl)
@[congr] theorem withO_c {α:Type} {o o':Option α} {f:α->Prop} (h:o=o'):bN o f=bN o' f:=h▸rfl
section
variable{P:Program}{C:lB}{PC:FuncId->List AV->aH->AV->Prop}{mt:Nat->Bool}{q:Bool}{ops:Array Oper}{d:Option Tmp}{ty:TypeId}{pos:String}{aft:Array Edge}{ρ:Env}{H:aH}{K:Env->aH->Prop}{G:Option Bool}{k:AV->Prop}
theorem RE{t}:aev ρ (.tmp t)=ρ t:=(rfl)
theorem IE{v}:aev ρ (.const v)=pJ v:=(rfl)
theorem LM{f}:aev ρ (.func f)=.v (.func (.func f) #[] #[]):=(rfl)
theorem LP{t n a b}:gD P G .add t (.v (.int n a)) (.v (.int n b)) k=k (.v (.int n (n.wrap (a+b)))):=by simp[gD,vD]
theorem N7{t n a b}:gD P G .sub t (.v (.int n a)) (.v (.int n b)) k=k (.v (.int n (n.wrap (a-b)))):=by simp[gD,vD]
theorem Nk{t n a b}:gD P G .mul t (.v (.int n a)) (.v (.int n b)) k=k (.v (.int n (n.wrap (a*b)))):=by simp[gD,vD]
theorem LR{t n a b}:gD P G .quo t (.v (.int n a)) (.v (.int n b)) k=((gt G->b≠0)/\k (.v (.int n (n.wrap (a.tdiv b))))):=by simp[gD,vD]
theorem LZ{t n a b}:gD P G .rem t (.v (.int n a)) (.v (.int n b)) k=((gt G->b≠0)/\k (.v (.int n (a.tmod b)))):=by simp[gD,vD]
theorem NM{t n a b}:gD P G .eql t (.v (.int n a)) (.v (.int n b)) k=k (.v (.bool (a == b))):=by simp[gD,vD]
theorem Mi{t n a b}:gD P G .neq t (.v (.int n a)) (.v (.int n b)) k=k (.v (.bool (a != b))):=by simp[gD,vD]
theorem Mn{t n a b}:gD P G .lss t (.v (.int n a)) (.v (.int n b)) k=k (.v (.bool (decide (a<b)))):=by simp[gD,vD]
theorem Mc{t n a b}:gD P G .leq t (.v (.int n a)) (.v (.int n b)) k=k (.v (.bool (decide (a<=b)))):=by simp[gD,vD]
theorem K6{t n a b}:gD P G .gtr t (.v (.int n a)) (.v (.int n b)) k=k (.v (.bool (decide (a>b)))):=by simp[gD,vD]
theorem NS{t n a b}:gD P G .geq t (.v (.int n a)) (.v (.int n b)) k=k (.v (.bool (decide (a>=b)))):=by simp[gD,vD]
theorem NI{t n m a b}:gD P G .shl t (.v (.int n a)) (.v (.int m b)) k=((gt G->0<=b)/\k (.v (.int n (shV .shl n a b)))):=by simp[gD,vD]
theorem MO{t n m a b}:gD P G .shr t (.v (.int n a)) (.v (.int m b)) k=((gt G->0<=b)/\k (.v (.int n (shV .shr n a b)))):=by simp[gD,vD]
theorem Np{t n a b}:gD P G .and t (.v (.int n a)) (.v (.int n b)) k=k (.v (.int n (rY .and n a b))):=by simp[gD,vD]
theorem Sl{t n a b}:gD P G .or t (.v (.int n a)) (.v (.int n b)) k=k (.v (.int n (rY .or n a b))):=by simp[gD,vD]
theorem Nd{t n a b}:gD P G .xor t (.v (.int n a)) (.v (.int n b)) k=k (.v (.int n (rY .xor n a b))):=by simp[gD,vD]
theorem Do{t n a b}:gD P G .andNot t (.v (.int n a)) (.v (.int n b)) k=k (.v (.int n (rY .andNot n a b))):=by simp[gD,vD]
theorem Hd{op t x}:gD P G op t (.v x) .any k=((gt G->False)/\k .any):=by cases x <;> rfl
theorem Hl{op t x}:gD P G op t .any (.v x) k=((gt G->False)/\k .any):=by cases x <;> rfl
theorem Ho{x}:uN false .any (.v x)=.v x:=by cases x <;> rfl
theorem E8{x}:uN true (.v x) .any=.v x:=by cases x with
 | bool b=>cases b <;> rfl
 | _=>rfl
theorem H4{t a b}:gD P G .add t (.v (.string a)) (.v (.string b)) k=((gt G->((a.size+b.size:Nat):Int)<=IntKind.i64.max)/\k (.v (.string (a++b)))):=(rfl)
theorem If{t a b}:gD P G .eql t (.v (.string a)) (.v (.string b)) k=k (.v (.bool (a.toList == b.toList))):=(rfl)
theorem Hq{t a b}:gD P G .neq t (.v (.string a)) (.v (.string b)) k=k (.v (.bool !(a.toList == b.toList))):=(rfl)
theorem IH{t a b}:gD P G .eql t (.v (.bool a)) (.v (.bool b)) k=if zS P t then k (.v (.bool (a == b)))else False:=(rfl)
theorem I8{t a b}:gD P G .neq t (.v (.bool a)) (.v (.bool b)) k=if zS P t then k (.v (.bool !(a == b)))else False:=(rfl)
theorem HS{t x y}:gD P G .eql t (.agg x) (.agg y) k=bN (wS P t) fun l=>bN (gW l x y) fun b=>k (.v (.bool b)):=by
 cases h1:wS P t with
 | none=>simp[gD,bN,h1]
 | some l=>cases u:gW l x y <;> simp[gD,bN,h1,u]
theorem HW{t x y}:gD P G .neq t (.agg x) (.agg y) k=bN (wS P t) fun l=>bN (gW l x y) fun b=>k (.v (.bool !b)):=by
 cases h1:wS P t with
 | none=>simp[gD,bN,h1]
 | some l=>cases u:gW l x y <;> simp[gD,bN,h1,u]
theorem LW{c x y}:Ai G c (.v x) (.v y) k=k (uN c (.v x) (.v y)):=(rfl)
theorem N0{c x g y}:Ai G c (.v x) (.gd g y) k=((gt G->c=false->g=true)/\k (uN c (.v x) y)):=(rfl)
theorem Oe{c g x y}:Ai G c (.gd g x) (.v y) k=((gt G->c=true->g=true)/\k (uN c x (.v y))):=(rfl)
theorem Q6{c b}:uN c (.v (.bool true)) (.v (.bool b))=.v (.bool (c||b)):=(rfl)
theorem Rf{c a}:uN c (.v (.bool a)) (.v (.bool false))=.v (.bool (c&&a)):=by cases a <;> cases c <;> rfl
theorem IS{cs o}:nP G H none (.rp cs o) k=((gt G->o<cs.length)/\k (cs.getD o .any)):=(rfl)
theorem H8{cs o n}:nP G H (some n) (.rp cs o) k=((gt G->o+n<=cs.length)/\k (.agg ((cs.drop o).take n))):=(rfl)
theorem Ig{j i f}:nP G H none (.op j i f) k=bN (H j) fun r=>(gt G->i<r.es.length/\f<r.sz)/\k ((r.es.getD i []).getD f .any):=by
 cases h1:H j <;> simp[nP,bN,h1]
theorem IX{j i f n}:nP G H (some n) (.op j i f) k=bN (H j) fun r=>(gt G->i<r.es.length/\f+n<=r.sz)/\k (.agg (((r.es.getD i []).drop f).take n)):=by
 cases h1:H j <;> simp[nP,bN,h1]
theorem Se{o cs}:apart G o none (.agg cs) k=((gt G->o<cs.length)/\k (cs.getD o .any)):=(rfl)
theorem Rr{o n cs}:apart G o (some n) (.agg cs) k=((gt G->o+n<=cs.length)/\k (.agg ((cs.drop o).take n))):=(rfl)
theorem RB{t es}:GW P H t (.sl es) k=if cL P t then k (.v (.int .i64 es.length))else False:=(rfl)
theorem SU{t j}:GW P H t (.os j) k=bN (H j) fun r=>if cL P t then k (.v (.int .i64 r.es.length))else False:=by
 cases h1:H j <;> simp[GW,bN,h1]
theorem RH{t s}:GW P H t (.v (.string s)) k=if dY P t then k (.v (.int .i64 s.size))else False:=(rfl)
theorem Ac{t es n i}:fO P G H t (.sl es) (.v (.int n i)) k=bN (bW P t) fun e=>(gt G->(0<=i/\i<es.length)/\(es.getD i.toNat []).length=e.2.1)/\k (.rp (es.getD i.toNat []) 0):=by
 cases h1:bW P t <;> simp[fO,bN,h1]
theorem An{t j n i}:fO P G H t (.os j) (.v (.int n i)) k=bN (H j) fun r=>bN (bW P t) fun e=>(gt G->(0<=i/\i<r.es.length)/\r.sz=e.2.1)/\k (.op j i.toNat 0):=by
 cases h1:H j <;> cases u:bW P t <;> simp[fO,bN,h1,u]
theorem Ab{t cs o n i}:fO P G H t (.rp cs o) (.v (.int n i)) k=bN (tI P t) fun e=>(gt G->0<=i/\i<e.1)/\k (.rp cs (o+i.toNat*e.2.1)):=by
 cases h1:tI P t <;> simp[fO,bN,h1]
theorem zZ{t j a o n i}:fO P G H t (.op j a o) (.v (.int n i)) k=bN (tI P t) fun e=>(gt G->0<=i/\i<e.1)/\k (.op j a (o+i.toNat*e.2.1)):=by
 cases h1:tI P t <;> simp[fO,bN,h1]
theorem Ad{t f cs o}:jH P t f (.rp cs o) k=bN (aM P t f) fun e=>k (.rp cs (o+e.1)):=by
 cases h1:aM P t f <;> simp[jH,bN,h1]
theorem Aa{t f j i o}:jH P t f (.op j i o) k=bN (aM P t f) fun e=>k (.op j i (o+e.1)):=by
 cases h1:aM P t f <;> simp[jH,bN,h1]
theorem Rv{b}:aun .not (.v (.bool b)) k=k (.v (.bool !b)):=(rfl)
theorem Rg{n i}:aun .neg (.v (.int n i)) k=k (.v (.int n (n.wrap (0-i)))):=(rfl)
theorem IM{s t n i}:wW P s t (.v (.int n i)) k=bN (Fv P t) fun m=>bN (Fv P s) fun _=>k (.v (.int m (m.wrap i))):=by
 cases h1:Fv P t <;> cases u:Fv P s <;> simp[wW,bN,h1,u]
theorem HL{s t x}:wW P s t (.v (.string x)) k=if dY P s/\dY P t then k (.v (.string x))else False:=(rfl)
theorem M9{s t es}:wW P s t (.sl es) k=if CJ P s/\dY P t then bN (pV es) fun ns=>k (.v (.string (strOfNums ns)))else False:=by
 by_cases u:CJ P s/\dY P t
 . cases h1:pV es <;> simp[wW,bN,u,h1]
 . simp[wW,u]
theorem Ic{t es n a m b}:lY P G t (.sl es) (some (.v (.int n a))) (some (.v (.int m b))) k=bN (bW P t) fun e=>(gt G->(0<=a/\a<=b/\b<=es.length)/\cZ e.2.1 es)/\k (.sl ((es.take b.toNat).drop a.toNat)):=by
 cases h1:bW P t <;> simp[lY,bN,h1]
theorem KO{t es n a}:lY P G t (.sl es) (some (.v (.int n a))) none k=bN (bW P t) fun e=>(gt G->(0<=a/\a<=es.length)/\cZ e.2.1 es)/\k (.sl (es.drop a.toNat)):=by
 cases h1:bW P t <;> simp[lY,bN,h1]
theorem Nq{t es m b}:lY P G t (.sl es) none (some (.v (.int m b))) k=bN (bW P t) fun _=>(gt G->0<=b/\b<=es.length)/\k (.sl (es.take b.toNat)):=by
 cases h1:bW P t <;> simp[lY,bN,h1]
theorem FA{t s n a m b}:lY P G t (.v (.string s)) (some (.v (.int n a))) (some (.v (.int m b))) k=if dY P t then(gt G->0<=a/\a<=b/\b<=s.size)/\k (.v (.string (s.extract a.toNat b.toNat)))else False:=(rfl)
theorem HB{t s n a}:lY P G t (.v (.string s)) (some (.v (.int n a))) none k=if dY P t then(gt G->0<=a/\a<=s.size)/\k (.v (.string (s.extract a.toNat s.size)))else False:=(rfl)
theorem IV{t s m b}:lY P G t (.v (.string s)) none (some (.v (.int m b))) k=if dY P t then(gt G->0<=b/\b<=s.size)/\k (.v (.string (s.extract 0 b.toNat)))else False:=(rfl)
theorem Lb{P:Program}{t es n m}{a b:Int}:DX P G t (.sl es) (.v (.int n a)) (.v (.int m b)) k=bN (bW P t) fun _=>(gt G->a=es.length/\b=es.length)/\k (.cl es):=by
 unfold DX bN;cases bW P t <;> rfl
@[congr] theorem aclip_c {P:Program} {t x x' a a' b b'} (h:x=x') (h1:a=a') (h2:b=b'):DX P G t x a b k=DX P G t x' a' b' k:=h▸h1▸h2▸rfl
theorem H9{t s n i}:vU P G t (.v (.string s)) (.v (.int n i)) k=if dY P t then(gt G->0<=i/\i<s.size)/\k (.v (.int .u8 ((s.data.getD i.toNat 0).toNat:Int)))else False:=(rfl)
theorem HR{t cs n i}:vU P G t (.agg cs) (.v (.int n i)) k=bN (tI P t) fun e=>(gt G->0<=i/\i<e.1)/\apart G (i.toNat*e.2.1) e.2.2 (.agg cs) k:=by
 cases h1:tI P t <;> simp[vU,bN,h1]
theorem FM{cs}{k:List AV->Prop}:lZ (.agg cs) k=k cs:=(rfl)
theorem L4{v}{k:List AV->Prop}:lZ (.v v) k=(v.oneCell'=true/\k [.v v]):=(rfl)
theorem HH{es}{k:List AV->Prop}:lZ (.sl es) k=k [.sl es]:=(rfl)
theorem Ir{cs o}{k:List AV->Prop}:lZ (.rp cs o) k=k [.rp cs o]:=(rfl)
theorem It{j}{k:List AV->Prop}:lZ (.os j) k=k [.os j]:=(rfl)
theorem HU{j i f}{k:List AV->Prop}:lZ (.op j i f) k=k [.op j i f]:=(rfl)
theorem Hu{t l}:vP P t l k=bN (dO P t) fun z=>bN (eC P t) fun u=>bN (pZ u z l) fun cs=>k (.agg cs):=by
 cases h1:dO P t with
 | none=>simp[vP,bN,h1]
 | some z=>cases E:eC P t with
   | none=>simp[vP,bN,h1,E]
   | some u=>cases F:pZ u z l <;> simp[vP,bN,h1,E,F]
def wgd(x:AV)(w:Bool)(F:Option Bool->Prop):Prop:=match x with
 | .v (.bool b)=>F (some (b == w))
 | .gd g (.v (.bool b))=>F (some (g&&(b == w)))
 | _=>False
@[congr] theorem wgd_c {x x' w F} (h:x=x'):wgd x w F=wgd x' w F:=h▸rfl
theorem aeX{b w F}:wgd (.v (.bool b)) w F=F (some (b == w)):=(rfl)
theorem afG{g b w F}:wgd (.gd g (.v (.bool b))) w F=F (some (g&&(b == w))):=(rfl)
theorem Du{F}:cJ ops ρ none F=F none:=(rfl)
theorem DD{j w F}:cJ ops ρ (some (j,w)) F=bN ((ops[j]?).bind (·.dst)) fun t=>wgd (ρ t) w F:=by
 cases h1:(ops[j]?).bind (·.dst)with
 | none=>simp[cJ,bN,h1]
 | some t=>simp only[cJ,bN,h1,wgd]
def lI(K:Env->aH->Prop)(ρ:Env)(d:Option Tmp)(G:Option Bool)(H:aH)(x:AV):Prop:=K (upd ρ d (wr G x)) H
theorem Ht{x}:lI K ρ d none H x=K (upd ρ d x) H:=(rfl)
theorem Iz{b x}:lI K ρ d (some b) H x=K (upd ρ d (.gd b x)) H:=(rfl)
end
section
variable{P:Program}{C:lB}{PC:FuncId->List AV->aH->AV->Prop}{mt:Nat->Bool}{q:Bool}{ops:Array Oper}{d:Option Tmp}{ty:TypeId}{pos:String}{aft:Array Edge}{gd:Option (Nat×Bool)}{ρ:Env}{H:aH}{K:Env->aH->Prop}
theorem Xx{x}:aop P C PC mt q ops ⟨d,.move x,ty,pos,aft,gd⟩ ρ H K=cJ ops ρ gd fun G=>if qD mt d=true then G=none/\q=false/\zD x ρ d H K else bT G (aev ρ x) (lI K ρ d G H):=(rfl)
theorem XI{c a b}:aop P C PC mt q ops ⟨d,.pick c a b,ty,pos,aft,gd⟩ ρ H K=cJ ops ρ gd fun G=>bT G (aev ρ c) fun x=>wpick G x (aev ρ a) (aev ρ b) (lI K ρ d G H):=(rfl)
theorem Uc{t l}: aop P C PC mt q ops ⟨d, .build t l, ty, pos, aft, gd⟩ ρ H K = cJ ops ρ gd fun G => if qD mt d = true then G = none /\ (if q = true then oI none ρ l.toList (fun l => bN (dO P t) fun z => bN (eC P t) fun u => bN (rE P t) fun nl => bN (pZ u (G6 nl z) l) fun cs => lI K ρ d none H (.agg cs)) else
     oI none ρ l.toList (fun l=>bN (dO P t) fun z=>bN (eC P t) fun u=>bN (rE P t) fun nl=>jO nl z H fun z H=>bN (pZ u z l) fun cs=>lI K ρ d none H (.agg cs)))
   else oI G ρ l.toList fun l=>vP P t l (lI K ρ d G H):=by
 show cJ ops ρ gd (fun G=>if qD mt d=true then G=none/\(if q=true then zP P ⟨d,.build t l,ty,pos,aft,gd⟩ t l.toList ρ H K else BX P ⟨d,.build t l,ty,pos,aft,gd⟩ t l.toList ρ H K)else _)=_
 congr 1;funext G;congr 3
 . unfold zP
   congr 1;funext l
   cases h1:dO P t with
   | none=>simp[bN]
   | some z=>cases E:eC P t with
     | none=>simp[bN]
     | some u=>cases F:rE P t with
       | none=>simp[bN]
       | some nl=>simp only[bN];cases I:pZ u (G6 nl z) l <;> rfl
 unfold BX
 congr 1;funext l
 cases h1:dO P t with
 | none=>simp[bN]
 | some z=>cases E:eC P t with
   | none=>simp[bN]
   | some u=>cases F:rE P t with
     | none=>simp[bN]
     | some nl=>simp only[bN];congr 1;funext z H;cases I:pZ u z l <;> rfl
theorem VN{t x}:aop P C PC mt q ops ⟨d,.load t x,ty,pos,aft,gd⟩ ρ H K=cJ ops ρ gd fun G=>if qD mt d=true then G=none/\q=false/\bN (ldT P t) fun l=>bT none (aev ρ x) fun y=>nP none H l y fun z=>HE z ρ d H K else bN (ldT P t) fun l=>bT G (aev ρ x) fun y=>nP G H l y (lI K ρ d G H):=by
 show cJ ops ρ gd (fun G=>if qD mt d=true then G=none/\q=false/\gK P none ρ H (.load t x) fun z=>HE z ρ d H K else gK P G ρ H (.load t x) (lI K ρ d G H))=_
 congr 1;funext G;cases h1:ldT P t <;> simp[gK,bN,h1]
theorem Jd{x}:aop P C PC mt q ops ⟨d,.nilCheck x,ty,pos,aft,gd⟩ ρ H K=cJ ops ρ gd fun G=>bT G (aev ρ x) fun y=>XX y (lI K ρ d G H):=(rfl)
theorem abD{op t x y t'}:aop P C PC mt q ops ⟨d,.binOp op t x y t',ty,pos,aft,gd⟩ ρ H K=cJ ops ρ gd fun G=>if qW y=true then bT G (aev ρ x) fun x=>cL P t=true/\pT op x (lI K ρ d G H)else bT G (aev ρ x) fun x=>bT G (aev ρ y) fun y=>gD P G op t x y (lI K ρ d G H):=(rfl)
theorem aiQ{op t x}:aop P C PC mt q ops ⟨d,.unOp op t x,ty,pos,aft,gd⟩ ρ H K=cJ ops ρ gd fun G=>bT G (aev ρ x) fun x=>aun op x (lI K ρ d G H):=(rfl)
theorem Wg{s t x}:aop P C PC mt q ops ⟨d,.convert s t x,ty,pos,aft,gd⟩ ρ H K=cJ ops ρ gd fun G=>bT G (aev ρ x) fun x=>wW P s t x (lI K ρ d G H):=(rfl)
theorem Ku{t x lo u}:aop P C PC mt q ops ⟨d,.slice t x (some lo) (some u) none,ty,pos,aft,gd⟩ ρ H K=cJ ops ρ gd fun G=>bT G (aev ρ x) fun x=>bT G (aev ρ lo) fun lo=>bT G (aev ρ u) fun u=>asl P G H t x (some lo) (some u) (lI K ρ d G H):=(rfl)
theorem M3{t x u m}:aop P C PC mt q ops ⟨d,.slice t x none (some u) (some m),ty,pos,aft,gd⟩ ρ H K=cJ ops ρ gd fun G=>bT G (aev ρ x) fun x=>bT G (aev ρ u) fun u=>bT G (aev ρ m) fun m=>DX P G t x u m (lI K ρ d G H):=(rfl)
theorem Nc{t x lo}:aop P C PC mt q ops ⟨d,.slice t x (some lo) none none,ty,pos,aft,gd⟩ ρ H K=cJ ops ρ gd fun G=>bT G (aev ρ x) fun x=>bT G (aev ρ lo) fun lo=>asl P G H t x (some lo) none (lI K ρ d G H):=(rfl)
theorem Lv{t x u}:aop P C PC mt q ops ⟨d,.slice t x none (some u) none,ty,pos,aft,gd⟩ ρ H K=cJ ops ρ gd fun G=>bT G (aev ρ x) fun x=>bT G (aev ρ u) fun u=>asl P G H t x none (some u) (lI K ρ d G H):=(rfl)
theorem Gv{t x f}:aop P C PC mt q ops ⟨d,.fieldAddr t x f,ty,pos,aft,gd⟩ ρ H K=cJ ops ρ gd fun G=>bT G (aev ρ x) fun x=>jH P t f x (lI K ρ d G H):=(rfl)
theorem UH{t x f}:aop P C PC mt q ops ⟨d,.field t x f,ty,pos,aft,gd⟩ ρ H K=cJ ops ρ gd fun G=>bN (aM P t f) fun e=>bT G (aev ρ x) fun x=>apart G e.1 e.2 x (lI K ρ d G H):=by
 show cJ ops ρ gd (fun G=>gK P G ρ H (.field t x f) (lI K ρ d G H))=_
 congr 1;funext G;cases h1:aM P t f <;> simp[gK,bN,h1]
theorem Gt{t x i}:aop P C PC mt q ops ⟨d,.indexAddr t x i,ty,pos,aft,gd⟩ ρ H K=cJ ops ρ gd fun G=>bT G (aev ρ x) fun x=>bT G (aev ρ i) fun i=>fO P G H t x i (lI K ρ d G H):=(rfl)
theorem TJ{t x i}:aop P C PC mt q ops ⟨d,.index t x i,ty,pos,aft,gd⟩ ρ H K=cJ ops ρ gd fun G=>bT G (aev ρ x) fun x=>bT G (aev ρ i) fun i=>vU P G t x i (lI K ρ d G H):=(rfl)
theorem Lk{x i}:aop P C PC mt q ops ⟨d,.extract x i,ty,pos,aft,gd⟩ ρ H K=cJ ops ρ gd fun G=>bT G (aev ρ x) fun x=>Zz G x i (lI K ρ d G H):=(rfl)
theorem Po{x}:aop P C PC mt q ops ⟨d,.assign x,ty,pos,aft,gd⟩ ρ H K=cJ ops ρ gd fun G=>if qD mt d=true/\G=none/\q=false/\qW x=true then bN (bW P ty) fun e=>oM H ⟨e.1,e.2.1,[]⟩ (Q4 K ρ d)else bT G (aev ρ x) (lI K ρ d G H):=by
 show cJ ops ρ gd (fun G=>B9 P mt q G ⟨d,.assign x,ty,pos,aft,gd⟩ x ρ H K)=_
 congr 1;funext G
 unfold B9;cases h1:bW P ty <;> rfl
theorem U0{t}:aop P C PC mt q ops ⟨d,.alloc t,ty,pos,aft,gd⟩ ρ H K=cJ ops ρ gd fun G=>bN (dO P t) fun z=>G=none/\q=false/\(if qD mt d=true then bN (rE P t) fun nl=>jO nl z H fun z H=>oM H ⟨t,z.length,[z]⟩ (SL K ρ d)else oM H ⟨t,z.length,[z]⟩ (SL K ρ d)):=by
 show cJ ops ρ gd (fun G=>match dO P t with
   | some z => G = none /\ q = false /\ (if qD mt d = true then match rE P t with
       | some nl=>jO nl z H fun z H=>oM H ⟨t,z.length,[z]⟩ fun k H'=>K (upd ρ d (.op k 0 0)) H'
       | none=>False
     else oM H ⟨t,z.length,[z]⟩ fun k H'=>K (upd ρ d (.op k 0 0)) H')
   | none=>False)=_
 congr 1;funext G;cases h1:dO P t <;> cases u:rE P t <;> rfl
theorem aaN{t x}:aop P C PC mt q ops ⟨d,.box t x,ty,pos,aft,gd⟩ ρ H K=cJ ops ρ gd fun G=>G=none/\q=false/\bT G (aev ρ x) fun x=>lZ x fun cs=>
 if qD mt d=true then 0<cs.length/\oM H ⟨t,cs.length,[cs]⟩ (SL K ρ d)else K (upd ρ d (.rp cs 0)) H:=(rfl)
theorem E2{t n l}:aop P C PC mt q ops ⟨d,.buildSlice t n l,ty,pos,aft,gd⟩ ρ H K=cJ ops ρ gd fun G=>q=false/\oI G ρ l.toList fun l=>bN (bW P t) fun e=>
   (l.map (·.1)=JR 0 n/\cZ e.2.1 (l.map (·.2))/\n*e.2.1<=16777216)/\(if qD mt d=true/\G=none then oM H ⟨e.1,e.2.1,l.map (·.2)⟩ (Q4 K ρ d)else lI K ρ d G H (.sl (l.map (·.2)))):=by
 show cJ ops ρ gd (fun G=>q=false/\oI G ρ l.toList fun l'=>mY P mt G ⟨d,.buildSlice t n l,ty,pos,aft,gd⟩ t n l' ρ H K)=_
 congr 1;funext G;congr 2;funext l;unfold mY;cases h1:bW P t <;> rfl
theorem UF{t x y}:aop P C PC mt q ops ⟨d,.store t x y,ty,pos,aft,gd⟩ ρ H K=cJ ops ρ gd fun G=>G=none/\q=false/\(if qW y=true then bT G (aev ρ x) fun x=>bN (bW P t) fun e=>oM H ⟨e.1,e.2.1,[]⟩ (fun j H=>T4 P d t x [.os j] ρ H K)else bT G (aev ρ x) fun x=>bT G (aev ρ y) fun y=>lZ y fun cs=>T4 P d t x cs ρ H K):=by
 show cJ ops ρ gd (fun G => G = none /\ q = false /\ (if qW y = true then bT G (aev ρ x) fun a => match bW P t with
       | some (e,sz,_)=>oM H ⟨e,sz,[]⟩ fun k H=>sL P _ t a [.os k] ρ H K
       | none=>False
     else bT G (aev ρ x) fun a=>bT G (aev ρ y) fun x=>lZ x fun cs=>sL P _ t a cs ρ H K))=_
 congr 1;funext G;congr 4;funext a
 cases h1:bW P t <;> rfl
theorem YV:xE P C PC mt ops K [] ρ H=K ρ H:=(rfl)
theorem ahM{k f}:xE P C PC mt ops K ((k,true)::f) ρ H=bN ops[k]? fun o=>aop P C PC mt true ops o ρ (qH o H) fun u _=>xE P C PC mt ops K f u H:=by
 cases h:ops[k]? <;> simp[xE,bN,h]
theorem agW{k f}:xE P C PC mt ops K ((k,false)::f) ρ H=bN ops[k]? fun o=>aop P C PC mt false ops o ρ H (xE P C PC mt ops K f):=by
 cases h:ops[k]? <;> simp[xE,bN,h]
theorem UZ{Hp}:pO P C PC mt ops K Hp [] ρ H=K ρ H:=(rfl)
theorem adE{Hp k f}:pO P C PC mt ops K Hp ((k,true)::f) ρ H=bN ops[k]? fun o=>aop P C PC mt true ops o ρ Hp fun u _=>pO P C PC mt ops K Hp f u H:=by
 cases h:ops[k]? <;> simp[pO,bN,h]
theorem Z2{Hp k f}:pO P C PC mt ops K Hp ((k,false)::f) ρ H=bN ops[k]? fun o=>aop P C PC mt false ops o ρ H (pO P C PC mt ops K Hp f):=by
 cases h:ops[k]? <;> simp[pO,bN,h]
theorem aiB{k}:AK P C PC mt q ops k ρ H K=bN ops[k]? fun o=>aop P C PC mt q ops o ρ H K:=by
 cases h:ops[k]? <;> simp[AK,bN,h]
theorem T1{Hp}:mI P C PC mt ops K Hp .nil ρ H=K ρ H:=(rfl)
theorem adO{Hp k t}:mI P C PC mt ops K Hp (.q k t) ρ H=AK P C PC mt true ops k ρ Hp fun u _=>mI P C PC mt ops K Hp t u H:=(rfl)
theorem adJ{Hp k t}:mI P C PC mt ops K Hp (.a1 k t) ρ H=AK P C PC mt false ops k ρ H (mI P C PC mt ops K Hp t):=(rfl)
theorem mE{Hp k t k' t'}(h:AK P C PC mt false ops k ρ H (mI P C PC mt ops K Hp t))(u:AK P C PC mt false ops k' ρ H (mI P C PC mt ops K Hp t')):mI P C PC mt ops K Hp (.a2 k t k' t') ρ H:=⟨h,u⟩
theorem Jw{f cap}:aop P C PC mt q ops ⟨d,.makeFunc (.func f) #[] cap,ty,pos,aft,gd⟩ ρ H K=cJ ops ρ gd fun G=>Ag G ρ cap.toList fun l=>lI K ρ d G H (.fn f l):=by
 show cJ ops ρ gd (fun G=>gK P G ρ H (.makeFunc (.func f) #[] cap) (lI K ρ d G H))=_
 congr 1;funext G;simp[gK]
def afF(K:Env->aH->Prop)(ρ:Env)(d:Option Tmp)(j:Nat)(H:aH):Prop:=K (upd ρ d (.om j)) H
theorem MQ{j}:afF K ρ d j H=K (upd ρ d (.om j)) H:=(rfl)
theorem Oy{t x i ok}:aop P C PC mt q ops ⟨d,.lookup t x i ok,ty,pos,aft,gd⟩ ρ H K=cJ ops ρ gd fun G=>bT G (aev ρ x) fun x=>bT G (aev ρ i) fun i=>sY P H t x i ok (lI K ρ d G H):=(rfl)
theorem LS{t}:aop P C PC mt q ops ⟨d,.makeMap t none,ty,pos,aft,gd⟩ ρ H K=cJ ops ρ gd fun G=>G=none/\q=false/\oM H ⟨0,2,[]⟩ (afF K ρ d):=(rfl)
def Ie(P:Program)(d:Option Tmp)(t:TypeId)(m x v:AV)(ρ:Env)(H:aH)(K:Env->aH->Prop):Prop:=kY P ⟨d,.move (.tmp 0),0,"",#[],none⟩ t m x v ρ H K
@[congr] theorem wmapU_c {P d t m m' x x' v v' ρ H K} (h0:m=m') (h1:x=x') (h2:v=v'):Ie P d t m x v ρ H K=Ie P d t m' x' v' ρ H K:=h0▸h1▸h2▸rfl
def YT(P:Program)(d:Option Tmp)(t:TypeId)(m x:AV)(ρ:Env)(H:aH)(K:Env->aH->Prop):Prop:=zI P ⟨d,.move (.tmp 0),0,"",#[],none⟩ t m x ρ H K
@[congr] theorem wmapE_c {P d t m m' x x' ρ H K} (h0:m=m') (h1:x=x'):YT P d t m x ρ H K=YT P d t m' x' ρ H K:=h0▸h1▸rfl
def WH(d:Option Tmp)(m s v:AV)(ρ:Env)(H:aH)(K:Env->aH->Prop):Prop:=sZ ⟨d,.move (.tmp 0),0,"",#[],none⟩ m s v ρ H K
@[congr] theorem wmapS_c {d m m' x x' v v' ρ H K} (h0:m=m') (h1:x=x') (h2:v=v'):WH d m x v ρ H K=WH d m' x' v' ρ H K:=h0▸h1▸h2▸rfl
@[congr] theorem alookup_c {P H t x x' i i' ok k} (h0:x=x') (h1:i=i'):sY P H t x i ok k=sY P H t x' i' ok k:=h0▸h1▸rfl
theorem GX{t m x v}:aop P C PC mt q ops ⟨d,.mapUpdate t m x v,ty,pos,aft,gd⟩ ρ H K=cJ ops ρ gd fun G=>G=none/\q=false/\bT G (aev ρ m) fun m=>bT G (aev ρ x) fun x=>bT G (aev ρ v) fun v=>Ie P d t m x v ρ H K:=(rfl)
theorem O8{t m x v}:aop P C PC mt q ops ⟨d,.insert t m x v,ty,pos,aft,gd⟩ ρ H K=cJ ops ρ gd fun G=>G=none/\q=false/\bT G (aev ρ m) fun m=>bT G (aev ρ x) fun x=>bT G (aev ρ v) fun v=>Ie P d t m x v ρ H K:=(rfl)
theorem KN{t m x}:aop P C PC mt q ops ⟨d,.mapEntry t m x,ty,pos,aft,gd⟩ ρ H K=cJ ops ρ gd fun G=>G=none/\q=false/\bT G (aev ρ m) fun m=>bT G (aev ρ x) fun x=>YT P d t m x ρ H K:=(rfl)
theorem Fq{t m s v}:aop P C PC mt q ops ⟨d,.entryStore t m s v,ty,pos,aft,gd⟩ ρ H K=cJ ops ρ gd fun G=>G=none/\q=false/\bT G (aev ρ m) fun m=>bT G (aev ρ s) fun s=>bT G (aev ρ v) fun v=>WH d m s v ρ H K:=(rfl)
theorem Cv{t j key ok k r kt oi z}(J:H j=some r)(u:QF P t=some kt)(E:mH P kt.1 key=true)(I:sQ (pM P kt.1 key) r.es 0=some oi)(F:IK P kt.2=some z)(h:k (FC ok z r.es oi)):sY P H t (.om j) key ok k:=by
 unfold sY D3;simp only[J,u,I,F];exact⟨E,h⟩
theorem JJ{t j key v r kt oi}(I:H j=some r)(u:QF P t=some kt)(E:mH P kt.1 key=true)(F:sQ (pM P kt.1 key) r.es 0=some oi)(h:K (upd ρ d .any) (aI H j (some { r with es:=TF r.es oi key v }))):Ie P d t (.om j) key v ρ H K:=by
 unfold Ie kY D3;simp only[I,u,F];exact⟨E,h⟩
theorem GT{t l c}:aop P C PC mt q ops ⟨d,.makeSlice t l c,ty,pos,aft,gd⟩ ρ H K=cJ ops ρ gd fun G=>G=none/\q=false/\bT G (aev ρ l) fun l=>bT G (aev ρ c) fun c=>NO P d t l c ρ H K:=(rfl)
theorem T9{t args tys}:aop P C PC mt q ops ⟨d,.call ⟨.value (.tmp t),args,tys⟩,ty,pos,aft,gd⟩ ρ H K=cJ ops ρ gd fun G=>bT G (ρ t) fun x=>bN (NX x) fun y=>if qD mt d=true then G=none/\q=false/\aC P y.1=true/\C y.1 (y.2.1++args.toList.map (J5 ρ)++y.2.2) H (Lc K ρ d)else Ag G ρ args.toList fun l=>
   aC P y.1=true/\(if G=none/\q=false then C y.1 (y.2.1++l++y.2.2) H (Lc K ρ d)else ∃r,(gt G->PC y.1 (y.2.1++l++y.2.2) H r)/\nfq q r (lI K ρ d G H)):=by
 show cJ ops ρ gd (fun G=>Bk P C PC (qD mt d) q G ⟨d,.call ⟨.value (.tmp t),args,tys⟩,ty,pos,aft,gd⟩ ⟨.value (.tmp t),args,tys⟩ ρ H K)=_
 congr 1;funext G
 simp only[Bk,aev]
 congr 1;funext x
 cases h:NX x with
 | none=>simp[bN]
 | some y=>obtain⟨a,b,c⟩:=y;rfl
theorem YL{f args tys}:aop P C PC mt q ops ⟨d,.call ⟨.value (.func f),args,tys⟩,ty,pos,aft,gd⟩ ρ H K=cJ ops ρ gd fun G=>if qD mt d=true then G=none/\q=false/\aC P f=true/\C f (args.toList.map (J5 ρ)) H (Lc K ρ d)else Ag G ρ args.toList fun l=>
   aC P f=true/\(if G=none/\q=false then C f l H (Lc K ρ d)else ∃r,(gt G->PC f l H r)/\nfq q r (lI K ρ d G H)):=by
 show cJ ops ρ gd (fun G=>Bk P C PC (qD mt d) q G ⟨d,.call ⟨.value (.func f),args,tys⟩,ty,pos,aft,gd⟩ ⟨.value (.func f),args,tys⟩ ρ H K)=_
 congr 1;funext G
 simp only[Bk,aev,bT,NX,List.map_nil,List.nil_append,List.append_nil];rfl
theorem NA{t}:J5 ρ (.tmp t)=ρ t:=(rfl)
theorem FB{v}:J5 ρ (.const v)=.v v:=(rfl)
theorem In{f}:J5 ρ (.func f)=.v (.func (.func f) #[] #[]):=(rfl)
theorem ZE{x t}:aop P C PC mt q ops ⟨d,.call ⟨.builtin .len,#[x],#[t]⟩,ty,pos,aft,gd⟩ ρ H K=cJ ops ρ gd fun G=>bT G (aev ρ x) fun x=>GW P H t x (lI K ρ d G H):=(rfl)
theorem aaK{x y t t'}:aop P C PC mt q ops ⟨d,.call ⟨.builtin .max,#[x,y],#[t,t']⟩,ty,pos,aft,gd⟩ ρ H K=cJ ops ρ gd fun G=>bT G (aev ρ x) fun x=>bT G (aev ρ y) fun y=>QT x y (lI K ρ d G H):=(rfl)
theorem ZG{x y t t'}:aop P C PC mt q ops ⟨d,.call ⟨.builtin .min,#[x,y],#[t,t']⟩,ty,pos,aft,gd⟩ ρ H K=cJ ops ρ gd fun G=>bT G (aev ρ x) fun x=>bT G (aev ρ y) fun y=>Pw x y (lI K ρ d G H):=(rfl)
theorem VI{n m a b}{k:AV->Prop}:QT (.v (.int n a)) (.v (.int m b)) k=k (.v (.int n (kF a b))):=(rfl)
theorem Ym{n m a b}{k:AV->Prop}:Pw (.v (.int n a)) (.v (.int m b)) k=k (.v (.int n (Z1 a b))):=(rfl)
theorem X0{x y t t'}:aop P C PC mt q ops ⟨d,.call ⟨.builtin .copy,#[x,y],#[t,t']⟩,ty,pos,aft,gd⟩ ρ H K=cJ ops ρ gd fun G=>bT G (aev ρ x) fun x=>bT G (aev ρ y) fun y=>
 if G=none/\q=false then Lq P d t x y ρ H K else False:=(rfl)
theorem Um{x t}:aop P C PC mt q ops ⟨d,.call ⟨.builtin .clear,#[x],#[t]⟩,ty,pos,aft,gd⟩ ρ H K=cJ ops ρ gd fun G=>bT G (aev ρ x) fun x=>
 if G=none/\q=false then EM P d t x ρ H K else False:=(rfl)
theorem Yl{G:Option Bool}{k:AV->Prop}{t es lo hi}:asl P G H t (.sl es) lo hi k=lY P G t (.sl es) lo hi k:=(rfl)
theorem afO{G:Option Bool}{k:AV->Prop}{t v lo hi}:asl P G H t (.v v) lo hi k=lY P G t (.v v) lo hi k:=(rfl)
theorem Wt{G:Option Bool}{k:AV->Prop}{t j n a m b}:asl P G H t (.os j) (some (.v (.int n a))) (some (.v (.int m b))) k=bN (H j) fun r=>bN (bW P t) fun e=>(gt G->(0<=a/\a<=b/\b<=r.es.length)/\r.sz=e.2.1)/\k (.oz j a.toNat b.toNat):=by
 cases h1:H j <;> cases u:bW P t <;> simp[asl,bN,h1,u]
theorem afM{G:Option Bool}{k:AV->Prop}{t j n a}:asl P G H t (.os j) (some (.v (.int n a))) none k=bN (H j) fun r=>bN (bW P t) fun e=>(gt G->(0<=a/\a<=r.es.length)/\r.sz=e.2.1)/\k (.oz j a.toNat r.es.length):=by
 cases h1:H j <;> cases u:bW P t <;> simp[asl,bN,h1,u]
theorem afH{G:Option Bool}{k:AV->Prop}{t j m b}:asl P G H t (.os j) none (some (.v (.int m b))) k=bN (H j) fun r=>bN (bW P t) fun e=>(gt G->(0<=b/\b<=r.es.length)/\r.sz=e.2.1)/\k (.oz j 0 b.toNat):=by
 cases h1:H j <;> cases u:bW P t <;> simp[asl,bN,h1,u]
theorem K5{k:AV->Prop}{es}:pT .eql (.sl es) k=((es=[]->k (.v (.bool true)))/\k (.v (.bool false))):=(rfl)
theorem Ms{k:AV->Prop}{es}:pT .neq (.sl es) k=((es=[]->k (.v (.bool false)))/\k (.v (.bool true))):=(rfl)
theorem IW{k:AV->Prop}{j}:pT .eql (.os j) k=(k (.v (.bool true))/\k (.v (.bool false))):=(rfl)
theorem G4{k:AV->Prop}:pT .eql (.v (.slice none 0 0)) k=k (.v (.bool true)):=(rfl)
theorem Hs{k:AV->Prop}:pT .neq (.v (.slice none 0 0)) k=k (.v (.bool false)):=(rfl)
theorem Hc{k:AV->Prop}{j}:pT .neq (.os j) k=(k (.v (.bool false))/\k (.v (.bool true))):=(rfl)
theorem Pc{s x t t'}:aop P C PC mt q ops ⟨d,.call ⟨.builtin .append,#[s,x],#[t,t']⟩,ty,pos,aft,gd⟩ ρ H K=cJ ops ρ gd fun G=>bT G (aev ρ s) fun s=>bT G (aev ρ x) fun x=>
 if t=t'/\G=none/\q=false then Kj P d t s x ρ H K else False:=(rfl)
end
section
variable{P:Program}{d:Option Tmp}{ρ:Env}{H:aH}{K:Env->aH->Prop}
theorem Si{t n a m b}:NO P d t (.v (.int n a)) (.v (.int m b)) ρ H K=bN (bW P t) fun e=>bN (dO P e.1) fun z=>((0<=a/\a<=b)/\(e.2.2:Int)*b<=140737488355328)/\oM H ⟨e.1,e.2.1,List.replicate a.toNat z⟩ (Q4 K ρ d):=by
 unfold NO rG;cases h1:bW P t with
 | none=>simp[bN]
 | some e=>obtain⟨x,y,z⟩:=e;cases u:dO P x <;> simp[bN,u] <;> intros <;> rfl
theorem agQ{f first captured}:NX (.v (.func (.func f) first captured))=some (f,first.toList.map .v,captured.toList.map .v):=(rfl)
theorem aeY{q x}{k:AV->Prop}:nfq q (.v x) k=k (.v x):=by cases q <;> rfl
theorem Su{q x}{k:AV->Prop}:nfq q (.agg x) k=k (.agg x):=by cases q <;> rfl
theorem SJ{q x}{k:AV->Prop}:nfq q (.tup x) k=k (.tup x):=by cases q <;> rfl
theorem WW{x}{k:AV->Prop}:nfq false (.nf x) k=k x:=(rfl)
theorem adR{f l}:NX (.fn f l)=some (f,[],l):=(rfl)
end
attribute [go_sem ↓] Hd Hl Ho E8
attribute [go_sem] Hd Hl Ho E8
@[congr] theorem asl_c {P G H t x x' lo lo' hi hi' k} (h:x=x') (h1:lo=lo') (h2:hi=hi'):asl P G H t x lo hi k=asl P G H t x' lo' hi' k:=h▸h1▸h2▸rfl
@[congr] theorem aeqNil_c {op x x' k} (h:x=x'):pT op x k=pT op x' k:=h▸rfl
theorem J8{α:Type}{a:α}{l r:List α}:List.append (a::l) r=a::List.append l r:=(rfl)
theorem Ly{α:Type}{r:List α}:List.append [] r=r:=(rfl)
attribute [go_sem] J8 Ly
attribute [go_sem] qH
@[congr] theorem amax_c {x x' y y' K} (h:x=x') (h':y=y'):QT x y K=QT x' y' K:=h▸h'▸rfl
@[congr] theorem amin_c {x x' y y' K} (h:x=x') (h':y=y'):Pw x y K=Pw x' y' K:=h▸h'▸rfl
attribute [go_sem ↓] aaK ZG VI Ym
attribute [go_sem] VI Ym
@[congr] theorem pinEnd_c {l l' H K ρ H'} (h:l=l'):mA l H K ρ H'=mA l' H K ρ H':=h▸rfl
attribute [go_sem] G6 List.set_cons_zero List.set_cons_succ
attribute [go_sem ↓] T1 adO adJ aiB
attribute [go_sem ↓] UZ adE Z2
attribute [go_sem ↓] YV ahM agW X0 Um Yl afO Wt afM afH K5 Ms IW Hc G4 Hs
attribute [go_sem] Yl afO Wt afM afH K5 Ms IW Hc G4 Hs
attribute [go_sem ↓] aeY Su SJ WW
attribute [go_sem ↓] Oy LS GX O8 KN Fq SF MQ
attribute [go_sem] SF MQ
attribute [go_sem] aeY Su SJ WW
attribute [go_sem ↓] Jw GT T9 Si NI MO Np Sl Nd Do Ru SK SS Lb M3
attribute [go_sem] Si NI MO Np Sl Nd Do Ru SK SS Lb agQ adR
attribute [go_sem] RF aeV
@[congr] theorem ownNils_c {l l' z z' H K} (h:l=l') (h':z=z'):jO l z H K=jO l' z' H K:=h▸h'▸rfl
theorem LK{z H K}:jO [] z H K=K z H:=(rfl)
theorem JD{o e sz r z H K}:jO ((o,e,sz)::r) z H K=oM H ⟨e,sz,[]⟩ fun k H'=>jO r (z.set o (.os k)) H' K:=(rfl)
attribute [go_sem ↓] LK JD
attribute [go_sem ↓] Vl E7 NR Re MJ IF I1 UP Nj VQ ZR YM UJ O6 XQ abZ Oj Q9 Ob UY
attribute [go_sem ↓] Ag oI Xx XI Uc VN Jd abD aiQ Wg Ku Nc Lv Gv UH Gt TJ Lk Po U0 aaN E2 UF YL ZE Pc
attribute [go_sem ↓] Tc RK Rl RN LP N7 Nk LR LZ NM Mi Mn Mc K6 NS H4 If Hq IH I8 HS HW LW N0 Oe Q6 Rf IS H8 Ig IX Se Rr RB SU RH Ac An Ab zZ Ad Aa Rv Rg IM HL M9 Ic KO Nq FA HB IV H9 HR FM L4 HH Ir It HU Hu aeX afG Du DD VK Ln Sd SD NE MT Sh Rh S9 FN Ht Iz LA NP Oa RE IE LM NA FB In
attribute [go_sem] Tc RK Rl RN LP N7 Nk LR LZ NM Mi Mn Mc K6 NS H4 If Hq IH I8 HS HW LW N0 Oe Q6 Rf IS H8 Ig IX Se Rr RB SU RH Ac An Ab zZ Ad Aa Rv Rg IM HL M9 Ic KO Nq FA HB IV H9 HR FM L4 HH Ir It HU Hu aeX afG Du DD VK Ln Sd SD NE MT Sh Rh S9 FN Ht Iz LA NP Oa RE IE LM NA FB In
attribute [go_sem] agA WN qD qW pJ D9 gt gok wr tN gW Nx Value.oneCell' JR cZ pV Option.map_some pZ oF aB
attribute [go_sem] Bool.false_eq_true if_false if_true reduceCtorEq true_and and_true false_and and_false false_implies true_implies implies_true forall_const and_self imp_self ne_eq not_true_eq_false not_false_eq_true
attribute [go_sem] List.getD_cons_zero List.getD_cons_succ List.getD_nil List.length_cons List.length_nil List.drop_zero List.drop_succ_cons List.take_succ_cons List.take_zero Option.getD_some Option.getD_none Nat.zero_add Nat.add_zero List.map_cons List.map_nil List.cons_append List.nil_append List.append_nil
attribute [go_sem] Option.bind_some List.getElem?_toArray List.getElem?_cons_zero List.getElem?_cons_succ
attribute [go_sem ↓] reduceIte
attribute [go_sem] Nat.reduceEqDiff Nat.reduceAdd Nat.reduceMul Nat.reduceSub Nat.reduceLT Nat.reduceLeDiff Nat.reduceBEq
end Go.Aw
