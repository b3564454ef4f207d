import Derived.StillTail
import Derived.WalkKit
import Derived.Deep.Quiet
import Derived.Deep.QuietTactic
import Derived.Maps.AppendAt
import Derived.Laws.BytesArg
set_option linter.unusedSimpArgs false
set_option linter.unusedVariables false
set_option maxRecDepth 100000
namespace Go.Aw
open Go.RowKit
inductive AV where
 | v (x:Value)
 | any
 | sl (es:List (List AV))
 | rp (cs:List AV) (off:Nat)
 | agg (cs:List AV)
 | tup (vs:List AV)
 | os (k:Nat)
 | op (k i f:Nat)
 | gd (g:Bool) (x:AV)
 | fn (f:FuncId) (cap:List AV)
 | oz (k a b:Nat)
 | nf (x:AV)
 | om (k:Nat)
 | cl (es:List (List AV))
 deriving Inhabited
structure Row where
 e:TypeId
 sz:Nat
 es:List (List AV)
abbrev Env:=Nat->AV
abbrev aG:=Nat->Option Row
inductive Ex where
 | normal
 | exit (id:Nat)
 | ret
def upd(ρ:Env)(d:Option Nat)(x:AV):Env:=
 match d with
 | some d=>fun t=>if t=d then x else ρ t
 | none=>ρ
def aI(H:aG)(k:Nat)(r:Option Row):aG:=fun j=>if j=k then r else H j
theorem aeT(ρ:Env)(d:Nat)(x:AV)(t:Nat):upd ρ (some d) x t=if t=d then x else ρ t:=rfl
theorem WJ(ρ:Env)(x:AV):upd ρ none x=ρ:=rfl
theorem aA(H:aG)(k:Nat)(r:Option Row):aI H k r k=r:=by simp[aI]
theorem aD(H:aG)(k:Nat)(r:Option Row)(j:Nat)(h:j≠k):aI H k r j=H j:=by simp[aI,h]
def ldT(P:Program)(t:TypeId):Option (Option Nat):=
 match P.underlying t,P.info? t with
 | some (.struct _),some i=>some (some i.size)
 | some (.array _ _),some i=>some (some i.size)
 | some _,some _=>some none
 | _,_=>none
def aL(P:Program)(t:TypeId)(f:Nat):Option (Nat×Option Nat):=
 match P.underlying t with
 | some (.struct fs)=>match fs[f]? with
   | some fd=>match P.info? fd.type with
     | some i=>if i.size=0 then none else(ldT P fd.type).map fun l=>(fd.offset,l)
     | none=>none
   | none=>none
 | _=>none
def bR(P:Program)(t:TypeId):Option (TypeId×Nat×Nat):=
 match P.underlying t with
 | some (.slice e)=>match P.info? e with
   | some i=>if i.size=0\/i.bytes=0\/i.zero.map (·.cells.size)≠some i.size then none else some (e,i.size,i.bytes)
   | none=>none
 | _=>none
def rM(P:Program)(t:TypeId):Option (Nat×Nat×Option Nat):=
 match P.underlying t with
 | some (.array n e)=>match P.info? e with
   | some i=>if i.size=0 then none else(ldT P e).map fun l=>(n,i.size,l)
   | none=>none
 | _=>none
def nY:Value->AV
 | .slice none 0 0=>.sl []
 | x=>.v x
def dC(P:Program)(t:TypeId):Option (List AV):=
 match P.info? t with
 | some i=>match i.zero with
   | some z=>if z.cells.size=i.size/\i.size≠0/\z.cells.toList.all (·.oneCell')=true then some (z.cells.toList.map nY)else none
   | none=>none
 | none=>none
def IP(P:Program):Nat->TypeId->Nat->List (Nat×TypeId×Nat)
 | 0,_,_=>[]
 | n+1,t,o=>match P.underlying t with
   | some (.slice _)=>match bR P t with
     | some (e,sz,_)=>[(o,e,sz)]
     | none=>[]
   | some (.struct fs)=>fs.toList.flatMap fun f=>IP P n f.type (o+f.offset)
   | some (.array m e)=>(List.range m).flatMap fun j=>IP P n e (o+j*((P.info? e).map (·.size)).getD 0)
   | _=>[]
def Xp:Option Value->Bool
 | some (.slice none 0 0)=>true
 | _=>false
def pN(P:Program)(t:TypeId):Option (List (Nat×TypeId×Nat)):=
 match P.info? t with
 | some i=>match i.zero with
   | some z=>if(IP P 8 t 0).all (fun x=>Xp z.cells.toList[x.1]?&&decide (0<x.2.2))=true then some (IP P 8 t 0)else none
   | none=>none
 | none=>none
def dN(P:Program)(t:TypeId):Option (List (Nat×Nat)):=
 match P.underlying t with
 | some (.struct fs)=>fs.toList.mapM fun f=>(P.info? f.type).map fun i=>(f.offset,i.size)
 | some (.array n e)=>(P.info? e).map fun i=>(List.range n).map fun j=>(j*i.size,i.size)
 | _=>none
def dJ(P:Program)(t:TypeId):Bool:=match P.underlying t with|some .string=>true|_=>false
def bY(P:Program)(t:TypeId):Bool:=match P.underlying t with|some (.slice _)=>true|_=>false
def xN(P:Program)(t:TypeId):Bool:=match P.underlying t with|some .bool=>true|_=>false
def aev(ρ:Env):Operand->AV
 | .tmp t=>ρ t
 | .const v=>nY v
 | .global _=>.any
 | .func f=>.v (.func (.func f) #[] #[])
def HA(ρ:Env):Operand->AV
 | .const v=>.v v
 | x=>aev ρ x
def gt:Option Bool->Prop
 | none=>True
 | some b=>b=true
def gok:Option Bool->Bool->Prop
 | none,g=>g=true
 | some b,g=>b=true->g=true
def wr:Option Bool->AV->AV
 | none,x=>x
 | some b,x=>.gd b x
def bP(G:Option Bool)(x:AV)(k:AV->Prop):Prop:=
 match x with
 | .gd g y=>gok G g/\k y
 | x=>k x
def kS(x:AV)(K:List AV->Prop):Prop:=
 match x with
 | .agg cs=>K cs
 | .v y=>y.oneCell'=true/\K [.v y]
 | .sl es=>K [.sl es]
 | .rp cs o=>K [.rp cs o]
 | .os k=>K [.os k]
 | .op k i f=>K [.op k i f]
 | _=>False
def rA(P:Program)(t:TypeId):Option Nat:=match P.underlying t with|some (.int _)=>some 0|some .string=>some 1|some .bool=>some 2|_=>none
def sC(c:Nat)(x y:AV):Option Bool:=
 match c,x,y with
 | 0,.v (.int k a),.v (.int k' b)=>if k=k' then some (a == b)else none
 | 1,.v (.string a),.v (.string b)=>some (a.toList == b.toList)
 | 2,.v (.bool a),.v (.bool b)=>some (a == b)
 | _,_,_=>none
def Ke:Option Bool->Option Bool->Option Bool
 | some a,some b=>some (a&&b)
 | _,_=>none
def gA:List Nat->List AV->List AV->Option Bool
 | [],[],[]=>some true
 | c::l,x::r,y::s=>Ke (sC c x y) (gA l r s)
 | _,_,_=>none
def nC(P:Program):Nat->List Field->Option (List Nat)
 | _,[]=>some []
 | o,f::r=>if f.name != "_" && f.offset == o&&(P.info? f.type).isSome then match rA P f.type,nC P (o+1) r with
   | some c,some l=>some (c::l)
   | _,_=>none
   else none
def vG(P:Program)(t:TypeId):Option (List Nat):=
 match P.underlying t with
 | some (.struct fs)=>if P.stoodInHeld t=false/\P.eqGuardType P.depth t=false then nC P 0 fs.toList else none
 | some (.array n e)=>if(P.info? e).map (·.size)=some 1/\P.eqGuardType P.depth t=false then(rA P e).map (List.replicate n)else none
 | _=>none
def uN:BinOp->Bool
 | .shl=>true
 | .shr=>true
 | _=>false
def shV(op:BinOp)(k:IntKind)(a b:Int):Int:=match op with
 | .shl=>k.wrap (a*2^min b.toNat k.bits)
 | _=>a.fdiv (2^min b.toNat k.bits)
def qI(op:BinOp)(k:IntKind)(a b:Int):Int:=match op with
 | .and=>k.wrap ((BitVec.ofInt k.bits a &&& BitVec.ofInt k.bits b).toNat:Nat)
 | .or=>k.wrap ((BitVec.ofInt k.bits a ||| BitVec.ofInt k.bits b).toNat:Nat)
 | .xor=>k.wrap ((BitVec.ofInt k.bits a ^^^ BitVec.ofInt k.bits b).toNat:Nat)
 | _=>k.wrap ((BitVec.ofInt k.bits a &&& ~~~(BitVec.ofInt k.bits b)).toNat:Nat)
def fP(P:Program)(G:Option Bool)(op:BinOp)(t:TypeId)(x y:AV)(K:AV->Prop):Prop:=
 match x,y with
 | .v (.int k a),.v (.int k' b)=>
   if uN op=true then(gt G->0<=b)/\K (.v (.int k (shV op k a b)))
   else if k=k' then
     match op with
     | .and=>K (.v (.int k (qI .and k a b)))
     | .or=>K (.v (.int k (qI .or k a b)))
     | .xor=>K (.v (.int k (qI .xor k a b)))
     | .andNot=>K (.v (.int k (qI .andNot k a b)))
     | .add=>K (.v (.int k (k.wrap (a+b))))
     | .sub=>K (.v (.int k (k.wrap (a-b))))
     | .mul=>K (.v (.int k (k.wrap (a*b))))
     | .quo=>(gt G->b≠0)/\K (.v (.int k (k.wrap (a.tdiv b))))
     | .rem=>(gt G->b≠0)/\K (.v (.int k (a.tmod b)))
     | .eql=>K (.v (.bool (a == b)))
     | .neq=>K (.v (.bool (a != b)))
     | .lss=>K (.v (.bool (decide (a<b))))
     | .leq=>K (.v (.bool (decide (a<=b))))
     | .gtr=>K (.v (.bool (decide (a>b))))
     | .geq=>K (.v (.bool (decide (a>=b))))
     | _=>False
   else False
 | .v (.string a),.v (.string b)=>
   match op with
   | .add=>(gt G->((a.size+b.size:Nat):Int)<=IntKind.i64.max)/\K (.v (.string (a++b)))
   | .eql=>K (.v (.bool (a.toList == b.toList)))
   | .neq=>K (.v (.bool !(a.toList == b.toList)))
   | .lss=>K (.v (.bool (Op.bytesLess a.toList b.toList)))
   | _=>False
 | .v (.bool a),.v (.bool b)=>
   if xN P t then
     match op with
     | .eql=>K (.v (.bool (a == b)))
     | .neq=>K (.v (.bool !(a == b)))
     | _=>False
   else False
 | .agg xs,.agg ys=>match vG P t with
   | some l=>match gA l xs ys with
     | some b=>match op with
       | .eql=>K (.v (.bool b))
       | .neq=>K (.v (.bool !b))
       | _=>False
     | none=>False
   | none=>False
 | _,_=>(gt G->False)/\K .any
def N0(P:Program)(t:TypeId):Option (TypeId×TypeId):=match P.underlying t with|some (.map k e)=>some (k,e)|_=>none
def GY(P:Program)(t:TypeId):Option AV:=
 match P.info? t with
 | some i=>match i.zero with
   | some (.agg cs)=>if cs.toList.all (·.oneCell')=true then some (.agg (cs.toList.map nY))else none
   | some v=>if v.oneCell'=true then some (nY v)else none
   | none=>none
 | none=>none
def oB(P:Program)(kt:TypeId)(x y:AV):Option Bool:=
 match x,y with
 | .v a,.v b=>match rA P kt with
   | some c=>sC c (.v a) (.v b)
   | none=>none
 | _,_=>none
def lD(P:Program)(kt:TypeId):AV->Bool
 | .v (.int _ _)=>rA P kt == some 0
 | .v (.string _)=>rA P kt == some 1
 | .v (.bool _)=>rA P kt == some 2
 | _=>false
def qP(eq:AV->Option Bool):List (List AV)->Nat->Option (Option Nat)
 | [],_=>some none
 | e::r,i=>match eq (e.getD 0 .any)with
   | some true=>some (some i)
   | some false=>qP eq r (i+1)
   | none=>none
def Ee(ok:Bool)(z:AV)(es:List (List AV))(oi:Option Nat):AV:=
 match oi with
 | some i=>if ok=true then .tup [(es.getD i []).getD 1 .any,.v (.bool true)]else(es.getD i []).getD 1 .any
 | none=>if ok=true then .tup [z,.v (.bool false)]else z
def RZ(es:List (List AV))(oi:Option Nat)(k v:AV):List (List AV):=
 match oi with
 | some i=>es.set i [k,v]
 | none=>es++[[k,v]]
def Cc(P:Program)(H:aG)(t:TypeId)(x key:AV)(K:Nat->Row->TypeId×TypeId->Option Nat->Prop):Prop:=
 match x with
 | .om j=>match H j,N0 P t with
   | some r,some kt=>match qP (oB P kt.1 key) r.es 0 with
     | some oi=>lD P kt.1 key=true/\K j r kt oi
     | none=>False
   | _,_=>False
 | _=>False
def qO(P:Program)(H:aG)(t:TypeId)(x key:AV)(ok:Bool)(K:AV->Prop):Prop:=
 Cc P H t x key fun _ r kt oi=>match GY P kt.2 with
   | some z=>K (Ee ok z r.es oi)
   | none=>False
def sM(c:Bool):AV->AV->AV
 | .v (.bool true),.v (.bool b)=>.v (.bool (c||b))
 | .v (.bool a),.v (.bool false)=>.v (.bool (c&&a))
 | .v (.bool a),.v (.bool b)=>.v (.bool (bif c then a else b))
 | x,y=>bif c then x else y
def yO(G:Option Bool)(c:Bool)(x y:AV)(K:AV->Prop):Prop:=
 match x,y with
 | .gd g x,.gd g' y=>(gt G->c=true->g=true)/\(gt G->c=false->g'=true)/\K (sM c x y)
 | .gd g x,y=>(gt G->c=true->g=true)/\K (sM c x y)
 | x,.gd g' y=>(gt G->c=false->g'=true)/\K (sM c x y)
 | x,y=>K (sM c x y)
def mU(G:Option Bool)(H:aG)(l:Option Nat)(x:AV)(K:AV->Prop):Prop:=
 match x with
 | .rp cs off=>match l with
   | none=>(gt G->off<cs.length)/\K (cs.getD off .any)
   | some n=>(gt G->off+n<=cs.length)/\K (.agg ((cs.drop off).take n))
 | .op k i f=>match H k with
   | some r=>match l with
     | none=>(gt G->i<r.es.length/\f<r.sz)/\K ((r.es.getD i []).getD f .any)
     | some n=>(gt G->i<r.es.length/\f+n<=r.sz)/\K (.agg (((r.es.getD i []).drop f).take n))
   | none=>False
 | _=>False
def apart(G:Option Bool)(off:Nat)(l:Option Nat)(x:AV)(K:AV->Prop):Prop:=
 match x with
 | .agg cs=>match l with
   | none=>(gt G->off<cs.length)/\K (cs.getD off .any)
   | some n=>(gt G->off+n<=cs.length)/\K (.agg ((cs.drop off).take n))
 | _=>False
def Ft(P:Program)(H:aG)(t:TypeId)(x:AV)(K:AV->Prop):Prop:=
 match x with
 | .sl es=>if bY P t then K (.v (.int .i64 es.length))else False
 | .os k=>match H k with
   | some r=>if bY P t then K (.v (.int .i64 r.es.length))else False
   | none=>False
 | .v (.string s)=>if dJ P t then K (.v (.int .i64 s.size))else False
 | _=>False
def jW(a b:Int):Int:=if b>a then b else a
def ZH(a b:Int):Int:=if b<a then b else a
def MN(x y:AV)(K:AV->Prop):Prop:=
 match x,y with
 | .v (.int k a),.v (.int _ b)=>K (.v (.int k (jW a b)))
 | _,_=>False
def Pe(x y:AV)(K:AV->Prop):Prop:=
 match x,y with
 | .v (.int k a),.v (.int _ b)=>K (.v (.int k (ZH a b)))
 | _,_=>False
def eO(P:Program)(G:Option Bool)(H:aG)(t:TypeId)(x i:AV)(K:AV->Prop):Prop:=
 match x,i with
 | .sl es,.v (.int _ n)=>match bR P t with
   | some (_,sz,_)=>(gt G->(0<=n/\n<es.length)/\(es.getD n.toNat []).length=sz)/\K (.rp (es.getD n.toNat []) 0)
   | none=>False
 | .os k,.v (.int _ n)=>match H k,bR P t with
   | some r,some (_,sz,_)=>(gt G->(0<=n/\n<r.es.length)/\r.sz=sz)/\K (.op k n.toNat 0)
   | _,_=>False
 | .rp cs off,.v (.int _ n)=>match rM P t with
   | some (m,s,_)=>(gt G->0<=n/\n<m)/\K (.rp cs (off+n.toNat*s))
   | none=>False
 | .op k j f,.v (.int _ n)=>match rM P t with
   | some (m,s,_)=>(gt G->0<=n/\n<m)/\K (.op k j (f+n.toNat*s))
   | none=>False
 | _,_=>False
def iG(P:Program)(t:TypeId)(f:Nat)(x:AV)(K:AV->Prop):Prop:=
 match x with
 | .rp cs off=>match aL P t f with
   | some (o,_)=>K (.rp cs (off+o))
   | none=>False
 | .op k i g=>match aL P t f with
   | some (o,_)=>K (.op k i (g+o))
   | none=>False
 | _=>False
def oL(places:List (Nat×Nat)):List AV->List (Nat×List AV)->Option (List AV)
 | cs,[]=>some cs
 | cs,(i,x)::rest=>match places[i]? with
   | some (off,n)=>if x.length=n/\off+n<=cs.length then oL places (cs.take off++x++cs.drop (off+n)) rest else none
   | none=>none
def nS(G:Option Bool)(ρ:Env):List (Nat×Operand)->(List (Nat×List AV)->Prop)->Prop
 | [],K=>K []
 | (i,x)::rest,K=>bP G (aev ρ x) fun y=>kS y fun cs=>nS G ρ rest fun l=>K ((i,cs)::l)
def yJ(G:Option Bool)(ρ:Env):List Operand->(List AV->Prop)->Prop
 | [],K=>K []
 | x::rest,K=>bP G (aev ρ x) fun y=>yJ G ρ rest fun l=>K (y::l)
def tY(P:Program)(t:TypeId)(parts:List (Nat×List AV))(K:AV->Prop):Prop:=
 match dC P t,dN P t with
 | some z,some pl=>match oL pl z parts with
   | some cs=>K (.agg cs)
   | none=>False
 | _,_=>False
def IY:Nat->Nat->List Nat
 | _,0=>[]
 | i,n+1=>i::IY (i+1) n
def cP(n:Nat):List (List AV)->Prop
 | []=>True
 | cs::r=>cs.length=n/\cP n r
def kT(P:Program)(G:Option Bool)(t:TypeId)(x:AV)(lo hi:Option AV)(K:AV->Prop):Prop:=
 match x,lo,hi with
 | .sl es,some (.v (.int _ a)),some (.v (.int _ b))=>match bR P t with
   | some (_,sz,_)=>(gt G->(0<=a/\a<=b/\b<=es.length)/\cP sz es)/\K (.sl ((es.take b.toNat).drop a.toNat))
   | none=>False
 | .sl es,some (.v (.int _ a)),none=>match bR P t with
   | some (_,sz,_)=>(gt G->(0<=a/\a<=es.length)/\cP sz es)/\K (.sl (es.drop a.toNat))
   | none=>False
 | .sl es,none,some (.v (.int _ b))=>match bR P t with
   | some _=>(gt G->0<=b/\b<=es.length)/\K (.sl (es.take b.toNat))
   | none=>False
 | .v (.string s),some (.v (.int _ a)),some (.v (.int _ b))=>
   if dJ P t then(gt G->0<=a/\a<=b/\b<=s.size)/\K (.v (.string (s.extract a.toNat b.toNat)))else False
 | .v (.string s),some (.v (.int _ a)),none=>
   if dJ P t then(gt G->0<=a/\a<=s.size)/\K (.v (.string (s.extract a.toNat s.size)))else False
 | .v (.string s),none,some (.v (.int _ b))=>
   if dJ P t then(gt G->0<=b/\b<=s.size)/\K (.v (.string (s.extract 0 b.toNat)))else False
 | _,_,_=>False
def asl(P:Program)(G:Option Bool)(H:aG)(t:TypeId)(x:AV)(lo hi:Option AV)(K:AV->Prop):Prop:=
 match x with
 | .os k=>match H k,bR P t with
   | some r,some (_,sz,_)=>match lo,hi with
     | some (.v (.int _ a)),some (.v (.int _ b))=>(gt G->(0<=a/\a<=b/\b<=r.es.length)/\r.sz=sz)/\K (.oz k a.toNat b.toNat)
     | some (.v (.int _ a)),none=>(gt G->(0<=a/\a<=r.es.length)/\r.sz=sz)/\K (.oz k a.toNat r.es.length)
     | none,some (.v (.int _ b))=>(gt G->(0<=b/\b<=r.es.length)/\r.sz=sz)/\K (.oz k 0 b.toNat)
     | _,_=>False
   | _,_=>False
 | x=>kT P G t x lo hi K
def CR(P:Program)(G:Option Bool)(t:TypeId)(x a b:AV)(K:AV->Prop):Prop:=
 match x,a,b with
 | .sl es,.v (.int _ a),.v (.int _ b)=>match bR P t with
   | some _=>(gt G->a=es.length/\b=es.length)/\K (.cl es)
   | none=>False
 | _,_,_=>False
def tR(P:Program)(G:Option Bool)(t:TypeId)(x i:AV)(K:AV->Prop):Prop:=
 match x,i with
 | .v (.string s),.v (.int _ n)=>
   if dJ P t then(gt G->0<=n/\n<s.size)/\K (.v (.int .u8 ((s.data.getD n.toNat 0).toNat:Int)))else False
 | .agg cs,.v (.int _ n)=>match rM P t with
   | some (m,s,l)=>(gt G->0<=n/\n<m)/\apart G (n.toNat*s) l (.agg cs) K
   | none=>False
 | _,_=>False
def aun(op:UnOp)(x:AV)(K:AV->Prop):Prop:=
 match op,x with
 | .not,.v (.bool b)=>K (.v (.bool !b))
 | .neg,.v (.int k n)=>K (.v (.int k (k.wrap (0-n))))
 | _,_=>False
def oI:List (List AV)->Option (List Int)
 | []=>some []
 | [.v (.int .u8 n)]::r=>(oI r).map (n::·)
 | _=>none
def Br(P:Program)(t:TypeId):Bool:=
 match P.underlying t with
 | some (.slice e)=>match P.underlying e with
   | some (.int .u8)=>true
   | _=>false
 | _=>false
def Ew(P:Program)(t:TypeId):Option IntKind:=match P.underlying t with|some (.int k)=>some k|_=>none
def uZ(P:Program)(src dst:TypeId)(x:AV)(K:AV->Prop):Prop:=
 match x with
 | .v (.int _ n)=>match Ew P dst,Ew P src with
   | some k,some _=>K (.v (.int k (k.wrap n)))
   | _,_=>False
 | .v (.string s)=>if dJ P src/\dJ P dst then K (.v (.string s))else False
 | .sl es => if Br P src /\ dJ P dst then
     match oI es with
     | some ns=>K (.v (.string (strOfNums ns)))
     | none=>False
   else False
 | _=>False
def pV:Operand->Bool
 | .const (.slice none 0 0)=>true
 | _=>false
def oF(op:BinOp)(x:AV)(K:AV->Prop):Prop:=
 match op,x with
 | .eql,.sl es=>(es=[]->K (.v (.bool true)))/\K (.v (.bool false))
 | .neq,.sl es=>(es=[]->K (.v (.bool false)))/\K (.v (.bool true))
 | .eql,.os _=>K (.v (.bool true))/\K (.v (.bool false))
 | .neq,.os _=>K (.v (.bool false))/\K (.v (.bool true))
 | .eql,.v (.slice none 0 0)=>K (.v (.bool true))
 | .neq,.v (.slice none 0 0)=>K (.v (.bool false))
 | _,_=>False
def fT(P:Program)(G:Option Bool)(ρ:Env)(H:aG)(op:Op)(K:AV->Prop):Prop:=
 match op with
 | .move x| .assign x=>bP G (aev ρ x) K
 | .pick c a b=>bP G (aev ρ c) fun
   | .v (.bool c)=>yO G c (aev ρ a) (aev ρ b) K
   | _=>False
 | .build t parts=>nS G ρ parts.toList fun l=>tY P t l K
 | .load t a=>match ldT P t with
   | some l=>bP G (aev ρ a) fun a=>mU G H l a K
   | none=>False
 | .nilCheck x=>bP G (aev ρ x) fun
   | .rp cs off=>K (.rp cs off)
   | .op k i f=>K (.op k i f)
   | _=>False
 | .binOp op t x y _=>if pV y=true then bP G (aev ρ x) fun x=>bY P t=true/\oF op x K else bP G (aev ρ x) fun x=>bP G (aev ρ y) fun y=>fP P G op t x y K
 | .unOp op _ x=>bP G (aev ρ x) fun x=>aun op x K
 | .convert src dst x=>bP G (aev ρ x) fun x=>uZ P src dst x K
 | .slice t x lo hi none=>bP G (aev ρ x) fun x=>match lo,hi with
   | some lo,some hi=>bP G (aev ρ lo) fun lo=>bP G (aev ρ hi) fun hi=>asl P G H t x (some lo) (some hi) K
   | some lo,none=>bP G (aev ρ lo) fun lo=>asl P G H t x (some lo) none K
   | none,some hi=>bP G (aev ρ hi) fun hi=>asl P G H t x none (some hi) K
   | none,none=>False
 | .slice t x none (some hi) (some m)=>bP G (aev ρ x) fun x=>bP G (aev ρ hi) fun hi=>bP G (aev ρ m) fun m=>CR P G t x hi m K
 | .fieldAddr t x f=>bP G (aev ρ x) fun x=>iG P t f x K
 | .field t x f=>match aL P t f with
   | some (o,l)=>bP G (aev ρ x) fun x=>apart G o l x K
   | none=>False
 | .indexAddr t x i=>bP G (aev ρ x) fun x=>bP G (aev ρ i) fun i=>eO P G H t x i K
 | .index t x i=>bP G (aev ρ x) fun x=>bP G (aev ρ i) fun i=>tR P G t x i K
 | .extract x i=>bP G (aev ρ x) fun
   | .tup vs=>(gt G->i<vs.length)/\K (vs.getD i .any)
   | _=>False
 | .lookup t x i ok=>bP G (aev ρ x) fun x=>bP G (aev ρ i) fun i=>qO P H t x i ok K
 | .makeFunc f first cap=>match f with
   | .func f=>first=#[]/\yJ G ρ cap.toList fun l=>K (.fn f l)
   | _=>False
 | _=>False
def bX(ops:Array Oper)(ρ:Env)(g:Option (Nat×Bool))(K:Option Bool->Prop):Prop:=
 match g with
 | none=>K none
 | some (j,want)=>match (ops[j]?).bind (·.dst)with
   | some t=>match ρ t with
     | .v (.bool b)=>K (some (b == want))
     | .gd g (.v (.bool b))=>K (some (g&&(b == want)))
     | _=>False
   | none=>False
def oS(mt:Nat->Bool):Option Nat->Bool
 | some d=>mt d
 | none=>false
def nL(H:aG)(r:Row)(K:Nat->aG->Prop):Prop:=∀k,H k=none->K k (aI H k (some r))
def mX(cs:List AV)(f:Nat)(xs:List AV):List AV:=cs.take f++xs++cs.drop (f+xs.length)
def iR:List (Nat×TypeId×Nat)->List AV->aG->(List AV->aG->Prop)->Prop
 | [],cs,H,K=>K cs H
 | x::r,cs,H,K=>nL H ⟨x.2.1,x.2.2,[]⟩ fun k H'=>iR r (cs.set x.1 (.os k)) H' K
def A0(P:Program)(mt:Nat->Bool)(quiet:Bool)(G:Option Bool)(o:Oper)(x:Operand)(ρ:Env)(H:aG)(K:Env->aG->Prop):Prop:=
 if oS mt o.dst=true/\G=none/\quiet=false/\pV x=true then
   match bR P o.type with
   | some (e,sz,_)=>nL H ⟨e,sz,[]⟩ fun k H'=>K (upd ρ o.dst (.os k)) H'
   | none=>False
 else bP G (aev ρ x) fun y=>K (upd ρ o.dst (wr G y)) H
def aaH(mt:Nat->Bool)(o:Oper)(t:TypeId)(cs:List AV)(ρ:Env)(H:aG)(K:Env->aG->Prop):Prop:=
 if oS mt o.dst=true then
   0<cs.length/\nL H ⟨t,cs.length,[cs]⟩ fun k H'=>K (upd ρ o.dst (.op k 0 0)) H'
 else K (upd ρ o.dst (.rp cs 0)) H
def lT(P:Program)(mt:Nat->Bool)(G:Option Bool)(o:Oper)(t:TypeId)(n:Nat)(parts:List (Nat×List AV))(ρ:Env)(H:aG)(K:Env->aG->Prop):Prop:=
 match bR P t with
 | some (e,sz,_)=>
   (parts.map (·.1)=IY 0 n/\cP sz (parts.map (·.2))/\n*sz<=16777216) /\
   (if oS mt o.dst=true/\G=none then nL H ⟨e,sz,parts.map (·.2)⟩ fun k H'=>K (upd ρ o.dst (.os k)) H'
    else K (upd ρ o.dst (wr G (.sl (parts.map (·.2))))) H)
 | none=>False
def wM(P:Program)(o:Oper)(t:TypeId)(a:AV)(cs:List AV)(ρ:Env)(H:aG)(K:Env->aG->Prop):Prop:=
 match a with
 | .op k i f=>match H k,ldT P t with
   | some r, some l => (i < r.es.length /\ cs.length = l.getD 1 /\ f + cs.length <= r.sz /\ (l = none -> ∃ i, P.info? t = some i /\ i.size = 1)) /\
       K (upd ρ o.dst .any) (aI H k (some { r with es:=r.es.set i (mX (r.es.getD i []) f cs) }))
   | _,_=>False
 | _=>False
def qK(P:Program)(o:Oper)(t:TypeId)(a:AV)(cs:List AV)(ρ:Env)(H:aG)(K:Env->aG->Prop):Prop:=
 wM P o t a cs ρ H K\/((ldT P t).isSome=true/\∃nl:List (Nat×TypeId×Nat),(∀x∈nl,cs[x.1]?=some (.v (.slice none 0 0))/\0<x.2.2)/\iR nl cs H fun cs H=>wM P o t a cs ρ H K)
def xK(x:Operand)(ρ:Env)(d:Option Nat)(H:aG)(K:Env->aG->Prop):Prop:=
 match x with
 | .tmp t=>match ρ t with
   | .os j=>match H j with
     | some r=>∀Hr:aG,Hr j=none->(∀k,k≠j->Hr k=H k)->K (upd (upd ρ (some t) (.sl r.es)) d (.sl r.es)) Hr
     | none=>False
   | _=>False
 | _=>False
theorem Bm{t j:Nat}{r:Row}{ρ:Env}{d:Option Nat}{H:aG}{K:Env->aG->Prop}(E:ρ t=.os j)(F:H j=some r)(h:∀u:aG,u j=none->(∀k,k≠j->u k=H k)->K (upd (upd ρ (some t) (.sl r.es)) d (.sl r.es)) u):xK (.tmp t) ρ d H K:=by
 unfold xK;simp only[E,F];exact h
def He(l:List Nat)(H:aG):List AV->List AV->Prop
 | [],[]=>True
 | x::xs,y::ys=>(x=y\/∃j r,j∈l/\x=.os j/\H j=some r/\y=.sl r.es)/\He l H xs ys
 | _,_=>False
def F6(x:AV)(ρ:Env)(d:Option Nat)(H:aG)(K:Env->aG->Prop):Prop:=
 match x with
 | .agg cs=>∃(l:List Nat) (ys:List AV),He l H cs ys/\∀Hr:aG,(∀k,k∈l->Hr k=none)->(∀k,¬k∈l->Hr k=H k)->K (upd ρ d (.agg ys)) Hr
 | _=>False
def vM(H:aG)(x:AV)(K:List (List AV)->Prop):Prop:=
 match x with
 | .sl es=>K es
 | .os k=>match H k with
   | some r=>K r.es
   | none=>False
 | .oz k a b=>match H k with
   | some r=>K ((r.es.take b).drop a)
   | none=>False
 | _=>False
def Fo(H:aG)(x:AV)(K:Nat->Nat->Nat->Row->Prop):Prop:=
 match x with
 | .os k=>match H k with
   | some r=>K k 0 r.es.length r
   | none=>False
 | .oz k a b=>match H k with
   | some r=>K k a (b-a) r
   | none=>False
 | _=>False
def Qe(P:Program)(o:Oper)(t:TypeId)(x y:AV)(ρ:Env)(H:aG)(K:Env->aG->Prop):Prop:=
 Fo H x fun k a n r=>vM H y fun news=>match bR P t with
   | some (_,sz,_)=>(r.sz=sz/\cP sz news)/\K (upd ρ o.dst (.v (.int .i64 (min news.length n:Nat)))) (aI H k (some { r with es:=r.es.take a++news.take (min news.length n)++r.es.drop (a+min news.length n) }))
   | none=>False
def HV(P:Program)(o:Oper)(t:TypeId)(x:AV)(ρ:Env)(H:aG)(K:Env->aG->Prop):Prop:=
 Fo H x fun k a n r=>match bR P t with
   | some (e,sz,_)=>match dC P e with
     | some zs=>r.sz=sz/\K (upd ρ o.dst .any) (aI H k (some { r with es:=r.es.take a++List.replicate n zs++r.es.drop (a+n) }))
     | none=>False
   | none=>False
def rH(P:Program)(o:Oper)(t:TypeId)(s x:AV)(ρ:Env)(H:aG)(K:Env->aG->Prop):Prop:=
 match s,bR P t with
 | .os k,some (e,sz,bytes)=>match H k with
   | some r => vM H x fun news =>
       (r.e=e/\r.sz=sz/\cP sz news/\(r.es.length+news.length)*bytes<=140737488355328) /\
       ∀k',H k'=none->K (upd ρ o.dst (.os k')) (aI (aI H k none) k' (some ⟨e,sz,r.es++news⟩))
   | none=>False
 | .cl es, some (e, sz, bytes) => vM H x fun news =>
     (news≠[]/\cP sz es/\cP sz news/\(es.length+news.length)*bytes<=140737488355328) /\
     ∀k',H k'=none->K (upd ρ o.dst (.os k')) (aI H k' (some ⟨e,sz,es++news⟩))
 | .v (.slice none 0 0), some (e, sz, bytes) => vM H x fun news =>
     (news≠[]/\cP sz ([]:List (List AV))/\cP sz news/\(([]:List (List AV)).length+news.length)*bytes<=140737488355328) /\
     ∀k',H k'=none->K (upd ρ o.dst (.os k')) (aI H k' (some ⟨e,sz,[]++news⟩))
 | _,_=>False
def Gl:List (Nat×TypeId×Nat)->List AV->List AV
 | [],z=>z
 | x::r,z=>Gl r (z.set x.1 (.v (.slice none 0 0)))
def xU(P:Program)(o:Oper)(t:TypeId)(parts:List (Nat×Operand))(ρ:Env)(H:aG)(K:Env->aG->Prop):Prop:=
 nS none ρ parts fun l=>match dC P t,dN P t,pN P t with
   | some z,some pl,some nl=>match oL pl (Gl nl z) l with
     | some cs=>K (upd ρ o.dst (.agg cs)) H
     | none=>False
   | _,_,_=>False
def AZ(P:Program)(o:Oper)(t:TypeId)(parts:List (Nat×Operand))(ρ:Env)(H:aG)(K:Env->aG->Prop):Prop:=
 nS none ρ parts fun l=>match dC P t,dN P t,pN P t with
   | some z,some pl,some nl=>iR nl z H fun z H=>match oL pl z l with
     | some cs=>K (upd ρ o.dst (.agg cs)) H
     | none=>False
   | _,_,_=>False
def kD(P:Program)(o:Oper)(t:TypeId)(m x v:AV)(ρ:Env)(H:aG)(K:Env->aG->Prop):Prop:=
 Cc P H t m x fun j r _ oi=>K (upd ρ o.dst .any) (aI H j (some { r with es:=RZ r.es oi x v }))
def xI(P:Program)(o:Oper)(t:TypeId)(m x:AV)(ρ:Env)(H:aG)(K:Env->aG->Prop):Prop:=
 Cc P H t m x fun j r kt oi=>match oi with
   | some i=>K (upd ρ o.dst (.tup [(r.es.getD i []).getD 1 .any,.v (.int .i64 i)])) H
   | none=>match GY P kt.2 with
     | some z=>K (upd ρ o.dst (.tup [z,.v (.int .i64 r.es.length)])) (aI H j (some { r with es:=r.es++[[x,z]] }))
     | none=>False
def rF(o:Oper)(m s v:AV)(ρ:Env)(H:aG)(K:Env->aG->Prop):Prop:=
 match m,s with
 | .om j,.v (.int _ i)=>match H j with
   | some r=>(0<=i/\i<r.es.length)/\K (upd ρ o.dst .any) (aI H j (some { r with es:=r.es.set i.toNat [(r.es.getD i.toNat []).getD 0 .any,v] }))
   | none=>False
 | _,_=>False
def pY(P:Program)(o:Oper)(t:TypeId)(l c:AV)(ρ:Env)(H:aG)(K:Env->aG->Prop):Prop:=
 match l,c with
 | .v (.int _ a),.v (.int _ b)=>match bR P t with
   | some (e,sz,bytes)=>match dC P e with
     | some z=>((0<=a/\a<=b)/\(bytes:Int)*b<=140737488355328)/\nL H ⟨e,sz,List.replicate a.toNat z⟩ fun k H'=>K (upd ρ o.dst (.os k)) H'
     | none=>False
   | none=>False
 | _,_=>False
def LA:AV->Option (FuncId×List AV×List AV)
 | .v (.func (.func f) first captured)=>some (f,first.toList.map .v,captured.toList.map .v)
 | .fn f cap=>some (f,[],cap)
 | _=>none
def aC(P:Program)(f:FuncId):Bool:=match P.funcs[f]? with|some fn=>fn.name != "runtime.NumGoroutine" && fn.body.isSome|none=>false
abbrev kH:=FuncId->List AV->aG->(AV->aG->Prop)->Prop
def nfq(quiet:Bool)(r:AV)(K:AV->Prop):Prop:=match quiet,r with
 | true,.nf _=>False
 | false,.nf x=>K x
 | _,r=>K r
def Ah(P:Program)(C:kH)(PC:FuncId->List AV->aG->AV->Prop)(nl quiet:Bool)(G:Option Bool)(o:Oper)(c:Call)(ρ:Env)(H:aG)(K:Env->aG->Prop):Prop:=
 match c.callee with
 | .builtin b=>yJ G ρ c.args.toList fun l=>match b,l,c.argTypes.toList with
   | .len,[x],[t]=>Ft P H t x fun y=>K (upd ρ o.dst (wr G y)) H
   | .append,[s,x],[t,t']=>if t=t'/\G=none/\quiet=false then rH P o t s x ρ H K else False
   | .copy,[x,y],[t,_]=>if G=none/\quiet=false then Qe P o t x y ρ H K else False
   | .clear,[x],[t]=>if G=none/\quiet=false then HV P o t x ρ H K else False
   | .max,[x,y],[_,_]=>MN x y fun z=>K (upd ρ o.dst (wr G z)) H
   | .min,[x,y],[_,_]=>Pe x y fun z=>K (upd ρ o.dst (wr G z)) H
   | _,_,_=>False
 | .value f=>bP G (aev ρ f) fun x=>match LA x with
   | some (f,first,captured)=>if nl=true then G=none/\quiet=false/\aC P f=true/\C f (first++c.args.toList.map (HA ρ)++captured) H fun r H'=>K (upd ρ o.dst r) H' else yJ G ρ c.args.toList fun l=>
     aC P f=true/\if G=none/\quiet=false then C f (first++l++captured) H fun r H'=>K (upd ρ o.dst r) H'
     else ∃r,(gt G->PC f (first++l++captured) H r)/\nfq quiet r fun r=>K (upd ρ o.dst (wr G r)) H
   | none=>False
 | .invoke _ _=>False
def aop(P:Program)(C:kH)(PC:FuncId->List AV->aG->AV->Prop)(mt:Nat->Bool)(quiet:Bool)(ops:Array Oper)(o:Oper)(ρ:Env)(H:aG)(K:Env->aG->Prop):Prop:=
 bX ops ρ o.guard fun G=>
 match o.op with
 | .assign x=>A0 P mt quiet G o x ρ H K
 | .alloc t=>match dC P t with
   | some z => G = none /\ quiet = false /\ (if oS mt o.dst = true then match pN P t with
       | some nl=>iR nl z H fun z H=>nL H ⟨t,z.length,[z]⟩ fun k H'=>K (upd ρ o.dst (.op k 0 0)) H'
       | none=>False
     else nL H ⟨t,z.length,[z]⟩ fun k H'=>K (upd ρ o.dst (.op k 0 0)) H')
   | none=>False
 | .box t x=>G=none/\quiet=false/\bP G (aev ρ x) fun x=>kS x fun cs=>aaH mt o t cs ρ H K
 | .buildSlice t n parts=>quiet=false/\nS G ρ parts.toList fun l=>lT P mt G o t n l ρ H K
 | .store t a x => G = none /\ quiet = false /\ (if pV x = true then bP G (aev ρ a) fun a => match bR P t with
       | some (e,sz,_)=>nL H ⟨e,sz,[]⟩ fun k H=>qK P o t a [.os k] ρ H K
       | none=>False
     else bP G (aev ρ a) fun a=>bP G (aev ρ x) fun x=>kS x fun cs=>qK P o t a cs ρ H K)
 | .call c=>Ah P C PC (oS mt o.dst) quiet G o c ρ H K
 | .move x=>if oS mt o.dst=true then G=none/\quiet=false/\xK x ρ o.dst H K else fT P G ρ H (.move x) fun x=>K (upd ρ o.dst (wr G x)) H
 | .pick c a b=>fT P G ρ H (.pick c a b) fun x=>K (upd ρ o.dst (wr G x)) H
 | .build t parts=>if oS mt o.dst=true then G=none/\(if quiet=true then xU P o t parts.toList ρ H K else AZ P o t parts.toList ρ H K)else fT P G ρ H (.build t parts) fun x=>K (upd ρ o.dst (wr G x)) H
 | .load t a=>if oS mt o.dst=true then G=none/\quiet=false/\fT P none ρ H (.load t a) fun x=>F6 x ρ o.dst H K else fT P G ρ H (.load t a) fun x=>K (upd ρ o.dst (wr G x)) H
 | .nilCheck x=>fT P G ρ H (.nilCheck x) fun x=>K (upd ρ o.dst (wr G x)) H
 | .binOp op t x y t'=>fT P G ρ H (.binOp op t x y t') fun x=>K (upd ρ o.dst (wr G x)) H
 | .unOp op t x=>fT P G ρ H (.unOp op t x) fun x=>K (upd ρ o.dst (wr G x)) H
 | .convert s d x=>fT P G ρ H (.convert s d x) fun x=>K (upd ρ o.dst (wr G x)) H
 | .slice t x lo hi m=>fT P G ρ H (.slice t x lo hi m) fun x=>K (upd ρ o.dst (wr G x)) H
 | .fieldAddr t x f=>fT P G ρ H (.fieldAddr t x f) fun x=>K (upd ρ o.dst (wr G x)) H
 | .field t x f=>fT P G ρ H (.field t x f) fun x=>K (upd ρ o.dst (wr G x)) H
 | .indexAddr t x i=>fT P G ρ H (.indexAddr t x i) fun x=>K (upd ρ o.dst (wr G x)) H
 | .index t x i=>fT P G ρ H (.index t x i) fun x=>K (upd ρ o.dst (wr G x)) H
 | .extract x i=>fT P G ρ H (.extract x i) fun x=>K (upd ρ o.dst (wr G x)) H
 | .makeFunc f a b=>fT P G ρ H (.makeFunc f a b) fun x=>K (upd ρ o.dst (wr G x)) H
 | .makeSlice t l c=>G=none/\quiet=false/\bP G (aev ρ l) fun l=>bP G (aev ρ c) fun c=>pY P o t l c ρ H K
 | .lookup t x i ok=>fT P G ρ H (.lookup t x i ok) fun x=>K (upd ρ o.dst (wr G x)) H
 | .makeMap _ none=>G=none/\quiet=false/\nL H ⟨0,2,[]⟩ fun k H'=>K (upd ρ o.dst (.om k)) H'
 | .mapUpdate t m x v=>G=none/\quiet=false/\bP G (aev ρ m) fun m=>bP G (aev ρ x) fun x=>bP G (aev ρ v) fun v=>kD P o t m x v ρ H K
 | .insert t m x v=>G=none/\quiet=false/\bP G (aev ρ m) fun m=>bP G (aev ρ x) fun x=>bP G (aev ρ v) fun v=>kD P o t m x v ρ H K
 | .mapEntry t m x=>G=none/\quiet=false/\bP G (aev ρ m) fun m=>bP G (aev ρ x) fun x=>xI P o t m x ρ H K
 | .entryStore _ m s v=>G=none/\quiet=false/\bP G (aev ρ m) fun m=>bP G (aev ρ s) fun s=>bP G (aev ρ v) fun v=>rF o m s v ρ H K
 | _=>False
def uQ(P:Program)(C:kH)(PC:FuncId->List AV->aG->AV->Prop)(mt:Nat->Bool)(quiet:Bool)(ops:Array Oper)(K:Env->aG->Prop):List Oper->Env->aG->Prop
 | [],ρ,H=>K ρ H
 | o::rest,ρ,H=>aop P C PC mt quiet ops o ρ H (uQ P C PC mt quiet ops K rest)
def Ex.seq(K:Env->aG->Prop)(Q:Ex->Env->aG->Prop):Ex->Env->aG->Prop
 | .normal,ρ,H=>K ρ H
 | e,ρ,H=>Q e ρ H
def Ex.blk(id:Nat)(Q:Ex->Env->aG->Prop):Ex->Env->aG->Prop
 | .exit i,ρ,H=>if i=id then Q .normal ρ H else Q (.exit i) ρ H
 | e,ρ,H=>Q e ρ H
def Qo(W:(Ex->Env->aG->Prop)->Env->aG->Prop)(Q:Ex->Env->aG->Prop)(ρ:Env)(H:aG):Prop:=
 ∃(I:Env->aG->Prop) (μ:Env->aG->Nat),I ρ H/\∀ρ' H',I ρ' H'->W (Ex.seq (fun ρ'' H''=>I ρ'' H''/\μ ρ'' H''<μ ρ' H') Q) ρ' H'
def abL(mt:Nat->Bool)(o:Oper):Bool:=match o.op with
 | .alloc _=>true
 | .buildSlice ..=>true
 | .store ..=>true
 | .makeSlice ..=>true
 | .makeMap ..=>true
 | .mapUpdate ..=>true
 | .insert ..=>true
 | .mapEntry ..=>true
 | .entryStore ..=>true
 | .call ⟨.builtin .append,_,_⟩=>true
 | .call ⟨.builtin .copy,_,_⟩=>true
 | .call ⟨.builtin .clear,_,_⟩=>true
 | _=>oS mt o.dst
def QU(mt:Nat->Bool):List Oper->Nat
 | []=>0
 | o::r=>if abL mt o=true then 0 else QU mt r+1
def P1(ops:Array Oper)(n:Nat):Bool:=Region.noSelect ops&&decide (n<=ops.size)&&Region.lexHead .any ops (ops.size-n) n 0 (Array.replicate ops.size false)
def qH(o:Oper)(H:aG):aG:=match o.op with
 | .slice ..=>H
 | _=>fun _=>none
def vS(P:Program)(C:kH)(PC:FuncId->List AV->aG->AV->Prop)(mt:Nat->Bool)(ops:Array Oper)(K:Env->aG->Prop):List (Nat×Bool)->Env->aG->Prop
 | [],ρ,H=>K ρ H
 | (k,b)::f,ρ,H=>match ops[k]? with
   | some o=>if b=true then aop P C PC mt true ops o ρ (qH o H) fun ρ' _=>vS P C PC mt ops K f ρ' H
     else aop P C PC mt false ops o ρ H (vS P C PC mt ops K f)
   | none=>False
def nV(P:Program)(C:kH)(PC:FuncId->List AV->aG->AV->Prop)(mt:Nat->Bool)(ops:Array Oper)(K:Env->aG->Prop)(Hp:aG):List (Nat×Bool)->Env->aG->Prop
 | [],ρ,H=>K ρ H
 | (k,b)::f,ρ,H=>match ops[k]? with
   | some o=>if b=true then aop P C PC mt true ops o ρ Hp fun ρ' _=>nV P C PC mt ops K Hp f ρ' H
     else aop P C PC mt false ops o ρ H (nV P C PC mt ops K Hp f)
   | none=>False
def kU(l:List Nat)(H:aG)(K:Env->aG->Prop)(ρ':Env)(H':aG):Prop:=
 (∀k,k∈l->H' k=none)->∀Hm:aG,(∀k,k∈l->Hm k=H k)->(∀k,k∉l->Hm k=H' k)->K ρ' Hm
theorem eR{l:List Nat}{H:aG}{K:Env->aG->Prop}{u:Env}{H':aG}(h:(∀k,k∈l->H' k=none)->∀E:aG,(∀k,k∈l->E k=H k)->(∀k,k∉l->E k=H' k)->K u E):kU l H K u H':=h
def lX(ops:Array Oper):List (Nat×Bool)->Array Bool->Bool
 | [],listed=>(Region.ready .any ops listed).isEmpty
 | (k,true)::f,listed=>(Region.ready .any ops listed).contains k&&Region.free .any ops listed k&&lX ops f (listed.setIfInBounds k true)
 | (k,false)::f,listed=>decide (Region.ready .any ops listed=[k])&&lX ops f (listed.setIfInBounds k true)
def Li(ops:Array Oper)(f:List (Nat×Bool)):Bool:=Region.noSelect ops&&decide (f.length=ops.size)&&lX ops f (Array.replicate ops.size false)
inductive Mx where
 | nil
 | q (k:Nat) (t:Mx)
 | a1 (k:Nat) (t:Mx)
 | a2 (k:Nat) (t:Mx) (k':Nat) (t':Mx)
 | a3 (k:Nat) (t:Mx) (k':Nat) (t':Mx) (k'':Nat) (t'':Mx)
def zP(P:Program)(C:kH)(PC:FuncId->List AV->aG->AV->Prop)(mt:Nat->Bool)(quiet:Bool)(ops:Array Oper)(k:Nat)(ρ:Env)(H:aG)(K:Env->aG->Prop):Prop:=
 match ops[k]? with
 | some o=>aop P C PC mt quiet ops o ρ H K
 | none=>False
def lC(P:Program)(C:kH)(PC:FuncId->List AV->aG->AV->Prop)(mt:Nat->Bool)(ops:Array Oper)(K:Env->aG->Prop)(Hp:aG):Mx->Env->aG->Prop
 | .nil,ρ,H=>K ρ H
 | .q k t,ρ,H=>zP P C PC mt true ops k ρ Hp fun ρ' _=>lC P C PC mt ops K Hp t ρ' H
 | .a1 k t,ρ,H=>zP P C PC mt false ops k ρ H (lC P C PC mt ops K Hp t)
 | .a2 k t k' t',ρ,H=>zP P C PC mt false ops k ρ H (lC P C PC mt ops K Hp t)/\zP P C PC mt false ops k' ρ H (lC P C PC mt ops K Hp t')
 | .a3 k t k' t' k'' t'',ρ,H=>zP P C PC mt false ops k ρ H (lC P C PC mt ops K Hp t)/\zP P C PC mt false ops k' ρ H (lC P C PC mt ops K Hp t')/\zP P C PC mt false ops k'' ρ H (lC P C PC mt ops K Hp t'')
def eT(ops:Array Oper):Mx->Nat->Array Bool->Bool
 | .nil,0,listed=>(Region.ready .any ops listed).isEmpty
 | .q k t,n+1,listed=>(Region.ready .any ops listed).contains k&&Region.free .any ops listed k&&eT ops t n (listed.setIfInBounds k true)
 | .a1 k t,n+1,listed=>decide (Region.ready .any ops listed=[k])&&eT ops t n (listed.setIfInBounds k true)
 | .a2 k t k' t',n+1,listed=>decide (Region.ready .any ops listed=[k,k'])&&eT ops t n (listed.setIfInBounds k true)&&eT ops t' n (listed.setIfInBounds k' true)
 | .a3 k t k' t' k'' t'',n+1,listed=>decide (Region.ready .any ops listed=[k,k',k''])&&eT ops t n (listed.setIfInBounds k true)&&eT ops t' n (listed.setIfInBounds k' true)&&eT ops t'' n (listed.setIfInBounds k'' true)
 | _,_,_=>false
def Kz(ops:Array Oper)(t:Mx):Bool:=Region.noSelect ops&&eT ops t ops.size (Array.replicate ops.size false)
def qW(P:Program)(C:kH)(PC:FuncId->List AV->aG->AV->Prop)(mt:Nat->Bool)(ops:Array Oper)(K:Env->aG->Prop)(m:Nat)(ρ:Env)(H:aG):Prop:=
 (m=ops.size/\Region.lexB .any ops=true/\uQ P C PC mt true ops K ops.toList ρ H) \/
 (P1 ops m=true/\uQ P C PC mt true ops (fun ρ' _=>uQ P C PC mt false ops K (ops.toList.drop m) ρ' H) (ops.toList.take m) ρ fun _=>none) \/
 (∃f,Li ops f=true/\vS P C PC mt ops K f ρ H) \/
 (∃l f,(∀k,k∈l->(H k).isSome=true)/\Li ops f=true/\∀Hp Hr:aG,(∀k,k∈l->Hp k=H k)->(∀k,k∉l->Hr k=H k)->(∀k,k∉l->Hp k=none)->(∀k,k∈l->Hr k=none)->nV P C PC mt ops (kU l H K) Hp f ρ Hr) \/
 ∃l t,(∀k,k∈l->(H k).isSome=true)/\Kz ops t=true/\∀Hp Hr:aG,(∀k,k∈l->Hp k=H k)->(∀k,k∉l->Hr k=H k)->(∀k,k∉l->Hp k=none)->(∀k,k∈l->Hr k=none)->lC P C PC mt ops (kU l H K) Hp t ρ Hr
theorem dA{P:Program}{C:kH}{PC:FuncId->List AV->aG->AV->Prop}{mt:Nat->Bool}{l:List Oper}{K:Env->aG->Prop}{m:Nat}{ρ:Env}{H:aG}(E:(m == l.length)=true)(u:Region.lexB .any l.toArray=true)
 (h:uQ P C PC mt true l.toArray K l ρ H):qW P C PC mt l.toArray K m ρ H:=.inl ⟨by simpa using E,u,h⟩
theorem Dn{P:Program}{C:kH}{PC:FuncId->List AV->aG->AV->Prop}{mt:Nat->Bool}{l:List Oper}{K:Env->aG->Prop}{m:Nat}{ρ:Env}{H:aG}(E:P1 l.toArray m=true)
 (h:uQ P C PC mt true l.toArray (fun u _=>uQ P C PC mt false l.toArray K (l.drop m) u H) (l.take m) ρ fun _=>none):qW P C PC mt l.toArray K m ρ H:=.inr (.inl ⟨E,h⟩)
theorem AM{P:Program}{C:kH}{PC:FuncId->List AV->aG->AV->Prop}{mt:Nat->Bool}{l:List Oper}{K:Env->aG->Prop}{m:Nat}{ρ:Env}{H:aG}(f:List (Nat×Bool))(u:Li l.toArray f=true)
 (h:vS P C PC mt l.toArray K f ρ H):qW P C PC mt l.toArray K m ρ H:=.inr (.inr (.inl ⟨f,u,h⟩))
theorem eN{P:Program}{C:kH}{PC:FuncId->List AV->aG->AV->Prop}{mt:Nat->Bool}{ops:List Oper}{K:Env->aG->Prop}{m:Nat}{ρ:Env}{H:aG}(l:List Nat)(f:List (Nat×Bool))(E:∀k,k∈l->(H k).isSome=true)(F:Li ops.toArray f=true)
 (h:∀Hp u:aG,(∀k,k∈l->Hp k=H k)->(∀k,k∉l->u k=H k)->(∀k,k∉l->Hp k=none)->(∀k,k∈l->u k=none)->nV P C PC mt ops.toArray (kU l H K) Hp f ρ u):qW P C PC mt ops.toArray K m ρ H:=.inr (.inr (.inr (.inl ⟨l,f,E,F,h⟩)))
theorem uM{P:Program}{C:kH}{PC:FuncId->List AV->aG->AV->Prop}{mt:Nat->Bool}{ops:List Oper}{K:Env->aG->Prop}{m:Nat}{ρ:Env}{H:aG}(l:List Nat)(t:Mx)(E:∀k,k∈l->(H k).isSome=true)(F:Kz ops.toArray t=true)
 (h:∀Hp u:aG,(∀k,k∈l->Hp k=H k)->(∀k,k∉l->u k=H k)->(∀k,k∉l->Hp k=none)->(∀k,k∈l->u k=none)->lC P C PC mt ops.toArray (kU l H K) Hp t ρ u):qW P C PC mt ops.toArray K m ρ H:=.inr (.inr (.inr (.inr ⟨l,t,E,F,h⟩)))
def awp(P:Program)(C:kH)(PC:FuncId->List AV->aG->AV->Prop)(mt:Nat->Bool):Code->(Ex->Env->aG->Prop)->Env->aG->Prop
 | .skip,Q,ρ,H=>Q .normal ρ H
 | .region _ ops draw,Q,ρ,H=>if draw=true then qW P C PC mt ops (Q .normal) (QU mt ops.toList) ρ H else uQ P C PC mt false ops (Q .normal) ops.toList ρ H
 | .seq a b,Q,ρ,H=>awp P C PC mt a (Ex.seq (awp P C PC mt b Q) Q) ρ H
 | .cond c a b,Q,ρ,H=>match aev ρ c with
   | .v (.bool t)=>(t=true->awp P C PC mt a Q ρ H)/\(t=false->awp P C PC mt b Q ρ H)
   | _=>False
 | .block id c,Q,ρ,H=>awp P C PC mt c (Ex.blk id Q) ρ H
 | .loop c,Q,ρ,H=>Qo (awp P C PC mt c) Q ρ H
 | .scope c,Q,ρ,H=>awp P C PC mt c Q ρ H
 | .label _,Q,ρ,H=>Q .normal ρ H
 | .exit id,Q,ρ,H=>Q (.exit id) ρ H
 | .ret,Q,ρ,H=>Q .ret ρ H
 | _,_,_,_=>False
def vP(x:AV)(A B:Env->aG->Prop)(ρ:Env)(H:aG):Prop:=
 match x with
 | .v (.bool t)=>(t=true->A ρ H)/\(t=false->B ρ H)
 | _=>False
section
variable{P:Program}{C:kH}{PC:FuncId->List AV->aG->AV->Prop}{mt:Nat->Bool}{Q:Ex->Env->aG->Prop}{K:Env->aG->Prop}{ρ:Env}{H:aG}{a b c:Code}{id:Nat}{ops:Array Oper}{draw:Bool}
theorem VY:awp P C PC mt .skip Q ρ H=Q .normal ρ H:=(rfl)
theorem Et:awp P C PC mt (.region id ops false) Q ρ H=uQ P C PC mt false ops (Q .normal) ops.toList ρ H:=by simp[awp]
theorem KT:awp P C PC mt (.region id ops true) Q ρ H=qW P C PC mt ops (Q .normal) (QU mt ops.toList) ρ H:=by simp[awp]
@[congr] theorem adraw_c {m m':Nat} (h:m=m'):qW P C PC mt ops K m ρ H=qW P C PC mt ops K m' ρ H:=h▸rfl
theorem Qj:awp P C PC mt (.seq a b) Q ρ H=awp P C PC mt a (Ex.seq (awp P C PC mt b Q) Q) ρ H:=(rfl)
theorem KU{x:Operand}:awp P C PC mt (.cond x a b) Q ρ H=vP (aev ρ x) (awp P C PC mt a Q) (awp P C PC mt b Q) ρ H:=(rfl)
theorem FS:awp P C PC mt (.block id c) Q ρ H=awp P C PC mt c (Ex.blk id Q) ρ H:=(rfl)
theorem J0:awp P C PC mt (.loop c) Q ρ H=Qo (awp P C PC mt c) Q ρ H:=(rfl)
theorem GJ:awp P C PC mt (.scope c) Q ρ H=awp P C PC mt c Q ρ H:=(rfl)
theorem TH{l:Nat}:awp P C PC mt (.label l) Q ρ H=Q .normal ρ H:=(rfl)
theorem UG:awp P C PC mt (.exit id) Q ρ H=Q (.exit id) ρ H:=(rfl)
theorem Y0:awp P C PC mt .ret Q ρ H=Q .ret ρ H:=(rfl)
theorem WN:uQ P C PC mt draw ops K [] ρ H=K ρ H:=(rfl)
theorem RH{o:Oper}{r:List Oper}:uQ P C PC mt draw ops K (o::r) ρ H=aop P C PC mt draw ops o ρ H (uQ P C PC mt draw ops K r):=(rfl)
theorem OU:Ex.seq K Q .normal ρ H=K ρ H:=(rfl)
theorem T3:Ex.seq K Q (.exit id) ρ H=Q (.exit id) ρ H:=(rfl)
theorem Zr:Ex.seq K Q .ret ρ H=Q .ret ρ H:=(rfl)
theorem Ng:Ex.blk id Q .normal ρ H=Q .normal ρ H:=(rfl)
theorem Qs:Ex.blk id Q .ret ρ H=Q .ret ρ H:=(rfl)
theorem Kd:Ex.blk id Q (.exit id) ρ H=Q .normal ρ H:=by simp[Ex.blk]
theorem QY{i:Nat}(h:(i == id)=false):Ex.blk id Q (.exit i) ρ H=Q (.exit i) ρ H:=by
 have:i≠id:=by simpa using h
 simp[Ex.blk,this]
end
@[congr] theorem wopd_c {G x x' k} (h:x=x'):bP G x k=bP G x' k:=h▸rfl
@[congr] theorem abin_c {P G op t x x' y y' k} (h:x=x') (h':y=y'):fP P G op t x y k=fP P G op t x' y' k:=h▸h'▸rfl
@[congr] theorem apick_c {G c c' x x' y y' k} (h0:c=c') (h:x=x') (h':y=y'):yO G c x y k=yO G c' x' y' k:=h0▸h▸h'▸rfl
@[congr] theorem aload_c {G H l l' x x' k} (h:l=l') (h':x=x'):mU G H l x k=mU G H l' x' k:=h▸h'▸rfl
@[congr] theorem apart_c {G o o' l l' x x' k} (h0:o=o') (h:l=l') (h':x=x'):apart G o l x k=apart G o' l' x' k:=h0▸h▸h'▸rfl
@[congr] theorem alen_c {P H t x x' k} (h':x=x'):Ft P H t x k=Ft P H t x' k:=h'▸rfl
@[congr] theorem aindexAddr_c {P G H t x x' y y' k} (h:x=x') (h':y=y'):eO P G H t x y k=eO P G H t x' y' k:=h▸h'▸rfl
@[congr] theorem aindex_c {P G t x x' y y' k} (h:x=x') (h':y=y'):tR P G t x y k=tR P G t x' y' k:=h▸h'▸rfl
@[congr] theorem afieldAddr_c {P t f x x' k} (h':x=x'):iG P t f x k=iG P t f x' k:=h'▸rfl
@[congr] theorem abuild_c {P t l l' k} (h':l=l'):tY P t l k=tY P t l' k:=h'▸rfl
@[congr] theorem aslice_c {P G t x x' lo lo' hi hi' k} (h:x=x') (h1:lo=lo') (h2:hi=hi'):kT P G t x lo hi k=kT P G t x' lo' hi' k:=h▸h1▸h2▸rfl
@[congr] theorem aun_c {op x x' k} (h':x=x'):aun op x k=aun op x' k:=h'▸rfl
@[congr] theorem aconv_c {P s t x x' k} (h':x=x'):uZ P s t x k=uZ P s t x' k:=h'▸rfl
@[congr] theorem wcells_c {x x' K} (h:x=x'):kS x K=kS x' K:=h▸rfl
@[congr] theorem acond_c {x x' A B ρ H} (h':x=x'):vP x A B ρ H=vP x' A B ρ H:=h'▸rfl
@[congr] theorem abox_c {mt o t x x' ρ H K} (h:x=x'):aaH mt o t x ρ H K=aaH mt o t x' ρ H K:=h▸rfl
@[congr] theorem abuildSlice_c {P mt G o t n x x' ρ H K} (h:x=x'):lT P mt G o t n x ρ H K=lT P mt G o t n x' ρ H K:=h▸rfl
@[congr] theorem astore_c {P o t a a' x x' ρ H K} (h:a=a') (h':x=x'):wM P o t a x ρ H K=wM P o t a' x' ρ H K:=h▸h'▸rfl
@[congr] theorem aappend_c {P o t a a' x x' ρ H K} (h:a=a') (h':x=x'):rH P o t a x ρ H K=rH P o t a' x' ρ H K:=h▸h'▸rfl
@[congr] theorem asrc_c {H x x' K} (h:x=x'):vM H x K=vM H x' K:=h▸rfl
@[congr] theorem anew_c {H r r' K} (h:r=r'):nL H r K=nL H r' K:=h▸rfl
theorem aB{t:Bool}{A B:Env->aG->Prop}{ρ:Env}{H:aG}(h1:t=true->A ρ H)(u:t=false->B ρ H):vP (.v (.bool t)) A B ρ H:=⟨h1,u⟩
def Bg(args:List AV):Env:=fun t=>args.getD t .any
def aV:AV->Nat
 | .v (.int _ n)=>n.toNat
 | _=>0
theorem aF{k n}:aV (.v (.int k n))=n.toNat:=(rfl)
section
variable{G:Option Bool}{k:AV->Prop}
theorem Wh{x}:bP G (.v x) k=k (.v x):=(rfl)
theorem KB:bP G .any k=k .any:=(rfl)
theorem PF{x}:bP G (.sl x) k=k (.sl x):=(rfl)
theorem PT{x o}:bP G (.rp x o) k=k (.rp x o):=(rfl)
theorem LR{x}:bP G (.agg x) k=k (.agg x):=(rfl)
theorem Jo{x}:bP G (.tup x) k=k (.tup x):=(rfl)
theorem QO{x}:bP G (.os x) k=k (.os x):=(rfl)
theorem Qi{x i f}:bP G (.op x i f) k=k (.op x i f):=(rfl)
theorem PN{f l}:bP G (.fn f l) k=k (.fn f l):=(rfl)
theorem Qk{j a b}:bP G (.oz j a b) k=k (.oz j a b):=(rfl)
theorem PU{es}:bP G (.cl es) k=k (.cl es):=(rfl)
theorem QA{j}:bP G (.om j) k=k (.om j):=(rfl)
theorem P3{g x}:bP G (.gd g x) k=(gok G g/\k x):=(rfl)
end
def Qy(K:Env->aG->Prop)(ρ:Env)(d:Option Tmp)(j:Nat)(H:aG):Prop:=K (upd ρ d (.os j)) H
def PW(K:Env->aG->Prop)(ρ:Env)(d:Option Tmp)(j:Nat)(H:aG):Prop:=K (upd ρ d (.op j 0 0)) H
def K3(K:Env->aG->Prop)(ρ:Env)(d:Option Tmp)(r:AV)(H:aG):Prop:=K (upd ρ d r) H
theorem Kx{K ρ d j H}:Qy K ρ d j H=K (upd ρ d (.os j)) H:=(rfl)
theorem Lc{K ρ d j H}:PW K ρ d j H=K (upd ρ d (.op j 0 0)) H:=(rfl)
theorem JI{K ρ d r H}:K3 K ρ d r H=K (upd ρ d r) H:=(rfl)
def wpick(G:Option Bool)(c x y:AV)(k:AV->Prop):Prop:=match c with
 | .v (.bool c)=>yO G c x y k
 | _=>False
@[congr] theorem wpick_c {G c c' x y k} (h:c=c'):wpick G c x y k=wpick G c' x y k:=h▸rfl
theorem Px{G c x y k}:wpick G (.v (.bool c)) x y k=yO G c x y k:=(rfl)
def WZ(x:AV)(k:AV->Prop):Prop:=match x with
 | .rp cs off=>k (.rp cs off)
 | .op j i f=>k (.op j i f)
 | _=>False
@[congr] theorem wptr_c {x x' k} (h:x=x'):WZ x k=WZ x' k:=h▸rfl
theorem Ql{cs o k}:WZ (.rp cs o) k=k (.rp cs o):=(rfl)
theorem Pt{j i f k}:WZ (.op j i f) k=k (.op j i f):=(rfl)
def XN(G:Option Bool)(x:AV)(i:Nat)(k:AV->Prop):Prop:=match x with
 | .tup vs=>(gt G->i<vs.length)/\k (vs.getD i .any)
 | _=>False
@[congr] theorem wtup_c {G x x' i k} (h:x=x'):XN G x i k=XN G x' i k:=h▸rfl
theorem QS{G vs i k}:XN G (.tup vs) i k=((gt G->i<vs.length)/\k (vs.getD i .any)):=(rfl)
def Tv(P:Program)(d:Option Tmp)(t:TypeId)(a:AV)(cs:List AV)(ρ:Env)(H:aG)(K:Env->aG->Prop):Prop:=qK P ⟨d,.move (.tmp 0),0,"",#[],none⟩ t a cs ρ H K
@[congr] theorem wput_c {P d t a a' cs cs' ρ H K} (h:a=a') (h':cs=cs'):Tv P d t a cs ρ H K=Tv P d t a' cs' ρ H K:=h▸h'▸rfl
def H6(P:Program)(d:Option Tmp)(t:TypeId)(s x:AV)(ρ:Env)(H:aG)(K:Env->aG->Prop):Prop:=rH P ⟨d,.move (.tmp 0),0,"",#[],none⟩ t s x ρ H K
@[congr] theorem wapp_c {P d t s s' x x' ρ H K} (h:s=s') (h':x=x'):H6 P d t s x ρ H K=H6 P d t s' x' ρ H K:=h▸h'▸rfl
def Mf(P:Program)(d:Option Tmp)(t:TypeId)(l c:AV)(ρ:Env)(H:aG)(K:Env->aG->Prop):Prop:=pY P ⟨d,.move (.tmp 0),0,"",#[],none⟩ t l c ρ H K
@[congr] theorem wmake_c {P d t s s' x x' ρ H K} (h:s=s') (h':x=x'):Mf P d t s x ρ H K=Mf P d t s' x' ρ H K:=h▸h'▸rfl
def L6(P:Program)(d:Option Tmp)(t:TypeId)(x y:AV)(ρ:Env)(H:aG)(K:Env->aG->Prop):Prop:=Qe P ⟨d,.move (.tmp 0),0,"",#[],none⟩ t x y ρ H K
@[congr] theorem wcopy_c {P d t s s' x x' ρ H K} (h:s=s') (h':x=x'):L6 P d t s x ρ H K=L6 P d t s' x' ρ H K:=h▸h'▸rfl
theorem aaC{P:Program}{d:Option Tmp}{t:TypeId}{x y:AV}{ρ:Env}{H:aG}{K:Env->aG->Prop}{e:TypeId}{sz u j a n:Nat}{r:Row}{news:List (List AV)}(he:bR P t=some (e,sz,u))(J:H j=some r)
   (hx:(x=.os j/\a=0/\n=r.es.length)\/∃b,x=.oz j a b/\n=b-a) (O:y=.sl news\/(∃i r',y=.os i/\H i=some r'/\r'.es=news)\/∃i r' p q,y=.oz i p q/\H i=some r'/\(r'.es.take q).drop p=news)
   (h1:r.sz=sz) (Z:cP sz news) (h:K (upd ρ d (.v (.int .i64 (min news.length n:Nat)))) (aI H j (some { r with es:=r.es.take a++news.take (min news.length n)++r.es.drop (a+min news.length n) }))):L6 P d t x y ρ H K:=by
 unfold L6 Qe;have T:∀F:List (List AV)->Prop,F news->vM H y F:=by
   intro F E;rcases O with rfl|⟨i,r',rfl,I,rfl⟩|⟨i,r',p,q,rfl,I,rfl⟩
   . exact E
   . simp only[vM,I];exact E
   . simp only[vM,I];exact E
 have M:∀F:Nat->Nat->Nat->Row->Prop,F j a n r->Fo H x F:=by
   intro F E;rcases hx with⟨rfl,rfl,rfl⟩|⟨b,rfl,rfl⟩
   . simp only[Fo,J];exact E
   . simp only[Fo,J];exact E
 refine M _ (T _ ?_);simp only[he];exact⟨⟨h1,Z⟩,h⟩
def Eh(P:Program)(d:Option Tmp)(t:TypeId)(x:AV)(ρ:Env)(H:aG)(K:Env->aG->Prop):Prop:=HV P ⟨d,.move (.tmp 0),0,"",#[],none⟩ t x ρ H K
@[congr] theorem wclear_c {P d t s s' ρ H K} (h:s=s'):Eh P d t s ρ H K=Eh P d t s' ρ H K:=h▸rfl
theorem Ws{P:Program}{d:Option Tmp}{t:TypeId}{x:AV}{ρ:Env}{H:aG}{K:Env->aG->Prop}{e:TypeId}{sz u j a n:Nat}{r:Row}{I:List AV}(O:bR P t=some (e,sz,u))(Z:dC P e=some I)(E:H j=some r)
   (T:(x=.os j/\a=0/\n=r.es.length)\/∃b,x=.oz j a b/\n=b-a) (h1:r.sz=sz) (h:K (upd ρ d .any) (aI H j (some { r with es:=r.es.take a++List.replicate n I++r.es.drop (a+n) }))):Eh P d t x ρ H K:=by
 unfold Eh HV;have M:∀F:Nat->Nat->Nat->Row->Prop,F j a n r->Fo H x F:=by
   intro F J;rcases T with⟨rfl,rfl,rfl⟩|⟨b,rfl,rfl⟩
   . simp only[Fo,E];exact J
   . simp only[Fo,E];exact J
 refine M _ ?_;simp only[O,Z];exact⟨h1,h⟩
theorem Qh{P:Program}{d:Option Tmp}{t:TypeId}{es:List (List AV)}{x:AV}{ρ:Env}{H:aG}{K:Env->aG->Prop}{e:TypeId}{sz u:Nat}{news:List (List AV)}(J:bR P t=some (e,sz,u))
   (M:x=.sl news\/∃i r',x=.os i/\H i=some r'/\r'.es=news) (h0:news≠[]) (h1:cP sz es) (I:cP sz news) (F:(es.length+news.length)*u<=140737488355328)
   (h:∀E,H E=none->K (upd ρ d (.os E)) (aI H E (some ⟨e,sz,es++news⟩))):H6 P d t (.cl es) x ρ H K:=by
 unfold H6 rH;simp only[J];rcases M with rfl|⟨i,r',rfl,O,rfl⟩
 . exact⟨⟨h0,h1,I,F⟩,h⟩
 . simp only[vM,O]
   exact⟨⟨h0,h1,I,F⟩,h⟩
theorem Vy{P:Program}{d:Option Tmp}{t:TypeId}{x:AV}{ρ:Env}{H:aG}{K:Env->aG->Prop}{e:TypeId}{sz u:Nat}{news:List (List AV)}(J:bR P t=some (e,sz,u))
   (M:x=.sl news\/∃i r',x=.os i/\H i=some r'/\r'.es=news) (h0:news≠[]) (I:cP sz news) (F:news.length*u<=140737488355328)
   (h:∀E,H E=none->K (upd ρ d (.os E)) (aI H E (some ⟨e,sz,news⟩))):H6 P d t (.v (.slice none 0 0)) x ρ H K:=by
 unfold H6 rH;simp only[J];rcases M with rfl|⟨i,r',rfl,O,rfl⟩
 . exact⟨⟨h0,trivial,I,by simpa using F⟩,h⟩
 . simp only[vM,O]
   exact⟨⟨h0,trivial,I,by simpa using F⟩,h⟩
theorem aM{H:aG}{r:Row}{F:Nat->aG->Prop}(h:∀j,H j=none->F j (aI H j (some r))):nL H r F:=h
def bK{α:Type}(o:Option α)(f:α->Prop):Prop:=match o with|some x=>f x|none=>False
theorem Ep{α:Type}{x:α}{f:α->Prop}:bK (some x) f=f x:=(rfl)
@[congr] theorem withO_c {α:Type} {o o':Option α} {f:α->Prop} (h:o=o'):bK o f=bK o' f:=h▸rfl
section
variable{P:Program}{C:kH}{PC:FuncId->List AV->aG->AV->Prop}{mt:Nat->Bool}{q:Bool}{ops:Array Oper}{d:Option Tmp}{ty:TypeId}{pos:String}{aft:Array Edge}{ρ:Env}{H:aG}{K:Env->aG->Prop}{G:Option Bool}{k:AV->Prop}
theorem QC{t}:aev ρ (.tmp t)=ρ t:=(rfl)
theorem FN{v}:aev ρ (.const v)=nY v:=(rfl)
theorem Kp{f}:aev ρ (.func f)=.v (.func (.func f) #[] #[]):=(rfl)
theorem JW{t n a b}:fP P G .add t (.v (.int n a)) (.v (.int n b)) k=k (.v (.int n (n.wrap (a+b)))):=by simp[fP,uN]
theorem Kh{t n a b}:fP P G .sub t (.v (.int n a)) (.v (.int n b)) k=k (.v (.int n (n.wrap (a-b)))):=by simp[fP,uN]
theorem KV{t n a b}:fP P G .mul t (.v (.int n a)) (.v (.int n b)) k=k (.v (.int n (n.wrap (a*b)))):=by simp[fP,uN]
theorem J9{t n a b}:fP P G .quo t (.v (.int n a)) (.v (.int n b)) k=((gt G->b≠0)/\k (.v (.int n (n.wrap (a.tdiv b))))):=by simp[fP,uN]
theorem Lx{t n a b}:fP P G .rem t (.v (.int n a)) (.v (.int n b)) k=((gt G->b≠0)/\k (.v (.int n (a.tmod b)))):=by simp[fP,uN]
theorem Kf{t n a b}:fP P G .eql t (.v (.int n a)) (.v (.int n b)) k=k (.v (.bool (a == b))):=by simp[fP,uN]
theorem Lb{t n a b}:fP P G .neq t (.v (.int n a)) (.v (.int n b)) k=k (.v (.bool (a != b))):=by simp[fP,uN]
theorem Mb{t n a b}:fP P G .lss t (.v (.int n a)) (.v (.int n b)) k=k (.v (.bool (decide (a<b)))):=by simp[fP,uN]
theorem Kl{t n a b}:fP P G .leq t (.v (.int n a)) (.v (.int n b)) k=k (.v (.bool (decide (a<=b)))):=by simp[fP,uN]
theorem Kg{t n a b}:fP P G .gtr t (.v (.int n a)) (.v (.int n b)) k=k (.v (.bool (decide (a>b)))):=by simp[fP,uN]
theorem JE{t n a b}:fP P G .geq t (.v (.int n a)) (.v (.int n b)) k=k (.v (.bool (decide (a>=b)))):=by simp[fP,uN]
theorem JA{t n m a b}:fP P G .shl t (.v (.int n a)) (.v (.int m b)) k=((gt G->0<=b)/\k (.v (.int n (shV .shl n a b)))):=by simp[fP,uN]
theorem KJ{t n m a b}:fP P G .shr t (.v (.int n a)) (.v (.int m b)) k=((gt G->0<=b)/\k (.v (.int n (shV .shr n a b)))):=by simp[fP,uN]
theorem JY{t n a b}:fP P G .and t (.v (.int n a)) (.v (.int n b)) k=k (.v (.int n (qI .and n a b))):=by simp[fP,uN]
theorem Qv{t n a b}:fP P G .or t (.v (.int n a)) (.v (.int n b)) k=k (.v (.int n (qI .or n a b))):=by simp[fP,uN]
theorem Ka{t n a b}:fP P G .xor t (.v (.int n a)) (.v (.int n b)) k=k (.v (.int n (qI .xor n a b))):=by simp[fP,uN]
theorem CE{t n a b}:fP P G .andNot t (.v (.int n a)) (.v (.int n b)) k=k (.v (.int n (qI .andNot n a b))):=by simp[fP,uN]
theorem FX{op t x}:fP P G op t (.v x) .any k=((gt G->False)/\k .any):=by cases x <;> rfl
theorem Gd{op t x}:fP P G op t .any (.v x) k=((gt G->False)/\k .any):=by cases x <;> rfl
theorem GD{x}:sM false .any (.v x)=.v x:=by cases x <;> rfl
theorem E0{x}:sM true (.v x) .any=.v x:=by cases x with
 | bool b=>cases b <;> rfl
 | _=>rfl
theorem F2{t a b}:fP P G .add t (.v (.string a)) (.v (.string b)) k=((gt G->((a.size+b.size:Nat):Int)<=IntKind.i64.max)/\k (.v (.string (a++b)))):=(rfl)
theorem GZ{t a b}:fP P G .eql t (.v (.string a)) (.v (.string b)) k=k (.v (.bool (a.toList == b.toList))):=(rfl)
theorem Gn{t a b}:fP P G .neq t (.v (.string a)) (.v (.string b)) k=k (.v (.bool !(a.toList == b.toList))):=(rfl)
theorem GL{t a b}:fP P G .eql t (.v (.bool a)) (.v (.bool b)) k=if xN P t then k (.v (.bool (a == b)))else False:=(rfl)
theorem Gw{t a b}:fP P G .neq t (.v (.bool a)) (.v (.bool b)) k=if xN P t then k (.v (.bool !(a == b)))else False:=(rfl)
theorem F3{t x y}:fP P G .eql t (.agg x) (.agg y) k=bK (vG P t) fun l=>bK (gA l x y) fun b=>k (.v (.bool b)):=by
 cases h1:vG P t with
 | none=>simp[fP,bK,h1]
 | some l=>cases u:gA l x y <;> simp[fP,bK,h1,u]
theorem GW{t x y}:fP P G .neq t (.agg x) (.agg y) k=bK (vG P t) fun l=>bK (gA l x y) fun b=>k (.v (.bool !b)):=by
 cases h1:vG P t with
 | none=>simp[fP,bK,h1]
 | some l=>cases u:gA l x y <;> simp[fP,bK,h1,u]
theorem Ll{c x y}:yO G c (.v x) (.v y) k=k (sM c (.v x) (.v y)):=(rfl)
theorem KO{c x g y}:yO G c (.v x) (.gd g y) k=((gt G->c=false->g=true)/\k (sM c (.v x) y)):=(rfl)
theorem JS{c g x y}:yO G c (.gd g x) (.v y) k=((gt G->c=true->g=true)/\k (sM c x (.v y))):=(rfl)
theorem QL{c b}:sM c (.v (.bool true)) (.v (.bool b))=.v (.bool (c||b)):=(rfl)
theorem PK{c a}:sM c (.v (.bool a)) (.v (.bool false))=.v (.bool (c&&a)):=by cases a <;> cases c <;> rfl
theorem Gm{cs o}:mU G H none (.rp cs o) k=((gt G->o<cs.length)/\k (cs.getD o .any)):=(rfl)
theorem Gb{cs o n}:mU G H (some n) (.rp cs o) k=((gt G->o+n<=cs.length)/\k (.agg ((cs.drop o).take n))):=(rfl)
theorem Gs{j i f}:mU G H none (.op j i f) k=bK (H j) fun r=>(gt G->i<r.es.length/\f<r.sz)/\k ((r.es.getD i []).getD f .any):=by
 cases h1:H j <;> simp[mU,bK,h1]
theorem GA{j i f n}:mU G H (some n) (.op j i f) k=bK (H j) fun r=>(gt G->i<r.es.length/\f+n<=r.sz)/\k (.agg (((r.es.getD i []).drop f).take n)):=by
 cases h1:H j <;> simp[mU,bK,h1]
theorem Qm{o cs}:apart G o none (.agg cs) k=((gt G->o<cs.length)/\k (cs.getD o .any)):=(rfl)
theorem P2{o n cs}:apart G o (some n) (.agg cs) k=((gt G->o+n<=cs.length)/\k (.agg ((cs.drop o).take n))):=(rfl)
theorem Qx{t es}:Ft P H t (.sl es) k=if bY P t then k (.v (.int .i64 es.length))else False:=(rfl)
theorem Qz{t j}:Ft P H t (.os j) k=bK (H j) fun r=>if bY P t then k (.v (.int .i64 r.es.length))else False:=by
 cases h1:H j <;> simp[Ft,bK,h1]
theorem Qb{t s}:Ft P H t (.v (.string s)) k=if dJ P t then k (.v (.int .i64 s.size))else False:=(rfl)
theorem yB{t es n i}:eO P G H t (.sl es) (.v (.int n i)) k=bK (bR P t) fun e=>(gt G->(0<=i/\i<es.length)/\(es.getD i.toNat []).length=e.2.1)/\k (.rp (es.getD i.toNat []) 0):=by
 cases h1:bR P t <;> simp[eO,bK,h1]
theorem yL{t j n i}:eO P G H t (.os j) (.v (.int n i)) k=bK (H j) fun r=>bK (bR P t) fun e=>(gt G->(0<=i/\i<r.es.length)/\r.sz=e.2.1)/\k (.op j i.toNat 0):=by
 cases h1:H j <;> cases u:bR P t <;> simp[eO,bK,h1,u]
theorem yP{t cs o n i}:eO P G H t (.rp cs o) (.v (.int n i)) k=bK (rM P t) fun e=>(gt G->0<=i/\i<e.1)/\k (.rp cs (o+i.toNat*e.2.1)):=by
 cases h1:rM P t <;> simp[eO,bK,h1]
theorem yI{t j a o n i}:eO P G H t (.op j a o) (.v (.int n i)) k=bK (rM P t) fun e=>(gt G->0<=i/\i<e.1)/\k (.op j a (o+i.toNat*e.2.1)):=by
 cases h1:rM P t <;> simp[eO,bK,h1]
theorem yH{t f cs o}:iG P t f (.rp cs o) k=bK (aL P t f) fun e=>k (.rp cs (o+e.1)):=by
 cases h1:aL P t f <;> simp[iG,bK,h1]
theorem yF{t f j i o}:iG P t f (.op j i o) k=bK (aL P t f) fun e=>k (.op j i (o+e.1)):=by
 cases h1:aL P t f <;> simp[iG,bK,h1]
theorem Qd{b}:aun .not (.v (.bool b)) k=k (.v (.bool !b)):=(rfl)
theorem QB{n i}:aun .neg (.v (.int n i)) k=k (.v (.int n (n.wrap (0-i)))):=(rfl)
theorem FV{s t n i}:uZ P s t (.v (.int n i)) k=bK (Ew P t) fun m=>bK (Ew P s) fun _=>k (.v (.int m (m.wrap i))):=by
 cases h1:Ew P t <;> cases u:Ew P s <;> simp[uZ,bK,h1,u]
theorem GV{s t x}:uZ P s t (.v (.string x)) k=if dJ P s/\dJ P t then k (.v (.string x))else False:=(rfl)
theorem LG{s t es}:uZ P s t (.sl es) k=if Br P s/\dJ P t then bK (oI es) fun ns=>k (.v (.string (strOfNums ns)))else False:=by
 by_cases u:Br P s/\dJ P t
 . cases h1:oI es <;> simp[uZ,bK,u,h1]
 . simp[uZ,u]
theorem Hi{t es n a m b}:kT P G t (.sl es) (some (.v (.int n a))) (some (.v (.int m b))) k=bK (bR P t) fun e=>(gt G->(0<=a/\a<=b/\b<=es.length)/\cP e.2.1 es)/\k (.sl ((es.take b.toNat).drop a.toNat)):=by
 cases h1:bR P t <;> simp[kT,bK,h1]
theorem K6{t es n a}:kT P G t (.sl es) (some (.v (.int n a))) none k=bK (bR P t) fun e=>(gt G->(0<=a/\a<=es.length)/\cP e.2.1 es)/\k (.sl (es.drop a.toNat)):=by
 cases h1:bR P t <;> simp[kT,bK,h1]
theorem Lv{t es m b}:kT P G t (.sl es) none (some (.v (.int m b))) k=bK (bR P t) fun _=>(gt G->0<=b/\b<=es.length)/\k (.sl (es.take b.toNat)):=by
 cases h1:bR P t <;> simp[kT,bK,h1]
theorem DD{t s n a m b}:kT P G t (.v (.string s)) (some (.v (.int n a))) (some (.v (.int m b))) k=if dJ P t then(gt G->0<=a/\a<=b/\b<=s.size)/\k (.v (.string (s.extract a.toNat b.toNat)))else False:=(rfl)
theorem GR{t s n a}:kT P G t (.v (.string s)) (some (.v (.int n a))) none k=if dJ P t then(gt G->0<=a/\a<=s.size)/\k (.v (.string (s.extract a.toNat s.size)))else False:=(rfl)
theorem Hq{t s m b}:kT P G t (.v (.string s)) none (some (.v (.int m b))) k=if dJ P t then(gt G->0<=b/\b<=s.size)/\k (.v (.string (s.extract 0 b.toNat)))else False:=(rfl)
theorem K8{P:Program}{t es n m}{a b:Int}:CR P G t (.sl es) (.v (.int n a)) (.v (.int m b)) k=bK (bR P t) fun _=>(gt G->a=es.length/\b=es.length)/\k (.cl es):=by
 unfold CR bK;cases bR P t <;> rfl
@[congr] theorem aclip_c {P:Program} {t x x' a a' b b'} (h:x=x') (h1:a=a') (h2:b=b'):CR P G t x a b k=CR P G t x' a' b' k:=h▸h1▸h2▸rfl
theorem Gj{t s n i}:tR P G t (.v (.string s)) (.v (.int n i)) k=if dJ P t then(gt G->0<=i/\i<s.size)/\k (.v (.int .u8 ((s.data.getD i.toNat 0).toNat:Int)))else False:=(rfl)
theorem GT{t cs n i}:tR P G t (.agg cs) (.v (.int n i)) k=bK (rM P t) fun e=>(gt G->0<=i/\i<e.1)/\apart G (i.toNat*e.2.1) e.2.2 (.agg cs) k:=by
 cases h1:rM P t <;> simp[tR,bK,h1]
theorem Dz{cs}{k:List AV->Prop}:kS (.agg cs) k=k cs:=(rfl)
theorem KW{v}{k:List AV->Prop}:kS (.v v) k=(v.oneCell'=true/\k [.v v]):=(rfl)
theorem Hs{es}{k:List AV->Prop}:kS (.sl es) k=k [.sl es]:=(rfl)
theorem Gg{cs o}{k:List AV->Prop}:kS (.rp cs o) k=k [.rp cs o]:=(rfl)
theorem Hg{j}{k:List AV->Prop}:kS (.os j) k=k [.os j]:=(rfl)
theorem GH{j i f}{k:List AV->Prop}:kS (.op j i f) k=k [.op j i f]:=(rfl)
theorem GQ{t l}:tY P t l k=bK (dC P t) fun z=>bK (dN P t) fun u=>bK (oL u z l) fun cs=>k (.agg cs):=by
 cases h1:dC P t with
 | none=>simp[tY,bK,h1]
 | some z=>cases E:dN P t with
   | none=>simp[tY,bK,h1,E]
   | some u=>cases F:oL u z l <;> simp[tY,bK,h1,E,F]
def wgd(x:AV)(w:Bool)(F:Option Bool->Prop):Prop:=match x with
 | .v (.bool b)=>F (some (b == w))
 | .gd g (.v (.bool b))=>F (some (g&&(b == w)))
 | _=>False
@[congr] theorem wgd_c {x x' w F} (h:x=x'):wgd x w F=wgd x' w F:=h▸rfl
theorem abX{b w F}:wgd (.v (.bool b)) w F=F (some (b == w)):=(rfl)
theorem abA{g b w F}:wgd (.gd g (.v (.bool b))) w F=F (some (g&&(b == w))):=(rfl)
theorem Ch{F}:bX ops ρ none F=F none:=(rfl)
theorem Cx{j w F}:bX ops ρ (some (j,w)) F=bK ((ops[j]?).bind (·.dst)) fun t=>wgd (ρ t) w F:=by
 cases h1:(ops[j]?).bind (·.dst)with
 | none=>simp[bX,bK,h1]
 | some t=>simp only[bX,bK,h1,wgd]
def kJ(K:Env->aG->Prop)(ρ:Env)(d:Option Tmp)(G:Option Bool)(H:aG)(x:AV):Prop:=K (upd ρ d (wr G x)) H
theorem Gt{x}:kJ K ρ d none H x=K (upd ρ d x) H:=(rfl)
theorem Gr{b x}:kJ K ρ d (some b) H x=K (upd ρ d (.gd b x)) H:=(rfl)
end
section
variable{P:Program}{C:kH}{PC:FuncId->List AV->aG->AV->Prop}{mt:Nat->Bool}{q:Bool}{ops:Array Oper}{d:Option Tmp}{ty:TypeId}{pos:String}{aft:Array Edge}{gd:Option (Nat×Bool)}{ρ:Env}{H:aG}{K:Env->aG->Prop}
theorem Up{x}:aop P C PC mt q ops ⟨d,.move x,ty,pos,aft,gd⟩ ρ H K=bX ops ρ gd fun G=>if oS mt d=true then G=none/\q=false/\xK x ρ d H K else bP G (aev ρ x) (kJ K ρ d G H):=(rfl)
theorem W9{c a b}:aop P C PC mt q ops ⟨d,.pick c a b,ty,pos,aft,gd⟩ ρ H K=bX ops ρ gd fun G=>bP G (aev ρ c) fun x=>wpick G x (aev ρ a) (aev ρ b) (kJ K ρ d G H):=(rfl)
theorem ST{t l}: aop P C PC mt q ops ⟨d, .build t l, ty, pos, aft, gd⟩ ρ H K = bX ops ρ gd fun G => if oS mt d = true then G = none /\ (if q = true then nS none ρ l.toList (fun l => bK (dC P t) fun z => bK (dN P t) fun u => bK (pN P t) fun nl => bK (oL u (Gl nl z) l) fun cs => kJ K ρ d none H (.agg cs)) else
     nS none ρ l.toList (fun l=>bK (dC P t) fun z=>bK (dN P t) fun u=>bK (pN P t) fun nl=>iR nl z H fun z H=>bK (oL u z l) fun cs=>kJ K ρ d none H (.agg cs)))
   else nS G ρ l.toList fun l=>tY P t l (kJ K ρ d G H):=by
 show bX ops ρ gd (fun G=>if oS mt d=true then G=none/\(if q=true then xU P ⟨d,.build t l,ty,pos,aft,gd⟩ t l.toList ρ H K else AZ P ⟨d,.build t l,ty,pos,aft,gd⟩ t l.toList ρ H K)else _)=_
 congr 1;funext G;congr 3
 . unfold xU
   congr 1;funext l
   cases h1:dC P t with
   | none=>simp[bK]
   | some z=>cases E:dN P t with
     | none=>simp[bK]
     | some u=>cases F:pN P t with
       | none=>simp[bK]
       | some nl=>simp only[bK];cases I:oL u (Gl nl z) l <;> rfl
 unfold AZ
 congr 1;funext l
 cases h1:dC P t with
 | none=>simp[bK]
 | some z=>cases E:dN P t with
   | none=>simp[bK]
   | some u=>cases F:pN P t with
     | none=>simp[bK]
     | some nl=>simp only[bK];congr 1;funext z H;cases I:oL u z l <;> rfl
theorem UV{t x}:aop P C PC mt q ops ⟨d,.load t x,ty,pos,aft,gd⟩ ρ H K=bX ops ρ gd fun G=>if oS mt d=true then G=none/\q=false/\bK (ldT P t) fun l=>bP none (aev ρ x) fun y=>mU none H l y fun z=>F6 z ρ d H K else bK (ldT P t) fun l=>bP G (aev ρ x) fun y=>mU G H l y (kJ K ρ d G H):=by
 show bX ops ρ gd (fun G=>if oS mt d=true then G=none/\q=false/\fT P none ρ H (.load t x) fun z=>F6 z ρ d H K else fT P G ρ H (.load t x) (kJ K ρ d G H))=_
 congr 1;funext G;cases h1:ldT P t <;> simp[fT,bK,h1]
theorem II{x}:aop P C PC mt q ops ⟨d,.nilCheck x,ty,pos,aft,gd⟩ ρ H K=bX ops ρ gd fun G=>bP G (aev ρ x) fun y=>WZ y (kJ K ρ d G H):=(rfl)
theorem ZI{op t x y t'}:aop P C PC mt q ops ⟨d,.binOp op t x y t',ty,pos,aft,gd⟩ ρ H K=bX ops ρ gd fun G=>if pV y=true then bP G (aev ρ x) fun x=>bY P t=true/\oF op x (kJ K ρ d G H)else bP G (aev ρ x) fun x=>bP G (aev ρ y) fun y=>fP P G op t x y (kJ K ρ d G H):=(rfl)
theorem acK{op t x}:aop P C PC mt q ops ⟨d,.unOp op t x,ty,pos,aft,gd⟩ ρ H K=bX ops ρ gd fun G=>bP G (aev ρ x) fun x=>aun op x (kJ K ρ d G H):=(rfl)
theorem VT{s t x}:aop P C PC mt q ops ⟨d,.convert s t x,ty,pos,aft,gd⟩ ρ H K=bX ops ρ gd fun G=>bP G (aev ρ x) fun x=>uZ P s t x (kJ K ρ d G H):=(rfl)
theorem HR{t x lo u}:aop P C PC mt q ops ⟨d,.slice t x (some lo) (some u) none,ty,pos,aft,gd⟩ ρ H K=bX ops ρ gd fun G=>bP G (aev ρ x) fun x=>bP G (aev ρ lo) fun lo=>bP G (aev ρ u) fun u=>asl P G H t x (some lo) (some u) (kJ K ρ d G H):=(rfl)
theorem JZ{t x u m}:aop P C PC mt q ops ⟨d,.slice t x none (some u) (some m),ty,pos,aft,gd⟩ ρ H K=bX ops ρ gd fun G=>bP G (aev ρ x) fun x=>bP G (aev ρ u) fun u=>bP G (aev ρ m) fun m=>CR P G t x u m (kJ K ρ d G H):=(rfl)
theorem KY{t x lo}:aop P C PC mt q ops ⟨d,.slice t x (some lo) none none,ty,pos,aft,gd⟩ ρ H K=bX ops ρ gd fun G=>bP G (aev ρ x) fun x=>bP G (aev ρ lo) fun lo=>asl P G H t x (some lo) none (kJ K ρ d G H):=(rfl)
theorem L9{t x u}:aop P C PC mt q ops ⟨d,.slice t x none (some u) none,ty,pos,aft,gd⟩ ρ H K=bX ops ρ gd fun G=>bP G (aev ρ x) fun x=>bP G (aev ρ u) fun u=>asl P G H t x none (some u) (kJ K ρ d G H):=(rfl)
theorem Fy{t x f}:aop P C PC mt q ops ⟨d,.fieldAddr t x f,ty,pos,aft,gd⟩ ρ H K=bX ops ρ gd fun G=>bP G (aev ρ x) fun x=>iG P t f x (kJ K ρ d G H):=(rfl)
theorem Ta{t x f}:aop P C PC mt q ops ⟨d,.field t x f,ty,pos,aft,gd⟩ ρ H K=bX ops ρ gd fun G=>bK (aL P t f) fun e=>bP G (aev ρ x) fun x=>apart G e.1 e.2 x (kJ K ρ d G H):=by
 show bX ops ρ gd (fun G=>fT P G ρ H (.field t x f) (kJ K ρ d G H))=_
 congr 1;funext G;cases h1:aL P t f <;> simp[fT,bK,h1]
theorem Fv{t x i}:aop P C PC mt q ops ⟨d,.indexAddr t x i,ty,pos,aft,gd⟩ ρ H K=bX ops ρ gd fun G=>bP G (aev ρ x) fun x=>bP G (aev ρ i) fun i=>eO P G H t x i (kJ K ρ d G H):=(rfl)
theorem Q8{t x i}:aop P C PC mt q ops ⟨d,.index t x i,ty,pos,aft,gd⟩ ρ H K=bX ops ρ gd fun G=>bP G (aev ρ x) fun x=>bP G (aev ρ i) fun i=>tR P G t x i (kJ K ρ d G H):=(rfl)
theorem KC{x i}:aop P C PC mt q ops ⟨d,.extract x i,ty,pos,aft,gd⟩ ρ H K=bX ops ρ gd fun G=>bP G (aev ρ x) fun x=>XN G x i (kJ K ρ d G H):=(rfl)
theorem Ny{x}:aop P C PC mt q ops ⟨d,.assign x,ty,pos,aft,gd⟩ ρ H K=bX ops ρ gd fun G=>if oS mt d=true/\G=none/\q=false/\pV x=true then bK (bR P ty) fun e=>nL H ⟨e.1,e.2.1,[]⟩ (Qy K ρ d)else bP G (aev ρ x) (kJ K ρ d G H):=by
 show bX ops ρ gd (fun G=>A0 P mt q G ⟨d,.assign x,ty,pos,aft,gd⟩ x ρ H K)=_
 congr 1;funext G
 unfold A0;cases h1:bR P ty <;> rfl
theorem Rf{t}:aop P C PC mt q ops ⟨d,.alloc t,ty,pos,aft,gd⟩ ρ H K=bX ops ρ gd fun G=>bK (dC P t) fun z=>G=none/\q=false/\(if oS mt d=true then bK (pN P t) fun nl=>iR nl z H fun z H=>nL H ⟨t,z.length,[z]⟩ (PW K ρ d)else nL H ⟨t,z.length,[z]⟩ (PW K ρ d)):=by
 show bX ops ρ gd (fun G=>match dC P t with
   | some z => G = none /\ q = false /\ (if oS mt d = true then match pN P t with
       | some nl=>iR nl z H fun z H=>nL H ⟨t,z.length,[z]⟩ fun k H'=>K (upd ρ d (.op k 0 0)) H'
       | none=>False
     else nL H ⟨t,z.length,[z]⟩ fun k H'=>K (upd ρ d (.op k 0 0)) H')
   | none=>False)=_
 congr 1;funext G;cases h1:dC P t <;> cases u:pN P t <;> rfl
theorem Xv{t x}:aop P C PC mt q ops ⟨d,.box t x,ty,pos,aft,gd⟩ ρ H K=bX ops ρ gd fun G=>G=none/\q=false/\bP G (aev ρ x) fun x=>kS x fun cs=>
 if oS mt d=true then 0<cs.length/\nL H ⟨t,cs.length,[cs]⟩ (PW K ρ d)else K (upd ρ d (.rp cs 0)) H:=(rfl)
theorem DN{t n l}:aop P C PC mt q ops ⟨d,.buildSlice t n l,ty,pos,aft,gd⟩ ρ H K=bX ops ρ gd fun G=>q=false/\nS G ρ l.toList fun l=>bK (bR P t) fun e=>
   (l.map (·.1)=IY 0 n/\cP e.2.1 (l.map (·.2))/\n*e.2.1<=16777216)/\(if oS mt d=true/\G=none then nL H ⟨e.1,e.2.1,l.map (·.2)⟩ (Qy K ρ d)else kJ K ρ d G H (.sl (l.map (·.2)))):=by
 show bX ops ρ gd (fun G=>q=false/\nS G ρ l.toList fun l'=>lT P mt G ⟨d,.buildSlice t n l,ty,pos,aft,gd⟩ t n l' ρ H K)=_
 congr 1;funext G;congr 2;funext l;unfold lT;cases h1:bR P t <;> rfl
theorem RF{t x y}:aop P C PC mt q ops ⟨d,.store t x y,ty,pos,aft,gd⟩ ρ H K=bX ops ρ gd fun G=>G=none/\q=false/\(if pV y=true then bP G (aev ρ x) fun x=>bK (bR P t) fun e=>nL H ⟨e.1,e.2.1,[]⟩ (fun j H=>Tv P d t x [.os j] ρ H K)else bP G (aev ρ x) fun x=>bP G (aev ρ y) fun y=>kS y fun cs=>Tv P d t x cs ρ H K):=by
 show bX ops ρ gd (fun G => G = none /\ q = false /\ (if pV y = true then bP G (aev ρ x) fun a => match bR P t with
       | some (e,sz,_)=>nL H ⟨e,sz,[]⟩ fun k H=>qK P _ t a [.os k] ρ H K
       | none=>False
     else bP G (aev ρ x) fun a=>bP G (aev ρ y) fun x=>kS x fun cs=>qK P _ t a cs ρ H K))=_
 congr 1;funext G;congr 4;funext a
 cases h1:bR P t <;> rfl
theorem Wp:vS P C PC mt ops K [] ρ H=K ρ H:=(rfl)
theorem aeO{k f}:vS P C PC mt ops K ((k,true)::f) ρ H=bK ops[k]? fun o=>aop P C PC mt true ops o ρ (qH o H) fun u _=>vS P C PC mt ops K f u H:=by
 cases h:ops[k]? <;> simp[vS,bK,h]
theorem acO{k f}:vS P C PC mt ops K ((k,false)::f) ρ H=bK ops[k]? fun o=>aop P C PC mt false ops o ρ H (vS P C PC mt ops K f):=by
 cases h:ops[k]? <;> simp[vS,bK,h]
theorem QX{Hp}:nV P C PC mt ops K Hp [] ρ H=K ρ H:=(rfl)
theorem Zh{Hp k f}:nV P C PC mt ops K Hp ((k,true)::f) ρ H=bK ops[k]? fun o=>aop P C PC mt true ops o ρ Hp fun u _=>nV P C PC mt ops K Hp f u H:=by
 cases h:ops[k]? <;> simp[nV,bK,h]
theorem ZW{Hp k f}:nV P C PC mt ops K Hp ((k,false)::f) ρ H=bK ops[k]? fun o=>aop P C PC mt false ops o ρ H (nV P C PC mt ops K Hp f):=by
 cases h:ops[k]? <;> simp[nV,bK,h]
theorem adH{k}:zP P C PC mt q ops k ρ H K=bK ops[k]? fun o=>aop P C PC mt q ops o ρ H K:=by
 cases h:ops[k]? <;> simp[zP,bK,h]
theorem RI{Hp}:lC P C PC mt ops K Hp .nil ρ H=K ρ H:=(rfl)
theorem XO{Hp k t}:lC P C PC mt ops K Hp (.q k t) ρ H=zP P C PC mt true ops k ρ Hp fun u _=>lC P C PC mt ops K Hp t u H:=(rfl)
theorem YN{Hp k t}:lC P C PC mt ops K Hp (.a1 k t) ρ H=zP P C PC mt false ops k ρ H (lC P C PC mt ops K Hp t):=(rfl)
theorem lA{Hp k t k' t'}(h:zP P C PC mt false ops k ρ H (lC P C PC mt ops K Hp t))(u:zP P C PC mt false ops k' ρ H (lC P C PC mt ops K Hp t')):lC P C PC mt ops K Hp (.a2 k t k' t') ρ H:=⟨h,u⟩
theorem HE{f cap}:aop P C PC mt q ops ⟨d,.makeFunc (.func f) #[] cap,ty,pos,aft,gd⟩ ρ H K=bX ops ρ gd fun G=>yJ G ρ cap.toList fun l=>kJ K ρ d G H (.fn f l):=by
 show bX ops ρ gd (fun G=>fT P G ρ H (.makeFunc (.func f) #[] cap) (kJ K ρ d G H))=_
 congr 1;funext G;simp[fT]
def abV(K:Env->aG->Prop)(ρ:Env)(d:Option Tmp)(j:Nat)(H:aG):Prop:=K (upd ρ d (.om j)) H
theorem Jr{j}:abV K ρ d j H=K (upd ρ d (.om j)) H:=(rfl)
theorem OS{t x i ok}:aop P C PC mt q ops ⟨d,.lookup t x i ok,ty,pos,aft,gd⟩ ρ H K=bX ops ρ gd fun G=>bP G (aev ρ x) fun x=>bP G (aev ρ i) fun i=>qO P H t x i ok (kJ K ρ d G H):=(rfl)
theorem Ls{t}:aop P C PC mt q ops ⟨d,.makeMap t none,ty,pos,aft,gd⟩ ρ H K=bX ops ρ gd fun G=>G=none/\q=false/\nL H ⟨0,2,[]⟩ (abV K ρ d):=(rfl)
def Hd(P:Program)(d:Option Tmp)(t:TypeId)(m x v:AV)(ρ:Env)(H:aG)(K:Env->aG->Prop):Prop:=kD P ⟨d,.move (.tmp 0),0,"",#[],none⟩ t m x v ρ H K
@[congr] theorem wmapU_c {P d t m m' x x' v v' ρ H K} (h0:m=m') (h1:x=x') (h2:v=v'):Hd P d t m x v ρ H K=Hd P d t m' x' v' ρ H K:=h0▸h1▸h2▸rfl
def UX(P:Program)(d:Option Tmp)(t:TypeId)(m x:AV)(ρ:Env)(H:aG)(K:Env->aG->Prop):Prop:=xI P ⟨d,.move (.tmp 0),0,"",#[],none⟩ t m x ρ H K
@[congr] theorem wmapE_c {P d t m m' x x' ρ H K} (h0:m=m') (h1:x=x'):UX P d t m x ρ H K=UX P d t m' x' ρ H K:=h0▸h1▸rfl
def UT(d:Option Tmp)(m s v:AV)(ρ:Env)(H:aG)(K:Env->aG->Prop):Prop:=rF ⟨d,.move (.tmp 0),0,"",#[],none⟩ m s v ρ H K
@[congr] theorem wmapS_c {d m m' x x' v v' ρ H K} (h0:m=m') (h1:x=x') (h2:v=v'):UT d m x v ρ H K=UT d m' x' v' ρ H K:=h0▸h1▸h2▸rfl
@[congr] theorem alookup_c {P H t x x' i i' ok k} (h0:x=x') (h1:i=i'):qO P H t x i ok k=qO P H t x' i' ok k:=h0▸h1▸rfl
theorem Fh{t m x v}:aop P C PC mt q ops ⟨d,.mapUpdate t m x v,ty,pos,aft,gd⟩ ρ H K=bX ops ρ gd fun G=>G=none/\q=false/\bP G (aev ρ m) fun m=>bP G (aev ρ x) fun x=>bP G (aev ρ v) fun v=>Hd P d t m x v ρ H K:=(rfl)
theorem MS{t m x v}:aop P C PC mt q ops ⟨d,.insert t m x v,ty,pos,aft,gd⟩ ρ H K=bX ops ρ gd fun G=>G=none/\q=false/\bP G (aev ρ m) fun m=>bP G (aev ρ x) fun x=>bP G (aev ρ v) fun v=>Hd P d t m x v ρ H K:=(rfl)
theorem HJ{t m x}:aop P C PC mt q ops ⟨d,.mapEntry t m x,ty,pos,aft,gd⟩ ρ H K=bX ops ρ gd fun G=>G=none/\q=false/\bP G (aev ρ m) fun m=>bP G (aev ρ x) fun x=>UX P d t m x ρ H K:=(rfl)
theorem Eb{t m s v}:aop P C PC mt q ops ⟨d,.entryStore t m s v,ty,pos,aft,gd⟩ ρ H K=bX ops ρ gd fun G=>G=none/\q=false/\bP G (aev ρ m) fun m=>bP G (aev ρ s) fun s=>bP G (aev ρ v) fun v=>UT d m s v ρ H K:=(rfl)
theorem Bz{t j key ok k r kt oi z}(u:H j=some r)(F:N0 P t=some kt)(E:lD P kt.1 key=true)(I:qP (oB P kt.1 key) r.es 0=some oi)(J:GY P kt.2=some z)(h:k (Ee ok z r.es oi)):qO P H t (.om j) key ok k:=by
 unfold qO Cc;simp only[u,F,I,J];exact⟨E,h⟩
theorem Hz{t j key v r kt oi}(u:H j=some r)(F:N0 P t=some kt)(E:lD P kt.1 key=true)(I:qP (oB P kt.1 key) r.es 0=some oi)(h:K (upd ρ d .any) (aI H j (some { r with es:=RZ r.es oi key v }))):Hd P d t (.om j) key v ρ H K:=by
 unfold Hd kD Cc;simp only[u,F,I];exact⟨E,h⟩
theorem FH{t l c}:aop P C PC mt q ops ⟨d,.makeSlice t l c,ty,pos,aft,gd⟩ ρ H K=bX ops ρ gd fun G=>G=none/\q=false/\bP G (aev ρ l) fun l=>bP G (aev ρ c) fun c=>Mf P d t l c ρ H K:=(rfl)
theorem Q9{t args tys}:aop P C PC mt q ops ⟨d,.call ⟨.value (.tmp t),args,tys⟩,ty,pos,aft,gd⟩ ρ H K=bX ops ρ gd fun G=>bP G (ρ t) fun x=>bK (LA x) fun y=>if oS mt d=true then G=none/\q=false/\aC P y.1=true/\C y.1 (y.2.1++args.toList.map (HA ρ)++y.2.2) H (K3 K ρ d)else yJ G ρ args.toList fun l=>
   aC P y.1=true/\(if G=none/\q=false then C y.1 (y.2.1++l++y.2.2) H (K3 K ρ d)else ∃r,(gt G->PC y.1 (y.2.1++l++y.2.2) H r)/\nfq q r (kJ K ρ d G H)):=by
 show bX ops ρ gd (fun G=>Ah P C PC (oS mt d) q G ⟨d,.call ⟨.value (.tmp t),args,tys⟩,ty,pos,aft,gd⟩ ⟨.value (.tmp t),args,tys⟩ ρ H K)=_
 congr 1;funext G
 simp only[Ah,aev]
 congr 1;funext x
 cases h:LA x with
 | none=>simp[bK]
 | some y=>obtain⟨a,b,c⟩:=y;rfl
theorem WG{f args tys}:aop P C PC mt q ops ⟨d,.call ⟨.value (.func f),args,tys⟩,ty,pos,aft,gd⟩ ρ H K=bX ops ρ gd fun G=>if oS mt d=true then G=none/\q=false/\aC P f=true/\C f (args.toList.map (HA ρ)) H (K3 K ρ d)else yJ G ρ args.toList fun l=>
   aC P f=true/\(if G=none/\q=false then C f l H (K3 K ρ d)else ∃r,(gt G->PC f l H r)/\nfq q r (kJ K ρ d G H)):=by
 show bX ops ρ gd (fun G=>Ah P C PC (oS mt d) q G ⟨d,.call ⟨.value (.func f),args,tys⟩,ty,pos,aft,gd⟩ ⟨.value (.func f),args,tys⟩ ρ H K)=_
 congr 1;funext G
 simp only[Ah,aev,bP,LA,List.map_nil,List.nil_append,List.append_nil];rfl
theorem Jp{t}:HA ρ (.tmp t)=ρ t:=(rfl)
theorem E9{v}:HA ρ (.const v)=.v v:=(rfl)
theorem Hv{f}:HA ρ (.func f)=.v (.func (.func f) #[] #[]):=(rfl)
theorem Yd{x t}:aop P C PC mt q ops ⟨d,.call ⟨.builtin .len,#[x],#[t]⟩,ty,pos,aft,gd⟩ ρ H K=bX ops ρ gd fun G=>bP G (aev ρ x) fun x=>Ft P H t x (kJ K ρ d G H):=(rfl)
theorem YH{x y t t'}:aop P C PC mt q ops ⟨d,.call ⟨.builtin .max,#[x,y],#[t,t']⟩,ty,pos,aft,gd⟩ ρ H K=bX ops ρ gd fun G=>bP G (aev ρ x) fun x=>bP G (aev ρ y) fun y=>MN x y (kJ K ρ d G H):=(rfl)
theorem XS{x y t t'}:aop P C PC mt q ops ⟨d,.call ⟨.builtin .min,#[x,y],#[t,t']⟩,ty,pos,aft,gd⟩ ρ H K=bX ops ρ gd fun G=>bP G (aev ρ x) fun x=>bP G (aev ρ y) fun y=>Pe x y (kJ K ρ d G H):=(rfl)
theorem Wv{n m a b}{k:AV->Prop}:MN (.v (.int n a)) (.v (.int m b)) k=k (.v (.int n (jW a b))):=(rfl)
theorem VC{n m a b}{k:AV->Prop}:Pe (.v (.int n a)) (.v (.int m b)) k=k (.v (.int n (ZH a b))):=(rfl)
theorem WS{x y t t'}:aop P C PC mt q ops ⟨d,.call ⟨.builtin .copy,#[x,y],#[t,t']⟩,ty,pos,aft,gd⟩ ρ H K=bX ops ρ gd fun G=>bP G (aev ρ x) fun x=>bP G (aev ρ y) fun y=>
 if G=none/\q=false then L6 P d t x y ρ H K else False:=(rfl)
theorem Tw{x t}:aop P C PC mt q ops ⟨d,.call ⟨.builtin .clear,#[x],#[t]⟩,ty,pos,aft,gd⟩ ρ H K=bX ops ρ gd fun G=>bP G (aev ρ x) fun x=>
 if G=none/\q=false then Eh P d t x ρ H K else False:=(rfl)
theorem VP{G:Option Bool}{k:AV->Prop}{t es lo hi}:asl P G H t (.sl es) lo hi k=kT P G t (.sl es) lo hi k:=(rfl)
theorem acA{G:Option Bool}{k:AV->Prop}{t v lo hi}:asl P G H t (.v v) lo hi k=kT P G t (.v v) lo hi k:=(rfl)
theorem Uz{G:Option Bool}{k:AV->Prop}{t j n a m b}:asl P G H t (.os j) (some (.v (.int n a))) (some (.v (.int m b))) k=bK (H j) fun r=>bK (bR P t) fun e=>(gt G->(0<=a/\a<=b/\b<=r.es.length)/\r.sz=e.2.1)/\k (.oz j a.toNat b.toNat):=by
 cases h1:H j <;> cases u:bR P t <;> simp[asl,bK,h1,u]
theorem aaY{G:Option Bool}{k:AV->Prop}{t j n a}:asl P G H t (.os j) (some (.v (.int n a))) none k=bK (H j) fun r=>bK (bR P t) fun e=>(gt G->(0<=a/\a<=r.es.length)/\r.sz=e.2.1)/\k (.oz j a.toNat r.es.length):=by
 cases h1:H j <;> cases u:bR P t <;> simp[asl,bK,h1,u]
theorem abQ{G:Option Bool}{k:AV->Prop}{t j m b}:asl P G H t (.os j) none (some (.v (.int m b))) k=bK (H j) fun r=>bK (bR P t) fun e=>(gt G->(0<=b/\b<=r.es.length)/\r.sz=e.2.1)/\k (.oz j 0 b.toNat):=by
 cases h1:H j <;> cases u:bR P t <;> simp[asl,bK,h1,u]
theorem JN{k:AV->Prop}{es}:oF .eql (.sl es) k=((es=[]->k (.v (.bool true)))/\k (.v (.bool false))):=(rfl)
theorem Jm{k:AV->Prop}{es}:oF .neq (.sl es) k=((es=[]->k (.v (.bool false)))/\k (.v (.bool true))):=(rfl)
theorem Hu{k:AV->Prop}{j}:oF .eql (.os j) k=(k (.v (.bool true))/\k (.v (.bool false))):=(rfl)
theorem G8{k:AV->Prop}:oF .eql (.v (.slice none 0 0)) k=k (.v (.bool true)):=(rfl)
theorem F4{k:AV->Prop}:oF .neq (.v (.slice none 0 0)) k=k (.v (.bool false)):=(rfl)
theorem FY{k:AV->Prop}{j}:oF .neq (.os j) k=(k (.v (.bool false))/\k (.v (.bool true))):=(rfl)
theorem Ph{s x t t'}:aop P C PC mt q ops ⟨d,.call ⟨.builtin .append,#[s,x],#[t,t']⟩,ty,pos,aft,gd⟩ ρ H K=bX ops ρ gd fun G=>bP G (aev ρ s) fun s=>bP G (aev ρ x) fun x=>
 if t=t'/\G=none/\q=false then H6 P d t s x ρ H K else False:=(rfl)
end
section
variable{P:Program}{d:Option Tmp}{ρ:Env}{H:aG}{K:Env->aG->Prop}
theorem Pz{t n a m b}:Mf P d t (.v (.int n a)) (.v (.int m b)) ρ H K=bK (bR P t) fun e=>bK (dC P e.1) fun z=>((0<=a/\a<=b)/\(e.2.2:Int)*b<=140737488355328)/\nL H ⟨e.1,e.2.1,List.replicate a.toNat z⟩ (Qy K ρ d):=by
 unfold Mf pY;cases h1:bR P t with
 | none=>simp[bK]
 | some e=>obtain⟨x,y,z⟩:=e;cases u:dC P x <;> simp[bK,u] <;> intros <;> rfl
theorem aeB{f first captured}:LA (.v (.func (.func f) first captured))=some (f,first.toList.map .v,captured.toList.map .v):=(rfl)
theorem aaX{q x}{k:AV->Prop}:nfq q (.v x) k=k (.v x):=by cases q <;> rfl
theorem QT{q x}{k:AV->Prop}:nfq q (.agg x) k=k (.agg x):=by cases q <;> rfl
theorem QI{q x}{k:AV->Prop}:nfq q (.tup x) k=k (.tup x):=by cases q <;> rfl
theorem T4{x}{k:AV->Prop}:nfq false (.nf x) k=k x:=(rfl)
theorem Zb{f l}:LA (.fn f l)=some (f,[],l):=(rfl)
end
attribute [go_sem ↓] FX Gd GD E0
attribute [go_sem] FX Gd GD E0
@[congr] theorem asl_c {P G H t x x' lo lo' hi hi' k} (h:x=x') (h1:lo=lo') (h2:hi=hi'):asl P G H t x lo hi k=asl P G H t x' lo' hi' k:=h▸h1▸h2▸rfl
@[congr] theorem aeqNil_c {op x x' k} (h:x=x'):oF op x k=oF op x' k:=h▸rfl
theorem Ix{α:Type}{a:α}{l r:List α}:List.append (a::l) r=a::List.append l r:=(rfl)
theorem Jq{α:Type}{r:List α}:List.append [] r=r:=(rfl)
attribute [go_sem] Ix Jq
attribute [go_sem] qH
@[congr] theorem amax_c {x x' y y' K} (h:x=x') (h':y=y'):MN x y K=MN x' y' K:=h▸h'▸rfl
@[congr] theorem amin_c {x x' y y' K} (h:x=x') (h':y=y'):Pe x y K=Pe x' y' K:=h▸h'▸rfl
attribute [go_sem ↓] YH XS Wv VC
attribute [go_sem] Wv VC
@[congr] theorem pinEnd_c {l l' H K ρ H'} (h:l=l'):kU l H K ρ H'=kU l' H K ρ H':=h▸rfl
attribute [go_sem] Gl List.set_cons_zero List.set_cons_succ
attribute [go_sem ↓] RI XO YN adH
attribute [go_sem ↓] QX Zh ZW
attribute [go_sem ↓] Wp aeO acO WS Tw VP acA Uz aaY abQ JN Jm Hu FY G8 F4
attribute [go_sem] VP acA Uz aaY abQ JN Jm Hu FY G8 F4
attribute [go_sem ↓] aaX QT QI T4
attribute [go_sem ↓] OS Ls Fh MS HJ Eb QA Jr
attribute [go_sem] QA Jr
attribute [go_sem] aaX QT QI T4
attribute [go_sem ↓] HE FH Q9 Pz JA KJ JY Qv Ka CE PN Qk PU K8 JZ
attribute [go_sem] Pz JA KJ JY Qv Ka CE PN Qk PU K8 aeB Zb
attribute [go_sem] QU abL
@[congr] theorem ownNils_c {l l' z z' H K} (h:l=l') (h':z=z'):iR l z H K=iR l' z' H K:=h▸h'▸rfl
theorem Km{z H K}:iR [] z H K=K z H:=(rfl)
theorem Jk{o e sz r z H K}:iR ((o,e,sz)::r) z H K=nL H ⟨e,sz,[]⟩ fun k H'=>iR r (z.set o (.os k)) H' K:=(rfl)
attribute [go_sem ↓] Km Jk
attribute [go_sem ↓] VY Et KT Qj KU FS GJ TH J0 UG Y0 WN RH OU T3 Zr Ng Qs Kd QY
attribute [go_sem ↓] yJ nS Up W9 ST UV II ZI acK VT HR KY L9 Fy Ta Fv Q8 KC Ny Rf Xv DN RF WG Yd Ph
attribute [go_sem ↓] Px Ql Pt QS JW Kh KV J9 Lx Kf Lb Mb Kl Kg JE F2 GZ Gn GL Gw F3 GW Ll KO JS QL PK Gm Gb Gs GA Qm P2 Qx Qz Qb yB yL yP yI yH yF Qd QB FV GV LG Hi K6 Lv DD GR Hq Gj GT Dz KW Hs Gg Hg GH GQ abX abA Ch Cx Wh KB PF PT LR Jo QO Qi P3 Ep Gt Gr Kx Lc JI QC FN Kp Jp E9 Hv
attribute [go_sem] Px Ql Pt QS JW Kh KV J9 Lx Kf Lb Mb Kl Kg JE F2 GZ Gn GL Gw F3 GW Ll KO JS QL PK Gm Gb Gs GA Qm P2 Qx Qz Qb yB yL yP yI yH yF Qd QB FV GV LG Hi K6 Lv DD GR Hq Gj GT Dz KW Hs Gg Hg GH GQ abX abA Ch Cx Wh KB PF PT LR Jo QO Qi P3 Ep Gt Gr Kx Lc JI QC FN Kp Jp E9 Hv
attribute [go_sem] aeT WJ oS pV nY Bg gt gok wr sC gA Ke Value.oneCell' IY cP oI Option.map_some oL mX aA
attribute [go_sem] Bool.false_eq_true if_false if_true reduceCtorEq true_and and_true false_and and_false false_implies true_implies implies_true forall_const and_self imp_self ne_eq not_true_eq_false not_false_eq_true
attribute [go_sem] List.getD_cons_zero List.getD_cons_succ List.getD_nil List.length_cons List.length_nil List.drop_zero List.drop_succ_cons List.take_succ_cons List.take_zero Option.getD_some Option.getD_none Nat.zero_add Nat.add_zero List.map_cons List.map_nil List.cons_append List.nil_append List.append_nil
attribute [go_sem] Option.bind_some List.getElem?_toArray List.getElem?_cons_zero List.getElem?_cons_succ
attribute [go_sem ↓] reduceIte
attribute [go_sem] Nat.reduceEqDiff Nat.reduceAdd Nat.reduceMul Nat.reduceSub Nat.reduceLT Nat.reduceLeDiff Nat.reduceBEq
end Go.Aw
