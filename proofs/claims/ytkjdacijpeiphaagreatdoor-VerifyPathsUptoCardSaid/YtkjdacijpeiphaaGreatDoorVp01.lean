import Derived.StillTail
import Derived.WalkKit
import Derived.Deep.Quiet
import Derived.Deep.QuietTactic
import Derived.Maps.AppendAt
import Derived.Laws.BytesArg
set_option linter.unusedSimpArgs false
set_option linter.unusedVariables false
set_option linter.defProp false
set_option maxRecDepth 100000
namespace Go.Aw
open Go.RowKit
inductive AV where
 | v (x:Value)
 | any
 | sl (es:List (List AV))
 | rp (cs:List AV) (off:Nat)
 | agg (cs:List AV)
 | tup (vs:List AV)
 | os (k:Nat)
 | op (k i f:Nat)
 | gd (g:Bool) (x:AV)
 | fn (f:FuncId) (cap:List AV)
 | oz (k a b:Nat)
 | nf (x:AV)
 | om (k:Nat)
 | cl (es:List (List AV))
 deriving Inhabited
structure Row where
 e:TypeId
 sz:Nat
 es:List (List AV)
abbrev Env:=Nat->AV
abbrev aG:=Nat->Option Row
inductive Ex where
 | normal
 | exit (id:Nat)
 | ret
def upd(ρ:Env)(d:Option Nat)(x:AV):Env:=
 match d with
 | some d=>fun t=>if t=d then x else ρ t
 | none=>ρ
def aI(H:aG)(k:Nat)(r:Option Row):aG:=fun j=>if j=k then r else H j
def Z4(ρ:Env)(d:Nat)(x:AV)(t:Nat):upd ρ (some d) x t=if t=d then x else ρ t:=rfl
def Wh(ρ:Env)(x:AV):upd ρ none x=ρ:=rfl
def aB(H:aG)(k:Nat)(r:Option Row):aI H k r k=r:=by simp[aI]
def aD(H:aG)(k:Nat)(r:Option Row)(j:Nat)(h:j≠k):aI H k r j=H j:=by simp[aI,h]
def ldT(P:Program)(t:TypeId):Option (Option Nat):=
 match P.underlying t,P.info? t with
 | some (.struct _),some i=>some (some i.size)
 | some (.array _ _),some i=>some (some i.size)
 | some _,some _=>some none
 | _,_=>none
def aK(P:Program)(t:TypeId)(f:Nat):Option (Nat×Option Nat):=
 match P.underlying t with
 | some (.struct fs)=>match fs[f]? with
   | some fd=>match P.info? fd.type with
     | some i=>if i.size=0 then none else(ldT P fd.type).map fun l=>(fd.offset,l)
     | none=>none
   | none=>none
 | _=>none
def bN(P:Program)(t:TypeId):Option (TypeId×Nat×Nat):=
 match P.underlying t with
 | some (.slice e)=>match P.info? e with
   | some i=>if i.size=0\/i.bytes=0\/i.zero.map (·.cells.size)≠some i.size then none else some (e,i.size,i.bytes)
   | none=>none
 | _=>none
def zC(P:Program)(t:TypeId):Option (Nat×Nat×Option Nat):=
 match P.underlying t with
 | some (.array n e)=>match P.info? e with
   | some i=>if i.size=0 then none else(ldT P e).map fun l=>(n,i.size,l)
   | none=>none
 | _=>none
def nC:Value->AV
 | .slice none 0 0=>.sl []
 | x=>.v x
def cM(P:Program)(t:TypeId):Option (List AV):=
 match P.info? t with
 | some i=>match i.zero with
   | some z=>if z.cells.size=i.size/\i.size≠0/\z.cells.toList.all (·.oneCell')=true then some (z.cells.toList.map nC)else none
   | none=>none
 | none=>none
def IX(P:Program):Nat->TypeId->Nat->List (Nat×TypeId×Nat)
 | 0,_,_=>[]
 | n+1,t,o=>match P.underlying t with
   | some (.slice _)=>match bN P t with
     | some (e,sz,_)=>[(o,e,sz)]
     | none=>[]
   | some (.struct fs)=>fs.toList.flatMap fun f=>IX P n f.type (o+f.offset)
   | some (.array m e)=>(List.range m).flatMap fun j=>IX P n e (o+j*((P.info? e).map (·.size)).getD 0)
   | _=>[]
def WJ:Option Value->Bool
 | some (.slice none 0 0)=>true
 | _=>false
def nU(P:Program)(t:TypeId):Option (List (Nat×TypeId×Nat)):=
 match P.info? t with
 | some i=>match i.zero with
   | some z=>if(IX P 8 t 0).all (fun x=>WJ z.cells.toList[x.1]?&&decide (0<x.2.2))=true then some (IX P 8 t 0)else none
   | none=>none
 | none=>none
def cR(P:Program)(t:TypeId):Option (List (Nat×Nat)):=
 match P.underlying t with
 | some (.struct fs)=>fs.toList.mapM fun f=>(P.info? f.type).map fun i=>(f.offset,i.size)
 | some (.array n e)=>(P.info? e).map fun i=>(List.range n).map fun j=>(j*i.size,i.size)
 | _=>none
def dS(P:Program)(t:TypeId):Bool:=match P.underlying t with|some .string=>true|_=>false
def bS(P:Program)(t:TypeId):Bool:=match P.underlying t with|some (.slice _)=>true|_=>false
def xA(P:Program)(t:TypeId):Bool:=match P.underlying t with|some .bool=>true|_=>false
def OY(P:Program)(t:TypeId):Bool:=match P.underlying t with|some (.pointer _)=>true|_=>false
def Oo:AV->Option Bool
 | .v (.pointer none)=>some true
 | .rp ..=>some false
 | .op ..=>some false
 | _=>none
def aev(ρ:Env):Operand->AV
 | .tmp t=>ρ t
 | .const v=>nC v
 | .global _=>.any
 | .func f=>.v (.func (.func f) #[] #[])
def HC(ρ:Env):Operand->AV
 | .const v=>.v v
 | x=>aev ρ x
def gt:Option Bool->Prop
 | none=>True
 | some b=>b=true
def gok:Option Bool->Bool->Prop
 | none,g=>g=true
 | some b,g=>b=true->g=true
def wr:Option Bool->AV->AV
 | none,x=>x
 | some b,x=>.gd b x
def bK(G:Option Bool)(x:AV)(k:AV->Prop):Prop:=
 match x with
 | .gd g y=>gok G g/\k y
 | x=>k x
def kM(x:AV)(K:List AV->Prop):Prop:=
 match x with
 | .agg cs=>K cs
 | .v y=>y.oneCell'=true/\K [.v y]
 | .sl es=>K [.sl es]
 | .rp cs o=>K [.rp cs o]
 | .os k=>K [.os k]
 | .op k i f=>K [.op k i f]
 | _=>False
def qZ(P:Program)(t:TypeId):Option Nat:=match P.underlying t with|some (.int _)=>some 0|some .string=>some 1|some .bool=>some 2|_=>none
def rM(c:Nat)(x y:AV):Option Bool:=
 match c,x,y with
 | 0,.v (.int k a),.v (.int k' b)=>if k=k' then some (a == b)else none
 | 1,.v (.string a),.v (.string b)=>some (a.toList == b.toList)
 | 2,.v (.bool a),.v (.bool b)=>some (a == b)
 | _,_,_=>none
def KZ:Option Bool->Option Bool->Option Bool
 | some a,some b=>some (a&&b)
 | _,_=>none
def fJ:List Nat->List AV->List AV->Option Bool
 | [],[],[]=>some true
 | c::l,x::r,y::s=>KZ (rM c x y) (fJ l r s)
 | _,_,_=>none
def mT(P:Program):Nat->List Field->Option (List Nat)
 | _,[]=>some []
 | o,f::r=>if f.name != "_" && f.offset == o&&(P.info? f.type).isSome then match qZ P f.type,mT P (o+1) r with
   | some c,some l=>some (c::l)
   | _,_=>none
   else none
def sN(P:Program)(t:TypeId):Option (List Nat):=
 match P.underlying t with
 | some (.struct fs)=>if P.stoodInHeld t=false/\P.eqGuardType P.depth t=false then mT P 0 fs.toList else none
 | some (.array n e)=>if(P.info? e).map (·.size)=some 1/\P.eqGuardType P.depth t=false then(qZ P e).map (List.replicate n)else none
 | _=>none
def uS:BinOp->Bool
 | .shl=>true
 | .shr=>true
 | _=>false
def shV(op:BinOp)(k:IntKind)(a b:Int):Int:=match op with
 | .shl=>k.wrap (a*2^min b.toNat k.bits)
 | _=>a.fdiv (2^min b.toNat k.bits)
def pU(op:BinOp)(k:IntKind)(a b:Int):Int:=match op with
 | .and=>k.wrap ((BitVec.ofInt k.bits a &&& BitVec.ofInt k.bits b).toNat:Nat)
 | .or=>k.wrap ((BitVec.ofInt k.bits a ||| BitVec.ofInt k.bits b).toNat:Nat)
 | .xor=>k.wrap ((BitVec.ofInt k.bits a ^^^ BitVec.ofInt k.bits b).toNat:Nat)
 | _=>k.wrap ((BitVec.ofInt k.bits a &&& ~~~(BitVec.ofInt k.bits b)).toNat:Nat)
def fO(P:Program)(G:Option Bool)(op:BinOp)(t:TypeId)(x y:AV)(K:AV->Prop):Prop:=
 match x,y with
 | .v (.int k a),.v (.int k' b)=>
   if uS op=true then(gt G->0<=b)/\K (.v (.int k (shV op k a b)))
   else if k=k' then
     match op with
     | .and=>K (.v (.int k (pU .and k a b)))
     | .or=>K (.v (.int k (pU .or k a b)))
     | .xor=>K (.v (.int k (pU .xor k a b)))
     | .andNot=>K (.v (.int k (pU .andNot k a b)))
     | .add=>K (.v (.int k (k.wrap (a+b))))
     | .sub=>K (.v (.int k (k.wrap (a-b))))
     | .mul=>K (.v (.int k (k.wrap (a*b))))
     | .quo=>(gt G->b≠0)/\K (.v (.int k (k.wrap (a.tdiv b))))
     | .rem=>(gt G->b≠0)/\K (.v (.int k (a.tmod b)))
     | .eql=>K (.v (.bool (a == b)))
     | .neq=>K (.v (.bool (a != b)))
     | .lss=>K (.v (.bool (decide (a<b))))
     | .leq=>K (.v (.bool (decide (a<=b))))
     | .gtr=>K (.v (.bool (decide (a>b))))
     | .geq=>K (.v (.bool (decide (a>=b))))
     | _=>False
   else False
 | .v (.string a),.v (.string b)=>
   match op with
   | .add=>(gt G->((a.size+b.size:Nat):Int)<=IntKind.i64.max)/\K (.v (.string (a++b)))
   | .eql=>K (.v (.bool (a.toList == b.toList)))
   | .neq=>K (.v (.bool !(a.toList == b.toList)))
   | .lss=>K (.v (.bool (Op.bytesLess a.toList b.toList)))
   | _=>False
 | .v (.bool a),.v (.bool b)=>
   if xA P t then
     match op with
     | .eql=>K (.v (.bool (a == b)))
     | .neq=>K (.v (.bool !(a == b)))
     | _=>False
   else False
 | .agg xs,.agg ys=>match sN P t with
   | some l=>match fJ l xs ys with
     | some b=>match op with
       | .eql=>K (.v (.bool b))
       | .neq=>K (.v (.bool !b))
       | _=>False
     | none=>False
   | none=>False
 | x,.v (.pointer none)=>match Oo x with
   | some b => if OY P t then
       match op with
       | .eql=>K (.v (.bool b))
       | .neq=>K (.v (.bool !b))
       | _=>False
     else False
   | none=>(gt G->False)/\K .any
 | _,_=>(gt G->False)/\K .any
def Ni(P:Program)(t:TypeId):Option (TypeId×TypeId):=match P.underlying t with|some (.map k e)=>some (k,e)|_=>none
def FG(P:Program)(t:TypeId):Option AV:=
 match P.info? t with
 | some i=>match i.zero with
   | some (.agg cs)=>if cs.toList.all (·.oneCell')=true then some (.agg (cs.toList.map nC))else none
   | some v=>if v.oneCell'=true then some (nC v)else none
   | none=>none
 | none=>none
def mZ(P:Program)(kt:TypeId)(x y:AV):Option Bool:=
 match x,y with
 | .v a,.v b=>match qZ P kt with
   | some c=>rM c (.v a) (.v b)
   | none=>none
 | _,_=>none
def kR(P:Program)(kt:TypeId):AV->Bool
 | .v (.int _ _)=>qZ P kt == some 0
 | .v (.string _)=>qZ P kt == some 1
 | .v (.bool _)=>qZ P kt == some 2
 | _=>false
def qC(eq:AV->Option Bool):List (List AV)->Nat->Option (Option Nat)
 | [],_=>some none
 | e::r,i=>match eq (e.getD 0 .any)with
   | some true=>some (some i)
   | some false=>qC eq r (i+1)
   | none=>none
def Em(ok:Bool)(z:AV)(es:List (List AV))(oi:Option Nat):AV:=
 match oi with
 | some i=>if ok=true then .tup [(es.getD i []).getD 1 .any,.v (.bool true)]else(es.getD i []).getD 1 .any
 | none=>if ok=true then .tup [z,.v (.bool false)]else z
def Ta(es:List (List AV))(oi:Option Nat)(k v:AV):List (List AV):=
 match oi with
 | some i=>es.set i [k,v]
 | none=>es++[[k,v]]
def CF(P:Program)(H:aG)(t:TypeId)(x key:AV)(K:Nat->Row->TypeId×TypeId->Option Nat->Prop):Prop:=
 match x with
 | .om j=>match H j,Ni P t with
   | some r,some kt=>match qC (mZ P kt.1 key) r.es 0 with
     | some oi=>kR P kt.1 key=true/\K j r kt oi
     | none=>False
   | _,_=>False
 | _=>False
def qK(P:Program)(H:aG)(t:TypeId)(x key:AV)(ok:Bool)(K:AV->Prop):Prop:=
 CF P H t x key fun _ r kt oi=>match FG P kt.2 with
   | some z=>K (Em ok z r.es oi)
   | none=>False
def uO(c:Bool):AV->AV->AV
 | .v (.bool true),.v (.bool b)=>.v (.bool (c||b))
 | .v (.bool a),.v (.bool false)=>.v (.bool (c&&a))
 | .v (.bool a),.v (.bool b)=>.v (.bool (bif c then a else b))
 | x,y=>bif c then x else y
def xX(G:Option Bool)(c:Bool)(x y:AV)(K:AV->Prop):Prop:=
 match x,y with
 | .gd g x,.gd g' y=>(gt G->c=true->g=true)/\(gt G->c=false->g'=true)/\K (uO c x y)
 | .gd g x,y=>(gt G->c=true->g=true)/\K (uO c x y)
 | x,.gd g' y=>(gt G->c=false->g'=true)/\K (uO c x y)
 | x,y=>K (uO c x y)
def lY(G:Option Bool)(H:aG)(l:Option Nat)(x:AV)(K:AV->Prop):Prop:=
 match x with
 | .rp cs off=>match l with
   | none=>(gt G->off<cs.length)/\K (cs.getD off .any)
   | some n=>(gt G->off+n<=cs.length)/\K (.agg ((cs.drop off).take n))
 | .op k i f=>match H k with
   | some r=>match l with
     | none=>(gt G->i<r.es.length/\f<r.sz)/\K ((r.es.getD i []).getD f .any)
     | some n=>(gt G->i<r.es.length/\f+n<=r.sz)/\K (.agg (((r.es.getD i []).drop f).take n))
   | none=>False
 | _=>False
def apart(G:Option Bool)(off:Nat)(l:Option Nat)(x:AV)(K:AV->Prop):Prop:=
 match x with
 | .agg cs=>match l with
   | none=>(gt G->off<cs.length)/\K (cs.getD off .any)
   | some n=>(gt G->off+n<=cs.length)/\K (.agg ((cs.drop off).take n))
 | _=>False
def Ei(P:Program)(H:aG)(t:TypeId)(x:AV)(K:AV->Prop):Prop:=
 match x with
 | .sl es=>if bS P t then K (.v (.int .i64 es.length))else False
 | .os k=>match H k with
   | some r=>if bS P t then K (.v (.int .i64 r.es.length))else False
   | none=>False
 | .oz _ a b=>if bS P t then K (.v (.int .i64 (b-a:Nat)))else False
 | .v (.string s)=>if dS P t then K (.v (.int .i64 s.size))else False
 | _=>False
def jL(a b:Int):Int:=if b>a then b else a
def WL(a b:Int):Int:=if b<a then b else a
def NR(x y:AV)(K:AV->Prop):Prop:=
 match x,y with
 | .v (.int k a),.v (.int _ b)=>K (.v (.int k (jL a b)))
 | _,_=>False
def MI(x y:AV)(K:AV->Prop):Prop:=
 match x,y with
 | .v (.int k a),.v (.int _ b)=>K (.v (.int k (WL a b)))
 | _,_=>False
def dO(P:Program)(G:Option Bool)(H:aG)(t:TypeId)(x i:AV)(K:AV->Prop):Prop:=
 match x,i with
 | .sl es,.v (.int _ n)=>match bN P t with
   | some (_,sz,_)=>(gt G->(0<=n/\n<es.length)/\(es.getD n.toNat []).length=sz)/\K (.rp (es.getD n.toNat []) 0)
   | none=>False
 | .os k,.v (.int _ n)=>match H k,bN P t with
   | some r,some (_,sz,_)=>(gt G->(0<=n/\n<r.es.length)/\r.sz=sz)/\K (.op k n.toNat 0)
   | _,_=>False
 | .oz k a b,.v (.int _ n)=>match H k,bN P t with
   | some r,some (_,sz,_)=>(gt G->(0<=n/\n<(b-a:Nat))/\r.sz=sz)/\K (.op k (a+n.toNat) 0)
   | _,_=>False
 | .rp cs off,.v (.int _ n)=>match zC P t with
   | some (m,s,_)=>(gt G->0<=n/\n<m)/\K (.rp cs (off+n.toNat*s))
   | none=>False
 | .op k j f,.v (.int _ n)=>match zC P t with
   | some (m,s,_)=>(gt G->0<=n/\n<m)/\K (.op k j (f+n.toNat*s))
   | none=>False
 | _,_=>False
def gW(P:Program)(t:TypeId)(f:Nat)(x:AV)(K:AV->Prop):Prop:=
 match x with
 | .rp cs off=>match aK P t f with
   | some (o,_)=>K (.rp cs (off+o))
   | none=>False
 | .op k i g=>match aK P t f with
   | some (o,_)=>K (.op k i (g+o))
   | none=>False
 | _=>False
def nR(places:List (Nat×Nat)):List AV->List (Nat×List AV)->Option (List AV)
 | cs,[]=>some cs
 | cs,(i,x)::rest=>match places[i]? with
   | some (off,n)=>if x.length=n/\off+n<=cs.length then nR places (cs.take off++x++cs.drop (off+n)) rest else none
   | none=>none
def mM(G:Option Bool)(ρ:Env):List (Nat×Operand)->(List (Nat×List AV)->Prop)->Prop
 | [],K=>K []
 | (i,x)::rest,K=>bK G (aev ρ x) fun y=>kM y fun cs=>mM G ρ rest fun l=>K ((i,cs)::l)
def yH(G:Option Bool)(ρ:Env):List Operand->(List AV->Prop)->Prop
 | [],K=>K []
 | x::rest,K=>bK G (aev ρ x) fun y=>yH G ρ rest fun l=>K (y::l)
def tK(P:Program)(t:TypeId)(parts:List (Nat×List AV))(K:AV->Prop):Prop:=
 match cM P t,cR P t with
 | some z,some pl=>match nR pl z parts with
   | some cs=>K (.agg cs)
   | none=>False
 | _,_=>False
def Is:Nat->Nat->List Nat
 | _,0=>[]
 | i,n+1=>i::Is (i+1) n
def cA(n:Nat):List (List AV)->Prop
 | []=>True
 | cs::r=>cs.length=n/\cA n r
def kL(P:Program)(G:Option Bool)(t:TypeId)(x:AV)(lo hi:Option AV)(K:AV->Prop):Prop:=
 match x,lo,hi with
 | .sl es,some (.v (.int _ a)),some (.v (.int _ b))=>match bN P t with
   | some (_,sz,_)=>(gt G->(0<=a/\a<=b/\b<=es.length)/\cA sz es)/\K (.sl ((es.take b.toNat).drop a.toNat))
   | none=>False
 | .sl es,some (.v (.int _ a)),none=>match bN P t with
   | some (_,sz,_)=>(gt G->(0<=a/\a<=es.length)/\cA sz es)/\K (.sl (es.drop a.toNat))
   | none=>False
 | .sl es,none,some (.v (.int _ b))=>match bN P t with
   | some _=>(gt G->0<=b/\b<=es.length)/\K (.sl (es.take b.toNat))
   | none=>False
 | .v (.string s),some (.v (.int _ a)),some (.v (.int _ b))=>
   if dS P t then(gt G->0<=a/\a<=b/\b<=s.size)/\K (.v (.string (s.extract a.toNat b.toNat)))else False
 | .v (.string s),some (.v (.int _ a)),none=>
   if dS P t then(gt G->0<=a/\a<=s.size)/\K (.v (.string (s.extract a.toNat s.size)))else False
 | .v (.string s),none,some (.v (.int _ b))=>
   if dS P t then(gt G->0<=b/\b<=s.size)/\K (.v (.string (s.extract 0 b.toNat)))else False
 | _,_,_=>False
def asl(P:Program)(G:Option Bool)(H:aG)(t:TypeId)(x:AV)(lo hi:Option AV)(K:AV->Prop):Prop:=
 match x with
 | .os k=>match H k,bN P t with
   | some r,some (_,sz,_)=>match lo,hi with
     | some (.v (.int _ a)),some (.v (.int _ b))=>(gt G->(0<=a/\a<=b/\b<=r.es.length)/\r.sz=sz)/\K (.oz k a.toNat b.toNat)
     | some (.v (.int _ a)),none=>(gt G->(0<=a/\a<=r.es.length)/\r.sz=sz)/\K (.oz k a.toNat r.es.length)
     | none,some (.v (.int _ b))=>(gt G->(0<=b/\b<=r.es.length)/\r.sz=sz)/\K (.oz k 0 b.toNat)
     | _,_=>False
   | _,_=>False
 | .oz k a b=>match H k,bN P t with
   | some r,some (_,sz,_)=>match lo,hi with
     | some (.v (.int _ l)),none=>(gt G->(0<=l/\l<=(b-a:Nat))/\r.sz=sz)/\K (.oz k (a+l.toNat) b)
     | _,_=>False
   | _,_=>False
 | x=>kL P G t x lo hi K
def BX(P:Program)(G:Option Bool)(t:TypeId)(x a b:AV)(K:AV->Prop):Prop:=
 match x,a,b with
 | .sl es,.v (.int _ a),.v (.int _ b)=>match bN P t with
   | some _=>(gt G->a=es.length/\b=es.length)/\K (.cl es)
   | none=>False
 | _,_,_=>False
def uG(P:Program)(G:Option Bool)(t:TypeId)(x i:AV)(K:AV->Prop):Prop:=
 match x,i with
 | .v (.string s),.v (.int _ n)=>
   if dS P t then(gt G->0<=n/\n<s.size)/\K (.v (.int .u8 ((s.data.getD n.toNat 0).toNat:Int)))else False
 | .agg cs,.v (.int _ n)=>match zC P t with
   | some (m,s,l)=>(gt G->0<=n/\n<m)/\apart G (n.toNat*s) l (.agg cs) K
   | none=>False
 | _,_=>False
def aun(op:UnOp)(x:AV)(K:AV->Prop):Prop:=
 match op,x with
 | .not,.v (.bool b)=>K (.v (.bool !b))
 | .neg,.v (.int k n)=>K (.v (.int k (k.wrap (0-n))))
 | _,_=>False
def vY:List (List AV)->Option (List Int)
 | []=>some []
 | [.v (.int .u8 n)]::r=>(vY r).map (n::·)
 | _=>none
def NP(P:Program)(t:TypeId):Bool:=
 match P.underlying t with
 | some (.slice e)=>match P.underlying e with
   | some (.int .u8)=>true
   | _=>false
 | _=>false
def DS(P:Program)(t:TypeId):Option IntKind:=match P.underlying t with|some (.int k)=>some k|_=>none
def AR(P:Program)(src dst:TypeId)(x:AV)(K:AV->Prop):Prop:=
 match x with
 | .v (.int _ n)=>match DS P dst,DS P src with
   | some k,some _=>K (.v (.int k (k.wrap n)))
   | _,_=>False
 | .v (.string s)=>if dS P src/\dS P dst then K (.v (.string s))else False
 | .sl es => if NP P src /\ dS P dst then
     match vY es with
     | some ns=>K (.v (.string (strOfNums ns)))
     | none=>False
   else False
 | _=>False
def oV:Operand->Bool
 | .const (.slice none 0 0)=>true
 | _=>false
def nJ(op:BinOp)(x:AV)(K:AV->Prop):Prop:=
 match op,x with
 | .eql,.sl es=>(es=[]->K (.v (.bool true)))/\K (.v (.bool false))
 | .neq,.sl es=>(es=[]->K (.v (.bool false)))/\K (.v (.bool true))
 | .eql,.os _=>K (.v (.bool true))/\K (.v (.bool false))
 | .neq,.os _=>K (.v (.bool false))/\K (.v (.bool true))
 | .eql,.v (.slice none 0 0)=>K (.v (.bool true))
 | .neq,.v (.slice none 0 0)=>K (.v (.bool false))
 | _,_=>False
def fR(P:Program)(G:Option Bool)(ρ:Env)(H:aG)(op:Op)(K:AV->Prop):Prop:=
 match op with
 | .move x| .assign x=>bK G (aev ρ x) K
 | .pick c a b=>bK G (aev ρ c) fun
   | .v (.bool c)=>xX G c (aev ρ a) (aev ρ b) K
   | _=>False
 | .build t parts=>mM G ρ parts.toList fun l=>tK P t l K
 | .load t a=>match ldT P t with
   | some l=>bK G (aev ρ a) fun a=>lY G H l a K
   | none=>False
 | .nilCheck x=>bK G (aev ρ x) fun
   | .rp cs off=>K (.rp cs off)
   | .op k i f=>K (.op k i f)
   | .v (.pointer none)=>(gt G->False)/\∃cs off,K (.rp cs off)
   | _=>False
 | .binOp op t x y _=>if oV y=true then bK G (aev ρ x) fun x=>bS P t=true/\nJ op x K else bK G (aev ρ x) fun x=>bK G (aev ρ y) fun y=>fO P G op t x y K
 | .unOp op _ x=>bK G (aev ρ x) fun x=>aun op x K
 | .convert src dst x=>bK G (aev ρ x) fun x=>AR P src dst x K
 | .slice t x lo hi none=>bK G (aev ρ x) fun x=>match lo,hi with
   | some lo,some hi=>bK G (aev ρ lo) fun lo=>bK G (aev ρ hi) fun hi=>asl P G H t x (some lo) (some hi) K
   | some lo,none=>bK G (aev ρ lo) fun lo=>asl P G H t x (some lo) none K
   | none,some hi=>bK G (aev ρ hi) fun hi=>asl P G H t x none (some hi) K
   | none,none=>False
 | .slice t x none (some hi) (some m)=>bK G (aev ρ x) fun x=>bK G (aev ρ hi) fun hi=>bK G (aev ρ m) fun m=>BX P G t x hi m K
 | .fieldAddr t x f=>bK G (aev ρ x) fun x=>gW P t f x K
 | .field t x f=>match aK P t f with
   | some (o,l)=>bK G (aev ρ x) fun x=>apart G o l x K
   | none=>False
 | .indexAddr t x i=>bK G (aev ρ x) fun x=>bK G (aev ρ i) fun i=>dO P G H t x i K
 | .index t x i=>bK G (aev ρ x) fun x=>bK G (aev ρ i) fun i=>uG P G t x i K
 | .extract x i=>bK G (aev ρ x) fun
   | .tup vs=>(gt G->i<vs.length)/\K (vs.getD i .any)
   | _=>False
 | .lookup t x i ok=>bK G (aev ρ x) fun x=>bK G (aev ρ i) fun i=>qK P H t x i ok K
 | .makeFunc f first cap=>match f with
   | .func f=>first=#[]/\yH G ρ cap.toList fun l=>K (.fn f l)
   | _=>False
 | _=>False
def bY(ops:Array Oper)(ρ:Env)(g:Option (Nat×Bool))(K:Option Bool->Prop):Prop:=
 match g with
 | none=>K none
 | some (j,want)=>match (ops[j]?).bind (·.dst)with
   | some t=>match ρ t with
     | .v (.bool b)=>K (some (b == want))
     | .gd g (.v (.bool b))=>K (some (g&&(b == want)))
     | _=>False
   | none=>False
def nZ(mt:Nat->Bool):Option Nat->Bool
 | some d=>mt d
 | none=>false
def mB(H:aG)(r:Row)(K:Nat->aG->Prop):Prop:=∀k,H k=none->K k (aI H k (some r))
def kT(cs:List AV)(f:Nat)(xs:List AV):List AV:=cs.take f++xs++cs.drop (f+xs.length)
def gX:List (Nat×TypeId×Nat)->List AV->aG->(List AV->aG->Prop)->Prop
 | [],cs,H,K=>K cs H
 | x::r,cs,H,K=>mB H ⟨x.2.1,x.2.2,[]⟩ fun k H'=>gX r (cs.set x.1 (.os k)) H' K
def zY(P:Program)(mt:Nat->Bool)(quiet:Bool)(G:Option Bool)(o:Oper)(x:Operand)(ρ:Env)(H:aG)(K:Env->aG->Prop):Prop:=
 if nZ mt o.dst=true/\G=none/\quiet=false/\oV x=true then
   match bN P o.type with
   | some (e,sz,_)=>mB H ⟨e,sz,[]⟩ fun k H'=>K (upd ρ o.dst (.os k)) H'
   | none=>False
 else bK G (aev ρ x) fun y=>K (upd ρ o.dst (wr G y)) H
def Yi(mt:Nat->Bool)(o:Oper)(t:TypeId)(cs:List AV)(ρ:Env)(H:aG)(K:Env->aG->Prop):Prop:=
 if nZ mt o.dst=true then
   0<cs.length/\mB H ⟨t,cs.length,[cs]⟩ fun k H'=>K (upd ρ o.dst (.op k 0 0)) H'
 else K (upd ρ o.dst (.rp cs 0)) H
def lH(P:Program)(mt:Nat->Bool)(G:Option Bool)(o:Oper)(t:TypeId)(n:Nat)(parts:List (Nat×List AV))(ρ:Env)(H:aG)(K:Env->aG->Prop):Prop:=
 match bN P t with
 | some (e,sz,_)=>
   (parts.map (·.1)=Is 0 n/\cA sz (parts.map (·.2))/\n*sz<=16777216) /\
   (if nZ mt o.dst=true/\G=none then mB H ⟨e,sz,parts.map (·.2)⟩ fun k H'=>K (upd ρ o.dst (.os k)) H'
    else K (upd ρ o.dst (wr G (.sl (parts.map (·.2))))) H)
 | none=>False
def vN(P:Program)(o:Oper)(t:TypeId)(a:AV)(cs:List AV)(ρ:Env)(H:aG)(K:Env->aG->Prop):Prop:=
 match a with
 | .op k i f=>match H k,ldT P t with
   | some r, some l => (i < r.es.length /\ cs.length = l.getD 1 /\ f + cs.length <= r.sz /\ (l = none -> ∃ i, P.info? t = some i /\ i.size = 1)) /\
       K (upd ρ o.dst .any) (aI H k (some { r with es:=r.es.set i (kT (r.es.getD i []) f cs) }))
   | _,_=>False
 | _=>False
def qJ(P:Program)(o:Oper)(t:TypeId)(a:AV)(cs:List AV)(ρ:Env)(H:aG)(K:Env->aG->Prop):Prop:=
 vN P o t a cs ρ H K\/((ldT P t).isSome=true/\∃nl:List (Nat×TypeId×Nat),(∀x∈nl,cs[x.1]?=some (.v (.slice none 0 0))/\0<x.2.2)/\gX nl cs H fun cs H=>vN P o t a cs ρ H K)
def wZ(x:Operand)(ρ:Env)(d:Option Nat)(H:aG)(K:Env->aG->Prop):Prop:=
 match x with
 | .tmp t=>match ρ t with
   | .os j=>match H j with
     | some r=>∀Hr:aG,Hr j=none->(∀k,k≠j->Hr k=H k)->K (upd (upd ρ (some t) (.sl r.es)) d (.sl r.es)) Hr
     | none=>False
   | _=>False
 | _=>False
def FM{t j:Nat}{r:Row}{ρ:Env}{d:Option Nat}{H:aG}{K:Env->aG->Prop}(E:ρ t=.os j)(F:H j=some r)(h:∀A:aG,A j=none->(∀k,k≠j->A k=H k)->K (upd (upd ρ (some t) (.sl r.es)) d (.sl r.es)) A):wZ (.tmp t) ρ d H K:=by unfold wZ;simp only[E,F];exact h
def Gb(l:List Nat)(H:aG):List AV->List AV->Prop
 | [],[]=>True
 | x::xs,y::ys=>(x=y\/∃j r,j∈l/\x=.os j/\H j=some r/\y=.sl r.es)/\Gb l H xs ys
 | _,_=>False
def GN(x:AV)(ρ:Env)(d:Option Nat)(H:aG)(K:Env->aG->Prop):Prop:=
 match x with
 | .agg cs=>∃(l:List Nat) (ys:List AV),Gb l H cs ys/\∀Hr:aG,(∀k,k∈l->Hr k=none)->(∀k,¬k∈l->Hr k=H k)->K (upd ρ d (.agg ys)) Hr
 | _=>False
def pM(H:aG)(x:AV)(K:List (List AV)->Prop):Prop:=
 match x with
 | .sl es=>K es
 | .os k=>match H k with
   | some r=>K r.es
   | none=>False
 | .oz k a b=>match H k with
   | some r=>K ((r.es.take b).drop a)
   | none=>False
 | _=>False
def MV(H:aG)(x:AV)(K:Nat->Nat->Nat->Row->Prop):Prop:=
 match x with
 | .os k=>match H k with
   | some r=>K k 0 r.es.length r
   | none=>False
 | .oz k a b=>match H k with
   | some r=>K k a (b-a) r
   | none=>False
 | _=>False
def QA(P:Program)(o:Oper)(t:TypeId)(x y:AV)(ρ:Env)(H:aG)(K:Env->aG->Prop):Prop:=
 MV H x fun k a n r=>pM H y fun news=>match bN P t with
   | some (_,sz,_)=>(r.sz=sz/\cA sz news)/\K (upd ρ o.dst (.v (.int .i64 (min news.length n:Nat)))) (aI H k (some { r with es:=r.es.take a++news.take (min news.length n)++r.es.drop (a+min news.length n) }))
   | none=>False
def Me(P:Program)(o:Oper)(t:TypeId)(x:AV)(ρ:Env)(H:aG)(K:Env->aG->Prop):Prop:=
 MV H x fun k a n r=>match bN P t with
   | some (e,sz,_)=>match cM P e with
     | some zs=>r.sz=sz/\K (upd ρ o.dst .any) (aI H k (some { r with es:=r.es.take a++List.replicate n zs++r.es.drop (a+n) }))
     | none=>False
   | none=>False
def oC(P:Program)(o:Oper)(t:TypeId)(s x:AV)(ρ:Env)(H:aG)(K:Env->aG->Prop):Prop:=
 match s,bN P t with
 | .os k,some (e,sz,bytes)=>match H k with
   | some r => pM H x fun news =>
       (r.e=e/\r.sz=sz/\cA sz news/\(r.es.length+news.length)*bytes<=140737488355328) /\
       ∀k',H k'=none->K (upd ρ o.dst (.os k')) (aI (aI H k none) k' (some ⟨e,sz,r.es++news⟩))
   | none=>False
 | .cl es, some (e, sz, bytes) => pM H x fun news =>
     (news≠[]/\cA sz es/\cA sz news/\(es.length+news.length)*bytes<=140737488355328) /\
     ∀k',H k'=none->K (upd ρ o.dst (.os k')) (aI H k' (some ⟨e,sz,es++news⟩))
 | .oz k a b,some (e,sz,bytes)=>match H k with
   | some r => pM H x fun news =>
       (r.e=e/\r.sz=sz/\news≠[]/\cA sz news/\b=r.es.length/\(r.es.length+news.length)*bytes<=140737488355328) /\
       ∀(k':Nat) (pre:List (List AV)),pre.length<=a->H k'=none->K (upd ρ o.dst (.oz k' pre.length (pre.length+(b-a)+news.length))) (aI (aI H k none) k' (some ⟨e,sz,pre++(r.es.drop a++news)⟩))
   | none=>False
 | .v (.slice none 0 0), some (e, sz, bytes) => pM H x fun news =>
     (news=[]/\K (upd ρ o.dst (.v (.slice none 0 0))) H) \/
     (news≠[]/\cA sz ([]:List (List AV))/\cA sz news/\(([]:List (List AV)).length+news.length)*bytes<=140737488355328) /\
     ∀k',H k'=none->K (upd ρ o.dst (.os k')) (aI H k' (some ⟨e,sz,[]++news⟩))
 | .sl es,some _=>pM H x fun news=>news=[]/\K (upd ρ o.dst (.sl es)) H
 | _,_=>False
def Gu:List (Nat×TypeId×Nat)->List AV->List AV
 | [],z=>z
 | x::r,z=>Gu r (z.set x.1 (.v (.slice none 0 0)))
def wR(P:Program)(o:Oper)(t:TypeId)(parts:List (Nat×Operand))(ρ:Env)(H:aG)(K:Env->aG->Prop):Prop:=
 mM none ρ parts fun l=>match cM P t,cR P t,nU P t with
   | some z,some pl,some nl=>match nR pl (Gu nl z) l with
     | some cs=>K (upd ρ o.dst (.agg cs)) H
     | none=>False
   | _,_,_=>False
def Af(P:Program)(o:Oper)(t:TypeId)(parts:List (Nat×Operand))(ρ:Env)(H:aG)(K:Env->aG->Prop):Prop:=
 mM none ρ parts fun l=>match cM P t,cR P t,nU P t with
   | some z,some pl,some nl=>gX nl z H fun z H=>match nR pl z l with
     | some cs=>K (upd ρ o.dst (.agg cs)) H
     | none=>False
   | _,_,_=>False
def jO(P:Program)(o:Oper)(t:TypeId)(m x v:AV)(ρ:Env)(H:aG)(K:Env->aG->Prop):Prop:=
 CF P H t m x fun j r _ oi=>K (upd ρ o.dst .any) (aI H j (some { r with es:=Ta r.es oi x v }))
def wU(P:Program)(o:Oper)(t:TypeId)(m x:AV)(ρ:Env)(H:aG)(K:Env->aG->Prop):Prop:=
 CF P H t m x fun j r kt oi=>match oi with
   | some i=>K (upd ρ o.dst (.tup [(r.es.getD i []).getD 1 .any,.v (.int .i64 i)])) H
   | none=>match FG P kt.2 with
     | some z=>K (upd ρ o.dst (.tup [z,.v (.int .i64 r.es.length)])) (aI H j (some { r with es:=r.es++[[x,z]] }))
     | none=>False
def pX(o:Oper)(m s v:AV)(ρ:Env)(H:aG)(K:Env->aG->Prop):Prop:=
 match m,s with
 | .om j,.v (.int _ i)=>match H j with
   | some r=>(0<=i/\i<r.es.length)/\K (upd ρ o.dst .any) (aI H j (some { r with es:=r.es.set i.toNat [(r.es.getD i.toNat []).getD 0 .any,v] }))
   | none=>False
 | _,_=>False
def pI(P:Program)(o:Oper)(t:TypeId)(l c:AV)(ρ:Env)(H:aG)(K:Env->aG->Prop):Prop:=
 match l,c with
 | .v (.int _ a),.v (.int _ b)=>match bN P t with
   | some (e,sz,bytes)=>match cM P e with
     | some z=>((0<=a/\a<=b)/\(bytes:Int)*b<=140737488355328)/\mB H ⟨e,sz,List.replicate a.toNat z⟩ fun k H'=>K (upd ρ o.dst (.os k)) H'
     | none=>False
   | none=>False
 | _,_=>False
def Fb:AV->Option (FuncId×List AV×List AV)
 | .v (.func (.func f) first captured)=>some (f,first.toList.map .v,captured.toList.map .v)
 | .fn f cap=>some (f,[],cap)
 | _=>none
def aH(P:Program)(f:FuncId):Bool:=match P.funcs[f]? with|some fn=>fn.name != "runtime.NumGoroutine" && fn.body.isSome|none=>false
abbrev jI:=FuncId->List AV->aG->(AV->aG->Prop)->Prop
def nfq(quiet:Bool)(r:AV)(K:AV->Prop):Prop:=match quiet,r with
 | true,.nf _=>False
 | false,.nf x=>K x
 | _,r=>K r
def Ah(P:Program)(C:jI)(PC:FuncId->List AV->aG->AV->Prop)(nl quiet:Bool)(G:Option Bool)(o:Oper)(c:Call)(ρ:Env)(H:aG)(K:Env->aG->Prop):Prop:=
 match c.callee with
 | .builtin b=>yH G ρ c.args.toList fun l=>match b,l,c.argTypes.toList with
   | .len,[x],[t]=>Ei P H t x fun y=>K (upd ρ o.dst (wr G y)) H
   | .append,[s,x],[t,t']=>if t=t'/\G=none/\quiet=false then oC P o t s x ρ H K else False
   | .copy,[x,y],[t,_]=>if G=none/\quiet=false then QA P o t x y ρ H K else False
   | .clear,[x],[t]=>if G=none/\quiet=false then Me P o t x ρ H K else False
   | .max,[x,y],[_,_]=>NR x y fun z=>K (upd ρ o.dst (wr G z)) H
   | .min,[x,y],[_,_]=>MI x y fun z=>K (upd ρ o.dst (wr G z)) H
   | _,_,_=>False
 | .value f=>bK G (aev ρ f) fun x=>match Fb x with
   | some (f,first,captured)=>if nl=true then gt G/\quiet=false/\aH P f=true/\C f (first++c.args.toList.map (HC ρ)++captured) H fun r H'=>K (upd ρ o.dst r) H' else yH G ρ c.args.toList fun l=>
     aH P f=true/\if G=none/\quiet=false then C f (first++l++captured) H fun r H'=>K (upd ρ o.dst r) H'
     else ∃r,(gt G->PC f (first++l++captured) H r)/\nfq quiet r fun r=>K (upd ρ o.dst (wr G r)) H
   | none=>False
 | .invoke _ _=>False
def aop(P:Program)(C:jI)(PC:FuncId->List AV->aG->AV->Prop)(mt:Nat->Bool)(quiet:Bool)(ops:Array Oper)(o:Oper)(ρ:Env)(H:aG)(K:Env->aG->Prop):Prop:=
 bY ops ρ o.guard fun G=>
 match o.op with
 | .assign x=>zY P mt quiet G o x ρ H K
 | .alloc t=>match cM P t with
   | some z => G = none /\ quiet = false /\ (if nZ mt o.dst = true then match nU P t with
       | some nl=>gX nl z H fun z H=>mB H ⟨t,z.length,[z]⟩ fun k H'=>K (upd ρ o.dst (.op k 0 0)) H'
       | none=>False
     else mB H ⟨t,z.length,[z]⟩ fun k H'=>K (upd ρ o.dst (.op k 0 0)) H')
   | none=>False
 | .box t x=>G=none/\quiet=false/\bK G (aev ρ x) fun x=>kM x fun cs=>Yi mt o t cs ρ H K
 | .buildSlice t n parts=>quiet=false/\mM G ρ parts.toList fun l=>lH P mt G o t n l ρ H K
 | .store t a x => G = none /\ quiet = false /\ (if oV x = true then bK G (aev ρ a) fun a => match bN P t with
       | some (e,sz,_)=>mB H ⟨e,sz,[]⟩ fun k H=>qJ P o t a [.os k] ρ H K
       | none=>False
     else bK G (aev ρ a) fun a=>bK G (aev ρ x) fun x=>kM x fun cs=>qJ P o t a cs ρ H K)
 | .call c=>Ah P C PC (nZ mt o.dst) quiet G o c ρ H K
 | .move x=>if nZ mt o.dst=true then G=none/\quiet=false/\wZ x ρ o.dst H K else fR P G ρ H (.move x) fun x=>K (upd ρ o.dst (wr G x)) H
 | .pick c a b=>fR P G ρ H (.pick c a b) fun x=>K (upd ρ o.dst (wr G x)) H
 | .build t parts=>if nZ mt o.dst=true then G=none/\(if quiet=true then wR P o t parts.toList ρ H K else Af P o t parts.toList ρ H K)else fR P G ρ H (.build t parts) fun x=>K (upd ρ o.dst (wr G x)) H
 | .load t a=>if nZ mt o.dst=true then G=none/\quiet=false/\fR P none ρ H (.load t a) fun x=>GN x ρ o.dst H K else fR P G ρ H (.load t a) fun x=>K (upd ρ o.dst (wr G x)) H
 | .nilCheck x=>fR P G ρ H (.nilCheck x) fun x=>K (upd ρ o.dst (wr G x)) H
 | .binOp op t x y t'=>fR P G ρ H (.binOp op t x y t') fun x=>K (upd ρ o.dst (wr G x)) H
 | .unOp op t x=>fR P G ρ H (.unOp op t x) fun x=>K (upd ρ o.dst (wr G x)) H
 | .convert s d x=>fR P G ρ H (.convert s d x) fun x=>K (upd ρ o.dst (wr G x)) H
 | .slice t x lo hi m=>fR P G ρ H (.slice t x lo hi m) fun x=>K (upd ρ o.dst (wr G x)) H
 | .fieldAddr t x f=>fR P G ρ H (.fieldAddr t x f) fun x=>K (upd ρ o.dst (wr G x)) H
 | .field t x f=>fR P G ρ H (.field t x f) fun x=>K (upd ρ o.dst (wr G x)) H
 | .indexAddr t x i=>fR P G ρ H (.indexAddr t x i) fun x=>K (upd ρ o.dst (wr G x)) H
 | .index t x i=>fR P G ρ H (.index t x i) fun x=>K (upd ρ o.dst (wr G x)) H
 | .extract x i=>fR P G ρ H (.extract x i) fun x=>K (upd ρ o.dst (wr G x)) H
 | .makeFunc f a b=>fR P G ρ H (.makeFunc f a b) fun x=>K (upd ρ o.dst (wr G x)) H
 | .makeSlice t l c=>G=none/\quiet=false/\bK G (aev ρ l) fun l=>bK G (aev ρ c) fun c=>pI P o t l c ρ H K
 | .lookup t x i ok=>fR P G ρ H (.lookup t x i ok) fun x=>K (upd ρ o.dst (wr G x)) H
 | .makeMap _ none=>G=none/\quiet=false/\mB H ⟨0,2,[]⟩ fun k H'=>K (upd ρ o.dst (.om k)) H'
 | .mapUpdate t m x v=>G=none/\quiet=false/\bK G (aev ρ m) fun m=>bK G (aev ρ x) fun x=>bK G (aev ρ v) fun v=>jO P o t m x v ρ H K
 | .insert t m x v=>G=none/\quiet=false/\bK G (aev ρ m) fun m=>bK G (aev ρ x) fun x=>bK G (aev ρ v) fun v=>jO P o t m x v ρ H K
 | .mapEntry t m x=>G=none/\quiet=false/\bK G (aev ρ m) fun m=>bK G (aev ρ x) fun x=>wU P o t m x ρ H K
 | .entryStore _ m s v=>G=none/\quiet=false/\bK G (aev ρ m) fun m=>bK G (aev ρ s) fun s=>bK G (aev ρ v) fun v=>pX o m s v ρ H K
 | _=>False
def uD(P:Program)(C:jI)(PC:FuncId->List AV->aG->AV->Prop)(mt:Nat->Bool)(quiet:Bool)(ops:Array Oper)(K:Env->aG->Prop):List Oper->Env->aG->Prop
 | [],ρ,H=>K ρ H
 | o::rest,ρ,H=>aop P C PC mt quiet ops o ρ H (uD P C PC mt quiet ops K rest)
def Ex.seq(K:Env->aG->Prop)(Q:Ex->Env->aG->Prop):Ex->Env->aG->Prop
 | .normal,ρ,H=>K ρ H
 | e,ρ,H=>Q e ρ H
def Ex.blk(id:Nat)(Q:Ex->Env->aG->Prop):Ex->Env->aG->Prop
 | .exit i,ρ,H=>if i=id then Q .normal ρ H else Q (.exit i) ρ H
 | e,ρ,H=>Q e ρ H
def KY(W:(Ex->Env->aG->Prop)->Env->aG->Prop)(Q:Ex->Env->aG->Prop)(ρ:Env)(H:aG):Prop:=
 ∃(I:Env->aG->Prop) (μ:Env->aG->Nat),I ρ H/\∀ρ' H',I ρ' H'->W (Ex.seq (fun ρ'' H''=>I ρ'' H''/\μ ρ'' H''<μ ρ' H') Q) ρ' H'
def Zc(mt:Nat->Bool)(o:Oper):Bool:=match o.op with
 | .alloc _=>true
 | .buildSlice ..=>true
 | .store ..=>true
 | .makeSlice ..=>true
 | .makeMap ..=>true
 | .mapUpdate ..=>true
 | .insert ..=>true
 | .mapEntry ..=>true
 | .entryStore ..=>true
 | .call ⟨.builtin .append,_,_⟩=>true
 | .call ⟨.builtin .copy,_,_⟩=>true
 | .call ⟨.builtin .clear,_,_⟩=>true
 | _=>nZ mt o.dst
def Pc(mt:Nat->Bool):List Oper->Nat
 | []=>0
 | o::r=>if Zc mt o=true then 0 else Pc mt r+1
def QB(ops:Array Oper)(n:Nat):Bool:=Region.noSelect ops&&decide (n<=ops.size)&&Region.lexHead .any ops (ops.size-n) n 0 (Array.replicate ops.size false)
def qH(o:Oper)(H:aG):aG:=match o.op with
 | .slice ..=>H
 | _=>fun _=>none
def vC(P:Program)(C:jI)(PC:FuncId->List AV->aG->AV->Prop)(mt:Nat->Bool)(ops:Array Oper)(K:Env->aG->Prop):List (Nat×Bool)->Env->aG->Prop
 | [],ρ,H=>K ρ H
 | (k,b)::f,ρ,H=>match ops[k]? with
   | some o=>if b=true then aop P C PC mt true ops o ρ (qH o H) fun ρ' _=>vC P C PC mt ops K f ρ' H
     else aop P C PC mt false ops o ρ H (vC P C PC mt ops K f)
   | none=>False
def sI(P:Program)(C:jI)(PC:FuncId->List AV->aG->AV->Prop)(mt:Nat->Bool)(ops:Array Oper)(K:Env->aG->Prop)(Hp:aG):List (Nat×Bool)->Env->aG->Prop
 | [],ρ,H=>K ρ H
 | (k,b)::f,ρ,H=>match ops[k]? with
   | some o=>if b=true then aop P C PC mt true ops o ρ Hp fun ρ' _=>sI P C PC mt ops K Hp f ρ' H
     else aop P C PC mt false ops o ρ H (sI P C PC mt ops K Hp f)
   | none=>False
def mI(l:List Nat)(H:aG)(K:Env->aG->Prop)(ρ':Env)(H':aG):Prop:=
 (∀k,k∈l->H' k=none)->∀Hm:aG,(∀k,k∈l->Hm k=H k)->(∀k,k∉l->Hm k=H' k)->K ρ' Hm
def dN{l:List Nat}{H:aG}{K:Env->aG->Prop}{A:Env}{H':aG}(h:(∀k,k∈l->H' k=none)->∀E:aG,(∀k,k∈l->E k=H k)->(∀k,k∉l->E k=H' k)->K A E):mI l H K A H':=h
def mW(ops:Array Oper):List (Nat×Bool)->Array Bool->Bool
 | [],listed=>(Region.ready .any ops listed).isEmpty
 | (k,true)::f,listed=>(Region.ready .any ops listed).contains k&&Region.free .any ops listed k&&mW ops f (listed.setIfInBounds k true)
 | (k,false)::f,listed=>decide (Region.ready .any ops listed=[k])&&mW ops f (listed.setIfInBounds k true)
def NN(ops:Array Oper)(f:List (Nat×Bool)):Bool:=Region.noSelect ops&&decide (f.length=ops.size)&&mW ops f (Array.replicate ops.size false)
inductive Mx where
 | nil
 | q (k:Nat) (t:Mx)
 | a1 (k:Nat) (t:Mx)
 | a2 (k:Nat) (t:Mx) (k':Nat) (t':Mx)
 | a3 (k:Nat) (t:Mx) (k':Nat) (t':Mx) (k'':Nat) (t'':Mx)
def xI(P:Program)(C:jI)(PC:FuncId->List AV->aG->AV->Prop)(mt:Nat->Bool)(quiet:Bool)(ops:Array Oper)(k:Nat)(ρ:Env)(H:aG)(K:Env->aG->Prop):Prop:=
 match ops[k]? with
 | some o=>aop P C PC mt quiet ops o ρ H K
 | none=>False
def jJ(P:Program)(C:jI)(PC:FuncId->List AV->aG->AV->Prop)(mt:Nat->Bool)(ops:Array Oper)(K:Env->aG->Prop)(Hp:aG):Mx->Env->aG->Prop
 | .nil,ρ,H=>K ρ H
 | .q k t,ρ,H=>xI P C PC mt true ops k ρ Hp fun ρ' _=>jJ P C PC mt ops K Hp t ρ' H
 | .a1 k t,ρ,H=>xI P C PC mt false ops k ρ H (jJ P C PC mt ops K Hp t)
 | .a2 k t k' t',ρ,H=>xI P C PC mt false ops k ρ H (jJ P C PC mt ops K Hp t)/\xI P C PC mt false ops k' ρ H (jJ P C PC mt ops K Hp t')
 | .a3 k t k' t' k'' t'',ρ,H=>xI P C PC mt false ops k ρ H (jJ P C PC mt ops K Hp t)/\xI P C PC mt false ops k' ρ H (jJ P C PC mt ops K Hp t')/\xI P C PC mt false ops k'' ρ H (jJ P C PC mt ops K Hp t'')
def dM(ops:Array Oper):Mx->Nat->Array Bool->Bool
 | .nil,0,listed=>(Region.ready .any ops listed).isEmpty
 | .q k t,n+1,listed=>(Region.ready .any ops listed).contains k&&Region.free .any ops listed k&&dM ops t n (listed.setIfInBounds k true)
 | .a1 k t,n+1,listed=>decide (Region.ready .any ops listed=[k])&&dM ops t n (listed.setIfInBounds k true)
 | .a2 k t k' t',n+1,listed=>decide (Region.ready .any ops listed=[k,k'])&&dM ops t n (listed.setIfInBounds k true)&&dM ops t' n (listed.setIfInBounds k' true)
 | .a3 k t k' t' k'' t'',n+1,listed=>decide (Region.ready .any ops listed=[k,k',k''])&&dM ops t n (listed.setIfInBounds k true)&&dM ops t' n (listed.setIfInBounds k' true)&&dM ops t'' n (listed.setIfInBounds k'' true)
 | _,_,_=>false
def Eh(ops:Array Oper)(t:Mx):Bool:=Region.noSelect ops&&dM ops t ops.size (Array.replicate ops.size false)
def qF(P:Program)(C:jI)(PC:FuncId->List AV->aG->AV->Prop)(mt:Nat->Bool)(ops:Array Oper)(K:Env->aG->Prop)(m:Nat)(ρ:Env)(H:aG):Prop:=
 (m=ops.size/\Region.lexB .any ops=true/\uD P C PC mt true ops K ops.toList ρ H) \/
 (QB ops m=true/\uD P C PC mt true ops (fun ρ' _=>uD P C PC mt false ops K (ops.toList.drop m) ρ' H) (ops.toList.take m) ρ fun _=>none) \/
 (∃f,NN ops f=true/\vC P C PC mt ops K f ρ H) \/
 ∃l t,(∀k,k∈l->(H k).isSome=true)/\Eh ops t=true/\∀Hp Hr:aG,(∀k,k∈l->Hp k=H k)->(∀k,k∉l->Hr k=H k)->(∀k,k∉l->Hp k=none)->(∀k,k∈l->Hr k=none)->jJ P C PC mt ops (mI l H K) Hp t ρ Hr
def dD{P:Program}{C:jI}{PC:FuncId->List AV->aG->AV->Prop}{mt:Nat->Bool}{l:List Oper}{K:Env->aG->Prop}{m:Nat}{ρ:Env}{H:aG}(A:(m == l.length)=true)(E:Region.lexB .any l.toArray=true)
 (h:uD P C PC mt true l.toArray K l ρ H):qF P C PC mt l.toArray K m ρ H:=.inl ⟨by simpa using A,E,h⟩
def Yj{P:Program}{C:jI}{PC:FuncId->List AV->aG->AV->Prop}{mt:Nat->Bool}{l:List Oper}{K:Env->aG->Prop}{m:Nat}{ρ:Env}{H:aG}(E:QB l.toArray m=true)
 (h:uD P C PC mt true l.toArray (fun A _=>uD P C PC mt false l.toArray K (l.drop m) A H) (l.take m) ρ fun _=>none):qF P C PC mt l.toArray K m ρ H:=.inr (.inl ⟨E,h⟩)
def As{P:Program}{C:jI}{PC:FuncId->List AV->aG->AV->Prop}{mt:Nat->Bool}{l:List Oper}{K:Env->aG->Prop}{m:Nat}{ρ:Env}{H:aG}(f:List (Nat×Bool))(A:NN l.toArray f=true)
 (h:vC P C PC mt l.toArray K f ρ H):qF P C PC mt l.toArray K m ρ H:=.inr (.inr (.inl ⟨f,A,h⟩))
def xE{P:Program}{C:jI}{PC:FuncId->List AV->aG->AV->Prop}{mt:Nat->Bool}{ops:List Oper}{K:Env->aG->Prop}{m:Nat}{ρ:Env}{H:aG}(l:List Nat)(t:Mx)(E:∀k,k∈l->(H k).isSome=true)(F:Eh ops.toArray t=true)
 (h:∀Hp A:aG,(∀k,k∈l->Hp k=H k)->(∀k,k∉l->A k=H k)->(∀k,k∉l->Hp k=none)->(∀k,k∈l->A k=none)->jJ P C PC mt ops.toArray (mI l H K) Hp t ρ A):qF P C PC mt ops.toArray K m ρ H:=.inr (.inr (.inr ⟨l,t,E,F,h⟩))
def mxL:List (Nat×Bool)->Mx
 | []=>.nil
 | (k,true)::f=>.q k (mxL f)
 | (k,false)::f=>.a1 k (mxL f)
def T3{P:Program}{C:jI}{PC:FuncId->List AV->aG->AV->Prop}{mt:Nat->Bool}{ops:Array Oper}{K:Env->aG->Prop}(Hp:aG):∀f,sI P C PC mt ops K Hp f=jJ P C PC mt ops K Hp (mxL f)
 | []=>by funext ρ H;simp only[sI,mxL,jJ]
 | (k,b)::f=>by funext ρ H;cases b <;> simp[sI,mxL,jJ,xI,T3 Hp f]
def abM{ops:Array Oper}{f:List (Nat×Bool)}(h:NN ops f=true):Eh ops (mxL f)=true:=by
 have A:∀(f:List (Nat×Bool)) (l:Array Bool),mW ops f l=true->dM ops (mxL f) f.length l=true:=by
  intro f;induction f with
  | nil=>intro l h;simpa[mW,mxL,dM]using h
  | cons x f ih=>
   intro l h;obtain⟨k,b⟩:=x;cases b <;> simp only[mW,Bool.and_eq_true]at h <;> simp only[mxL,dM,List.length_cons,Bool.and_eq_true]
   ·exact⟨h.1,ih _ h.2⟩
   ·exact⟨h.1,ih _ h.2⟩
 simp only[NN,Bool.and_eq_true,decide_eq_true_eq]at h;simp only[Eh,Bool.and_eq_true];have e:=A f _ h.2;rw[h.1.2]at e;exact⟨h.1.1,e⟩
def fW{P:Program}{C:jI}{PC:FuncId->List AV->aG->AV->Prop}{mt:Nat->Bool}{ops:List Oper}{K:Env->aG->Prop}{m:Nat}{ρ:Env}{H:aG}(l:List Nat)(f:List (Nat×Bool))(I:∀k,k∈l->(H k).isSome=true)(M:NN ops.toArray f=true)
 (h:∀Hp A:aG,(∀k,k∈l->Hp k=H k)->(∀k,k∉l->A k=H k)->(∀k,k∉l->Hp k=none)->(∀k,k∈l->A k=none)->sI P C PC mt ops.toArray (mI l H K) Hp f ρ A):qF P C PC mt ops.toArray K m ρ H:=xE l (mxL f) I (abM M) fun Hp A h1 E F J=>by rw[<-T3 Hp f];exact h Hp A h1 E F J
def awp(P:Program)(C:jI)(PC:FuncId->List AV->aG->AV->Prop)(mt:Nat->Bool):Code->(Ex->Env->aG->Prop)->Env->aG->Prop
 | .skip,Q,ρ,H=>Q .normal ρ H
 | .region _ ops draw,Q,ρ,H=>if draw=true then qF P C PC mt ops (Q .normal) (Pc mt ops.toList) ρ H else uD P C PC mt false ops (Q .normal) ops.toList ρ H
 | .seq a b,Q,ρ,H=>awp P C PC mt a (Ex.seq (awp P C PC mt b Q) Q) ρ H
 | .cond c a b,Q,ρ,H=>match aev ρ c with
   | .v (.bool t)=>(t=true->awp P C PC mt a Q ρ H)/\(t=false->awp P C PC mt b Q ρ H)
   | _=>False
 | .block id c,Q,ρ,H=>awp P C PC mt c (Ex.blk id Q) ρ H
 | .loop c,Q,ρ,H=>KY (awp P C PC mt c) Q ρ H
 | .scope c,Q,ρ,H=>awp P C PC mt c Q ρ H
 | .label _,Q,ρ,H=>Q .normal ρ H
 | .exit id,Q,ρ,H=>Q (.exit id) ρ H
 | .ret,Q,ρ,H=>Q .ret ρ H
 | _,_,_,_=>False
def xY(x:AV)(A B:Env->aG->Prop)(ρ:Env)(H:aG):Prop:=
 match x with
 | .v (.bool t)=>(t=true->A ρ H)/\(t=false->B ρ H)
 | _=>False
section
variable{P:Program}{C:jI}{PC:FuncId->List AV->aG->AV->Prop}{mt:Nat->Bool}{Q:Ex->Env->aG->Prop}{K:Env->aG->Prop}{ρ:Env}{H:aG}{a b c:Code}{id:Nat}{ops:Array Oper}{draw:Bool}
def U3:awp P C PC mt .skip Q ρ H=Q .normal ρ H:=(rfl)
def Dn:awp P C PC mt (.region id ops false) Q ρ H=uD P C PC mt false ops (Q .normal) ops.toList ρ H:=by simp[awp]
def Lz:awp P C PC mt (.region id ops true) Q ρ H=qF P C PC mt ops (Q .normal) (Pc mt ops.toList) ρ H:=by simp[awp]
@[congr] theorem adraw_c {m m':Nat} (h:m=m'):qF P C PC mt ops K m ρ H=qF P C PC mt ops K m' ρ H:=h▸rfl
def Pq:awp P C PC mt (.seq a b) Q ρ H=awp P C PC mt a (Ex.seq (awp P C PC mt b Q) Q) ρ H:=(rfl)
def LH{x:Operand}:awp P C PC mt (.cond x a b) Q ρ H=xY (aev ρ x) (awp P C PC mt a Q) (awp P C PC mt b Q) ρ H:=(rfl)
def FW:awp P C PC mt (.block id c) Q ρ H=awp P C PC mt c (Ex.blk id Q) ρ H:=(rfl)
def Lm:awp P C PC mt (.loop c) Q ρ H=KY (awp P C PC mt c) Q ρ H:=(rfl)
def FZ:awp P C PC mt (.scope c) Q ρ H=awp P C PC mt c Q ρ H:=(rfl)
def Sm{l:Nat}:awp P C PC mt (.label l) Q ρ H=Q .normal ρ H:=(rfl)
def T8:awp P C PC mt (.exit id) Q ρ H=Q (.exit id) ρ H:=(rfl)
def Yh:awp P C PC mt .ret Q ρ H=Q .ret ρ H:=(rfl)
def TJ:uD P C PC mt draw ops K [] ρ H=K ρ H:=(rfl)
def QV{o:Oper}{r:List Oper}:uD P C PC mt draw ops K (o::r) ρ H=aop P C PC mt draw ops o ρ H (uD P C PC mt draw ops K r):=(rfl)
def MH:Ex.seq K Q .normal ρ H=K ρ H:=(rfl)
def Us:Ex.seq K Q (.exit id) ρ H=Q (.exit id) ρ H:=(rfl)
def Xg:Ex.seq K Q .ret ρ H=Q .ret ρ H:=(rfl)
def OG:Ex.blk id Q .normal ρ H=Q .normal ρ H:=(rfl)
def PS:Ex.blk id Q .ret ρ H=Q .ret ρ H:=(rfl)
def J6:Ex.blk id Q (.exit id) ρ H=Q .normal ρ H:=by simp[Ex.blk]
def RN{i:Nat}(h:(i == id)=false):Ex.blk id Q (.exit i) ρ H=Q (.exit i) ρ H:=by
 have:i≠id:=by simpa using h
 simp[Ex.blk,this]
end
@[congr] theorem wopd_c {G x x' k} (h:x=x'):bK G x k=bK G x' k:=h▸rfl
@[congr] theorem abin_c {P G op t x x' y y' k} (h:x=x') (h':y=y'):fO P G op t x y k=fO P G op t x' y' k:=h▸h'▸rfl
@[congr] theorem apick_c {G c c' x x' y y' k} (h0:c=c') (h:x=x') (h':y=y'):xX G c x y k=xX G c' x' y' k:=h0▸h▸h'▸rfl
@[congr] theorem aload_c {G H l l' x x' k} (h:l=l') (h':x=x'):lY G H l x k=lY G H l' x' k:=h▸h'▸rfl
@[congr] theorem apart_c {G o o' l l' x x' k} (h0:o=o') (h:l=l') (h':x=x'):apart G o l x k=apart G o' l' x' k:=h0▸h▸h'▸rfl
@[congr] theorem alen_c {P H t x x' k} (h':x=x'):Ei P H t x k=Ei P H t x' k:=h'▸rfl
@[congr] theorem aindexAddr_c {P G H t x x' y y' k} (h:x=x') (h':y=y'):dO P G H t x y k=dO P G H t x' y' k:=h▸h'▸rfl
@[congr] theorem aindex_c {P G t x x' y y' k} (h:x=x') (h':y=y'):uG P G t x y k=uG P G t x' y' k:=h▸h'▸rfl
@[congr] theorem afieldAddr_c {P t f x x' k} (h':x=x'):gW P t f x k=gW P t f x' k:=h'▸rfl
@[congr] theorem abuild_c {P t l l' k} (h':l=l'):tK P t l k=tK P t l' k:=h'▸rfl
@[congr] theorem aslice_c {P G t x x' lo lo' hi hi' k} (h:x=x') (h1:lo=lo') (h2:hi=hi'):kL P G t x lo hi k=kL P G t x' lo' hi' k:=h▸h1▸h2▸rfl
@[congr] theorem aun_c {op x x' k} (h':x=x'):aun op x k=aun op x' k:=h'▸rfl
@[congr] theorem aconv_c {P s t x x' k} (h':x=x'):AR P s t x k=AR P s t x' k:=h'▸rfl
@[congr] theorem wcells_c {x x' K} (h:x=x'):kM x K=kM x' K:=h▸rfl
@[congr] theorem acond_c {x x' A B ρ H} (h':x=x'):xY x A B ρ H=xY x' A B ρ H:=h'▸rfl
@[congr] theorem abox_c {mt o t x x' ρ H K} (h:x=x'):Yi mt o t x ρ H K=Yi mt o t x' ρ H K:=h▸rfl
@[congr] theorem abuildSlice_c {P mt G o t n x x' ρ H K} (h:x=x'):lH P mt G o t n x ρ H K=lH P mt G o t n x' ρ H K:=h▸rfl
@[congr] theorem astore_c {P o t a a' x x' ρ H K} (h:a=a') (h':x=x'):vN P o t a x ρ H K=vN P o t a' x' ρ H K:=h▸h'▸rfl
@[congr] theorem aappend_c {P o t a a' x x' ρ H K} (h:a=a') (h':x=x'):oC P o t a x ρ H K=oC P o t a' x' ρ H K:=h▸h'▸rfl
@[congr] theorem asrc_c {H x x' K} (h:x=x'):pM H x K=pM H x' K:=h▸rfl
@[congr] theorem anew_c {H r r' K} (h:r=r'):mB H r K=mB H r' K:=h▸rfl
def aA{t:Bool}{A B:Env->aG->Prop}{ρ:Env}{H:aG}(h1:t=true->A ρ H)(E:t=false->B ρ H):xY (.v (.bool t)) A B ρ H:=⟨h1,E⟩
def Bx(args:List AV):Env:=fun t=>args.getD t .any
def aU:AV->Nat
 | .v (.int _ n)=>n.toNat
 | _=>0
def aF{k n}:aU (.v (.int k n))=n.toNat:=(rfl)
section
variable{G:Option Bool}{k:AV->Prop}
def US{x}:bK G (.v x) k=k (.v x):=(rfl)
def JT:bK G .any k=k .any:=(rfl)
def Pj{x}:bK G (.sl x) k=k (.sl x):=(rfl)
def PO{x o}:bK G (.rp x o) k=k (.rp x o):=(rfl)
def LE{x}:bK G (.agg x) k=k (.agg x):=(rfl)
def Lf{x}:bK G (.tup x) k=k (.tup x):=(rfl)
def Qd{x}:bK G (.os x) k=k (.os x):=(rfl)
def Qj{x i f}:bK G (.op x i f) k=k (.op x i f):=(rfl)
def Qg{f l}:bK G (.fn f l) k=k (.fn f l):=(rfl)
def O8{j a b}:bK G (.oz j a b) k=k (.oz j a b):=(rfl)
def Qb{es}:bK G (.cl es) k=k (.cl es):=(rfl)
def Qz{j}:bK G (.om j) k=k (.om j):=(rfl)
def P1{g x}:bK G (.gd g x) k=(gok G g/\k x):=(rfl)
end
def Qo(K:Env->aG->Prop)(ρ:Env)(d:Option Tmp)(j:Nat)(H:aG):Prop:=K (upd ρ d (.os j)) H
def Pt(K:Env->aG->Prop)(ρ:Env)(d:Option Tmp)(j:Nat)(H:aG):Prop:=K (upd ρ d (.op j 0 0)) H
def JA(K:Env->aG->Prop)(ρ:Env)(d:Option Tmp)(r:AV)(H:aG):Prop:=K (upd ρ d r) H
def Ke{K ρ d j H}:Qo K ρ d j H=K (upd ρ d (.os j)) H:=(rfl)
def Jr{K ρ d j H}:Pt K ρ d j H=K (upd ρ d (.op j 0 0)) H:=(rfl)
def J8{K ρ d r H}:JA K ρ d r H=K (upd ρ d r) H:=(rfl)
def wpick(G:Option Bool)(c x y:AV)(k:AV->Prop):Prop:=match c with
 | .v (.bool c)=>xX G c x y k
 | _=>False
@[congr] theorem wpick_c {G c c' x y k} (h:c=c'):wpick G c x y k=wpick G c' x y k:=h▸rfl
def PJ{G c x y k}:wpick G (.v (.bool c)) x y k=xX G c x y k:=(rfl)
def Ry(G:Option Bool)(x:AV)(k:AV->Prop):Prop:=match x with
 | .rp cs off=>k (.rp cs off)
 | .op j i f=>k (.op j i f)
 | .v (.pointer none)=>(gt G->False)/\∃cs off,k (.rp cs off)
 | _=>False
@[congr] theorem wptr_c {G x x' k} (h:x=x'):Ry G x k=Ry G x' k:=h▸rfl
def Qx{G cs o k}:Ry G (.rp cs o) k=k (.rp cs o):=(rfl)
def PN{G j i f k}:Ry G (.op j i f) k=k (.op j i f):=(rfl)
def I6{G k}:Ry G (.v (.pointer none)) k=((gt G->False)/\∃cs off,k (.rp cs off)):=(rfl)
def X9(G:Option Bool)(x:AV)(i:Nat)(k:AV->Prop):Prop:=match x with
 | .tup vs=>(gt G->i<vs.length)/\k (vs.getD i .any)
 | _=>False
@[congr] theorem wtup_c {G x x' i k} (h:x=x'):X9 G x i k=X9 G x' i k:=h▸rfl
def Qm{G vs i k}:X9 G (.tup vs) i k=((gt G->i<vs.length)/\k (vs.getD i .any)):=(rfl)
def Sn(P:Program)(d:Option Tmp)(t:TypeId)(a:AV)(cs:List AV)(ρ:Env)(H:aG)(K:Env->aG->Prop):Prop:=qJ P ⟨d,.move (.tmp 0),0,"",#[],none⟩ t a cs ρ H K
@[congr] theorem wput_c {P d t a a' cs cs' ρ H K} (h:a=a') (h':cs=cs'):Sn P d t a cs ρ H K=Sn P d t a' cs' ρ H K:=h▸h'▸rfl
def DZ(P:Program)(d:Option Tmp)(t:TypeId)(s x:AV)(ρ:Env)(H:aG)(K:Env->aG->Prop):Prop:=oC P ⟨d,.move (.tmp 0),0,"",#[],none⟩ t s x ρ H K
@[congr] theorem wapp_c {P d t s s' x x' ρ H K} (h:s=s') (h':x=x'):DZ P d t s x ρ H K=DZ P d t s' x' ρ H K:=h▸h'▸rfl
def JZ(P:Program)(d:Option Tmp)(t:TypeId)(l c:AV)(ρ:Env)(H:aG)(K:Env->aG->Prop):Prop:=pI P ⟨d,.move (.tmp 0),0,"",#[],none⟩ t l c ρ H K
@[congr] theorem wmake_c {P d t s s' x x' ρ H K} (h:s=s') (h':x=x'):JZ P d t s x ρ H K=JZ P d t s' x' ρ H K:=h▸h'▸rfl
def L1(P:Program)(d:Option Tmp)(t:TypeId)(x y:AV)(ρ:Env)(H:aG)(K:Env->aG->Prop):Prop:=QA P ⟨d,.move (.tmp 0),0,"",#[],none⟩ t x y ρ H K
@[congr] theorem wcopy_c {P d t s s' x x' ρ H K} (h:s=s') (h':x=x'):L1 P d t s x ρ H K=L1 P d t s' x' ρ H K:=h▸h'▸rfl
def XU{P:Program}{d:Option Tmp}{t:TypeId}{x y:AV}{ρ:Env}{H:aG}{K:Env->aG->Prop}{e:TypeId}{sz A j a n:Nat}{r:Row}{news:List (List AV)}(O:bN P t=some (e,sz,A))(J:H j=some r)
  (U:(x=.os j/\a=0/\n=r.es.length)\/∃b,x=.oz j a b/\n=b-a) (Y:y=.sl news\/(∃i r',y=.os i/\H i=some r'/\r'.es=news)\/∃i r' p q,y=.oz i p q/\H i=some r'/\(r'.es.take q).drop p=news)
  (h1:r.sz=sz) (T:cA sz news) (h:K (upd ρ d (.v (.int .i64 (min news.length n:Nat)))) (aI H j (some { r with es:=r.es.take a++news.take (min news.length n)++r.es.drop (a+min news.length n) }))):L1 P d t x y ρ H K:=by
 unfold L1 QA;have X:∀F:List (List AV)->Prop,F news->pM H y F:=by
  intro F E;rcases Y with rfl|⟨i,r',rfl,I,rfl⟩|⟨i,r',p,q,rfl,I,rfl⟩
  ·exact E
  ·simp only[pM,I];exact E
  ·simp only[pM,I];exact E
 have M:∀F:Nat->Nat->Nat->Row->Prop,F j a n r->MV H x F:=by
  intro F E;rcases U with⟨rfl,rfl,rfl⟩|⟨b,rfl,rfl⟩
  ·simp only[MV,J];exact E
  ·simp only[MV,J];exact E
 refine M _ (X _ ?_);simp only[O];exact⟨⟨h1,T⟩,h⟩
def NY(P:Program)(d:Option Tmp)(t:TypeId)(x:AV)(ρ:Env)(H:aG)(K:Env->aG->Prop):Prop:=Me P ⟨d,.move (.tmp 0),0,"",#[],none⟩ t x ρ H K
@[congr] theorem wclear_c {P d t s s' ρ H K} (h:s=s'):NY P d t s ρ H K=NY P d t s' ρ H K:=h▸rfl
def PI{P:Program}{d:Option Tmp}{t:TypeId}{es:List (List AV)}{x:AV}{ρ:Env}{H:aG}{K:Env->aG->Prop}{e:TypeId}{sz A:Nat}{news:List (List AV)}(M:bN P t=some (e,sz,A))
  (I:x=.sl news\/∃i r',x=.os i/\H i=some r'/\r'.es=news) (h0:news≠[]) (h1:cA sz es) (E:cA sz news) (F:(es.length+news.length)*A<=140737488355328)
  (h:∀j',H j'=none->K (upd ρ d (.os j')) (aI H j' (some ⟨e,sz,es++news⟩))):DZ P d t (.cl es) x ρ H K:=by
 unfold DZ oC;simp only[M];rcases I with rfl|⟨i,r',rfl,J,rfl⟩
 ·exact⟨⟨h0,h1,E,F⟩,h⟩
 ·simp only[pM,J];exact⟨⟨h0,h1,E,F⟩,h⟩
def VW{P:Program}{d:Option Tmp}{t:TypeId}{x:AV}{ρ:Env}{H:aG}{K:Env->aG->Prop}{e:TypeId}{sz A:Nat}{news:List (List AV)}(M:bN P t=some (e,sz,A))
  (I:x=.sl news\/∃i r',x=.os i/\H i=some r'/\r'.es=news) (h0:news≠[]) (E:cA sz news) (F:news.length*A<=140737488355328)
  (h:∀j',H j'=none->K (upd ρ d (.os j')) (aI H j' (some ⟨e,sz,news⟩))):DZ P d t (.v (.slice none 0 0)) x ρ H K:=by
 unfold DZ oC;simp only[M];rcases I with rfl|⟨i,r',rfl,J,rfl⟩
 ·exact .inr ⟨⟨h0,trivial,E,by simpa using F⟩,h⟩
 ·simp only[pM,J];exact .inr ⟨⟨h0,trivial,E,by simpa using F⟩,h⟩
def aJ{H:aG}{r:Row}{F:Nat->aG->Prop}(h:∀j,H j=none->F j (aI H j (some r))):mB H r F:=h
def bD{α:Type}(o:Option α)(f:α->Prop):Prop:=match o with|some x=>f x|none=>False
def EO{α:Type}{x:α}{f:α->Prop}:bD (some x) f=f x:=(rfl)
@[congr] theorem withO_c {α:Type} {o o':Option α} {f:α->Prop} (h:o=o'):bD o f=bD o' f:=h▸rfl
section
variable{P:Program}{C:jI}{PC:FuncId->List AV->aG->AV->Prop}{mt:Nat->Bool}{q:Bool}{ops:Array Oper}{d:Option Tmp}{ty:TypeId}{pos:String}{aft:Array Edge}{ρ:Env}{H:aG}{K:Env->aG->Prop}{G:Option Bool}{k:AV->Prop}
def O5{t}:aev ρ (.tmp t)=ρ t:=(rfl)
def Gd{v}:aev ρ (.const v)=nC v:=(rfl)
def KN{f}:aev ρ (.func f)=.v (.func (.func f) #[] #[]):=(rfl)
def LR{t n a b}:fO P G .add t (.v (.int n a)) (.v (.int n b)) k=k (.v (.int n (n.wrap (a+b)))):=by simp[fO,uS]
def I7{t n a b}:fO P G .sub t (.v (.int n a)) (.v (.int n b)) k=k (.v (.int n (n.wrap (a-b)))):=by simp[fO,uS]
def JE{t n a b}:fO P G .mul t (.v (.int n a)) (.v (.int n b)) k=k (.v (.int n (n.wrap (a*b)))):=by simp[fO,uS]
def Jl{t n a b}:fO P G .quo t (.v (.int n a)) (.v (.int n b)) k=((gt G->b≠0)/\k (.v (.int n (n.wrap (a.tdiv b))))):=by simp[fO,uS]
def JB{t n a b}:fO P G .rem t (.v (.int n a)) (.v (.int n b)) k=((gt G->b≠0)/\k (.v (.int n (a.tmod b)))):=by simp[fO,uS]
def LZ{t n a b}:fO P G .eql t (.v (.int n a)) (.v (.int n b)) k=k (.v (.bool (a == b))):=by simp[fO,uS]
def KX{t n a b}:fO P G .neq t (.v (.int n a)) (.v (.int n b)) k=k (.v (.bool (a != b))):=by simp[fO,uS]
def K5{t n a b}:fO P G .lss t (.v (.int n a)) (.v (.int n b)) k=k (.v (.bool (decide (a<b)))):=by simp[fO,uS]
def Jd{t n a b}:fO P G .leq t (.v (.int n a)) (.v (.int n b)) k=k (.v (.bool (decide (a<=b)))):=by simp[fO,uS]
def Kx{t n a b}:fO P G .gtr t (.v (.int n a)) (.v (.int n b)) k=k (.v (.bool (decide (a>b)))):=by simp[fO,uS]
def K7{t n a b}:fO P G .geq t (.v (.int n a)) (.v (.int n b)) k=k (.v (.bool (decide (a>=b)))):=by simp[fO,uS]
def Jo{t n m a b}:fO P G .shl t (.v (.int n a)) (.v (.int m b)) k=((gt G->0<=b)/\k (.v (.int n (shV .shl n a b)))):=by simp[fO,uS]
def Ja{t n m a b}:fO P G .shr t (.v (.int n a)) (.v (.int m b)) k=((gt G->0<=b)/\k (.v (.int n (shV .shr n a b)))):=by simp[fO,uS]
def Ka{t n a b}:fO P G .and t (.v (.int n a)) (.v (.int n b)) k=k (.v (.int n (pU .and n a b))):=by simp[fO,uS]
def Pb{t n a b}:fO P G .or t (.v (.int n a)) (.v (.int n b)) k=k (.v (.int n (pU .or n a b))):=by simp[fO,uS]
def Cx{t n a b}:fO P G .andNot t (.v (.int n a)) (.v (.int n b)) k=k (.v (.int n (pU .andNot n a b))):=by simp[fO,uS]
def Gz{op t x}:fO P G op t .any (.v x) k=((gt G->False)/\k .any):=by cases x with
 | pointer a=>cases a <;> rfl
 | _=>rfl
def GK{x}:uO false .any (.v x)=.v x:=by cases x <;> rfl
def FE{t a b}:fO P G .add t (.v (.string a)) (.v (.string b)) k=((gt G->((a.size+b.size:Nat):Int)<=IntKind.i64.max)/\k (.v (.string (a++b)))):=(rfl)
def F5{t a b}:fO P G .eql t (.v (.string a)) (.v (.string b)) k=k (.v (.bool (a.toList == b.toList))):=(rfl)
def GS{t a b}:fO P G .neq t (.v (.string a)) (.v (.string b)) k=k (.v (.bool !(a.toList == b.toList))):=(rfl)
def GB{t a b}:fO P G .eql t (.v (.bool a)) (.v (.bool b)) k=if xA P t then k (.v (.bool (a == b)))else False:=(rfl)
def Fy{t a b}:fO P G .neq t (.v (.bool a)) (.v (.bool b)) k=if xA P t then k (.v (.bool !(a == b)))else False:=(rfl)
def Gs{t x y}:fO P G .eql t (.agg x) (.agg y) k=bD (sN P t) fun l=>bD (fJ l x y) fun b=>k (.v (.bool b)):=by
 cases h1:sN P t with
 | none=>simp[fO,bD,h1]
 | some l=>cases A:fJ l x y <;> simp[fO,bD,h1,A]
def Gc{t x y}:fO P G .neq t (.agg x) (.agg y) k=bD (sN P t) fun l=>bD (fJ l x y) fun b=>k (.v (.bool !b)):=by
 cases h1:sN P t with
 | none=>simp[fO,bD,h1]
 | some l=>cases A:fJ l x y <;> simp[fO,bD,h1,A]
def J0{c x y}:xX G c (.v x) (.v y) k=k (uO c (.v x) (.v y)):=(rfl)
def Jh{c x g y}:xX G c (.v x) (.gd g y) k=((gt G->c=false->g=true)/\k (uO c (.v x) y)):=(rfl)
def Kt{c g x y}:xX G c (.gd g x) (.v y) k=((gt G->c=true->g=true)/\k (uO c x (.v y))):=(rfl)
def Qr{c b}:uO c (.v (.bool true)) (.v (.bool b))=.v (.bool (c||b)):=(rfl)
def Qc{c a}:uO c (.v (.bool a)) (.v (.bool false))=.v (.bool (c&&a)):=by cases a <;> cases c <;> rfl
def FO{cs o}:lY G H none (.rp cs o) k=((gt G->o<cs.length)/\k (cs.getD o .any)):=(rfl)
def Gv{cs o n}:lY G H (some n) (.rp cs o) k=((gt G->o+n<=cs.length)/\k (.agg ((cs.drop o).take n))):=(rfl)
def GH{j i f}:lY G H none (.op j i f) k=bD (H j) fun r=>(gt G->i<r.es.length/\f<r.sz)/\k ((r.es.getD i []).getD f .any):=by cases h1:H j <;> simp[lY,bD,h1]
def F7{j i f n}:lY G H (some n) (.op j i f) k=bD (H j) fun r=>(gt G->i<r.es.length/\f+n<=r.sz)/\k (.agg (((r.es.getD i []).drop f).take n)):=by cases h1:H j <;> simp[lY,bD,h1]
def PW{o cs}:apart G o none (.agg cs) k=((gt G->o<cs.length)/\k (cs.getD o .any)):=(rfl)
def Qy{o n cs}:apart G o (some n) (.agg cs) k=((gt G->o+n<=cs.length)/\k (.agg ((cs.drop o).take n))):=(rfl)
def Pa{t es}:Ei P H t (.sl es) k=if bS P t then k (.v (.int .i64 es.length))else False:=(rfl)
def O2{t j}:Ei P H t (.os j) k=bD (H j) fun r=>if bS P t then k (.v (.int .i64 r.es.length))else False:=by cases h1:H j <;> simp[Ei,bD,h1]
def QE{t j a b}:Ei P H t (.oz j a b) k=if bS P t then k (.v (.int .i64 (b-a:Nat)))else False:=(rfl)
def Ph{t s}:Ei P H t (.v (.string s)) k=if dS P t then k (.v (.int .i64 s.size))else False:=(rfl)
def xP{t es n i}:dO P G H t (.sl es) (.v (.int n i)) k=bD (bN P t) fun e=>(gt G->(0<=i/\i<es.length)/\(es.getD i.toNat []).length=e.2.1)/\k (.rp (es.getD i.toNat []) 0):=by cases h1:bN P t <;> simp[dO,bD,h1]
def xQ{t j n i}:dO P G H t (.os j) (.v (.int n i)) k=bD (H j) fun r=>bD (bN P t) fun e=>(gt G->(0<=i/\i<r.es.length)/\r.sz=e.2.1)/\k (.op j i.toNat 0):=by cases h1:H j <;> cases A:bN P t <;> simp[dO,bD,h1,A]
def yE{t j a b n i}:dO P G H t (.oz j a b) (.v (.int n i)) k=bD (H j) fun r=>bD (bN P t) fun e=>(gt G->(0<=i/\i<(b-a:Nat))/\r.sz=e.2.1)/\k (.op j (a+i.toNat) 0):=by cases h1:H j <;> cases A:bN P t <;> simp[dO,bD,h1,A]
def xV{t cs o n i}:dO P G H t (.rp cs o) (.v (.int n i)) k=bD (zC P t) fun e=>(gt G->0<=i/\i<e.1)/\k (.rp cs (o+i.toNat*e.2.1)):=by cases h1:zC P t <;> simp[dO,bD,h1]
def yB{t j a o n i}:dO P G H t (.op j a o) (.v (.int n i)) k=bD (zC P t) fun e=>(gt G->0<=i/\i<e.1)/\k (.op j a (o+i.toNat*e.2.1)):=by cases h1:zC P t <;> simp[dO,bD,h1]
def yA{t f cs o}:gW P t f (.rp cs o) k=bD (aK P t f) fun e=>k (.rp cs (o+e.1)):=by cases h1:aK P t f <;> simp[gW,bD,h1]
def yG{t f j i o}:gW P t f (.op j i o) k=bD (aK P t f) fun e=>k (.op j i (o+e.1)):=by cases h1:aK P t f <;> simp[gW,bD,h1]
def Pn{b}:aun .not (.v (.bool b)) k=k (.v (.bool !b)):=(rfl)
def O7{n i}:aun .neg (.v (.int n i)) k=k (.v (.int n (n.wrap (0-i)))):=(rfl)
def F8{s t n i}:AR P s t (.v (.int n i)) k=bD (DS P t) fun m=>bD (DS P s) fun _=>k (.v (.int m (m.wrap i))):=by cases h1:DS P t <;> cases A:DS P s <;> simp[AR,bD,h1,A]
def G0{s t x}:AR P s t (.v (.string x)) k=if dS P s/\dS P t then k (.v (.string x))else False:=(rfl)
def GE{t es n a m b}:kL P G t (.sl es) (some (.v (.int n a))) (some (.v (.int m b))) k=bD (bN P t) fun e=>(gt G->(0<=a/\a<=b/\b<=es.length)/\cA e.2.1 es)/\k (.sl ((es.take b.toNat).drop a.toNat)):=by cases h1:bN P t <;> simp[kL,bD,h1]
def JO{t es n a}:kL P G t (.sl es) (some (.v (.int n a))) none k=bD (bN P t) fun e=>(gt G->(0<=a/\a<=es.length)/\cA e.2.1 es)/\k (.sl (es.drop a.toNat)):=by cases h1:bN P t <;> simp[kL,bD,h1]
def JF{t es m b}:kL P G t (.sl es) none (some (.v (.int m b))) k=bD (bN P t) fun _=>(gt G->0<=b/\b<=es.length)/\k (.sl (es.take b.toNat)):=by cases h1:bN P t <;> simp[kL,bD,h1]
def ER{t s n a m b}:kL P G t (.v (.string s)) (some (.v (.int n a))) (some (.v (.int m b))) k=if dS P t then(gt G->0<=a/\a<=b/\b<=s.size)/\k (.v (.string (s.extract a.toNat b.toNat)))else False:=(rfl)
def FQ{t s n a}:kL P G t (.v (.string s)) (some (.v (.int n a))) none k=if dS P t then(gt G->0<=a/\a<=s.size)/\k (.v (.string (s.extract a.toNat s.size)))else False:=(rfl)
def GA{t s m b}:kL P G t (.v (.string s)) none (some (.v (.int m b))) k=if dS P t then(gt G->0<=b/\b<=s.size)/\k (.v (.string (s.extract 0 b.toNat)))else False:=(rfl)
def K9{P:Program}{t es n m}{a b:Int}:BX P G t (.sl es) (.v (.int n a)) (.v (.int m b)) k=bD (bN P t) fun _=>(gt G->a=es.length/\b=es.length)/\k (.cl es):=by unfold BX bD;cases bN P t <;> rfl
@[congr] theorem aclip_c {P:Program} {t x x' a a' b b'} (h:x=x') (h1:a=a') (h2:b=b'):BX P G t x a b k=BX P G t x' a' b' k:=h▸h1▸h2▸rfl
def Gi{t s n i}:uG P G t (.v (.string s)) (.v (.int n i)) k=if dS P t then(gt G->0<=i/\i<s.size)/\k (.v (.int .u8 ((s.data.getD i.toNat 0).toNat:Int)))else False:=(rfl)
def Gf{t cs n i}:uG P G t (.agg cs) (.v (.int n i)) k=bD (zC P t) fun e=>(gt G->0<=i/\i<e.1)/\apart G (i.toNat*e.2.1) e.2.2 (.agg cs) k:=by cases h1:zC P t <;> simp[uG,bD,h1]
def Dr{cs}{k:List AV->Prop}:kM (.agg cs) k=k cs:=(rfl)
def JX{v}{k:List AV->Prop}:kM (.v v) k=(v.oneCell'=true/\k [.v v]):=(rfl)
def Ge{es}{k:List AV->Prop}:kM (.sl es) k=k [.sl es]:=(rfl)
def Gr{cs o}{k:List AV->Prop}:kM (.rp cs o) k=k [.rp cs o]:=(rfl)
def GL{j}{k:List AV->Prop}:kM (.os j) k=k [.os j]:=(rfl)
def Gh{j i f}{k:List AV->Prop}:kM (.op j i f) k=k [.op j i f]:=(rfl)
def FX{t l}:tK P t l k=bD (cM P t) fun z=>bD (cR P t) fun A=>bD (nR A z l) fun cs=>k (.agg cs):=by
 cases h1:cM P t with
 | none=>simp[tK,bD,h1]
 | some z=>cases E:cR P t with
  | none=>simp[tK,bD,h1,E]
  | some A=>cases F:nR A z l <;> simp[tK,bD,h1,E,F]
def wgd(x:AV)(w:Bool)(F:Option Bool->Prop):Prop:=match x with
 | .v (.bool b)=>F (some (b == w))
 | .gd g (.v (.bool b))=>F (some (g&&(b == w)))
 | _=>False
@[congr] theorem wgd_c {x x' w F} (h:x=x'):wgd x w F=wgd x' w F:=h▸rfl
def Y4{b w F}:wgd (.v (.bool b)) w F=F (some (b == w)):=(rfl)
def YM{g b w F}:wgd (.gd g (.v (.bool b))) w F=F (some (g&&(b == w))):=(rfl)
def Cy{F}:bY ops ρ none F=F none:=(rfl)
def Cz{j w F}:bY ops ρ (some (j,w)) F=bD ((ops[j]?).bind (·.dst)) fun t=>wgd (ρ t) w F:=by
 cases h1:(ops[j]?).bind (·.dst)with
 | none=>simp[bY,bD,h1]
 | some t=>simp only[bY,bD,h1,wgd]
def kN(K:Env->aG->Prop)(ρ:Env)(d:Option Tmp)(G:Option Bool)(H:aG)(x:AV):Prop:=K (upd ρ d (wr G x)) H
def GZ{x}:kN K ρ d none H x=K (upd ρ d x) H:=(rfl)
def FH{b x}:kN K ρ d (some b) H x=K (upd ρ d (.gd b x)) H:=(rfl)
end
section
variable{P:Program}{C:jI}{PC:FuncId->List AV->aG->AV->Prop}{mt:Nat->Bool}{q:Bool}{ops:Array Oper}{d:Option Tmp}{ty:TypeId}{pos:String}{aft:Array Edge}{gd:Option (Nat×Bool)}{ρ:Env}{H:aG}{K:Env->aG->Prop}
def WA{x}:aop P C PC mt q ops ⟨d,.move x,ty,pos,aft,gd⟩ ρ H K=bY ops ρ gd fun G=>if nZ mt d=true then G=none/\q=false/\wZ x ρ d H K else bK G (aev ρ x) (kN K ρ d G H):=(rfl)
def Vx{c a b}:aop P C PC mt q ops ⟨d,.pick c a b,ty,pos,aft,gd⟩ ρ H K=bY ops ρ gd fun G=>bK G (aev ρ c) fun x=>wpick G x (aev ρ a) (aev ρ b) (kN K ρ d G H):=(rfl)
def Sv{t l}: aop P C PC mt q ops ⟨d, .build t l, ty, pos, aft, gd⟩ ρ H K = bY ops ρ gd fun G => if nZ mt d = true then G = none /\ (if q = true then mM none ρ l.toList (fun l => bD (cM P t) fun z => bD (cR P t) fun A => bD (nU P t) fun nl => bD (nR A (Gu nl z) l) fun cs => kN K ρ d none H (.agg cs)) else
   mM none ρ l.toList (fun l=>bD (cM P t) fun z=>bD (cR P t) fun A=>bD (nU P t) fun nl=>gX nl z H fun z H=>bD (nR A z l) fun cs=>kN K ρ d none H (.agg cs)))
  else mM G ρ l.toList fun l=>tK P t l (kN K ρ d G H):=by
 show bY ops ρ gd (fun G=>if nZ mt d=true then G=none/\(if q=true then wR P ⟨d,.build t l,ty,pos,aft,gd⟩ t l.toList ρ H K else Af P ⟨d,.build t l,ty,pos,aft,gd⟩ t l.toList ρ H K)else _)=_
 congr 1;funext G;congr 3
 ·unfold wR
  congr 1;funext l
  cases h1:cM P t with
  | none=>simp[bD]
  | some z=>cases E:cR P t with
   | none=>simp[bD]
   | some A=>cases I:nU P t with
    | none=>simp[bD]
    | some nl=>simp only[bD];cases F:nR A (Gu nl z) l <;> rfl
 unfold Af
 congr 1;funext l
 cases h1:cM P t with
 | none=>simp[bD]
 | some z=>cases E:cR P t with
  | none=>simp[bD]
  | some A=>cases I:nU P t with
   | none=>simp[bD]
   | some nl=>simp only[bD];congr 1;funext z H;cases F:nR A z l <;> rfl
def TU{t x}:aop P C PC mt q ops ⟨d,.load t x,ty,pos,aft,gd⟩ ρ H K=bY ops ρ gd fun G=>if nZ mt d=true then G=none/\q=false/\bD (ldT P t) fun l=>bK none (aev ρ x) fun y=>lY none H l y fun z=>GN z ρ d H K else bD (ldT P t) fun l=>bK G (aev ρ x) fun y=>lY G H l y (kN K ρ d G H):=by
 show bY ops ρ gd (fun G=>if nZ mt d=true then G=none/\q=false/\fR P none ρ H (.load t x) fun z=>GN z ρ d H K else fR P G ρ H (.load t x) (kN K ρ d G H))=_
 congr 1;funext G;cases h1:ldT P t <;> simp[fR,bD,h1]
def I2{x}:aop P C PC mt q ops ⟨d,.nilCheck x,ty,pos,aft,gd⟩ ρ H K=bY ops ρ gd fun G=>bK G (aev ρ x) fun y=>Ry G y (kN K ρ d G H):=(rfl)
def X7{op t x y t'}:aop P C PC mt q ops ⟨d,.binOp op t x y t',ty,pos,aft,gd⟩ ρ H K=bY ops ρ gd fun G=>if oV y=true then bK G (aev ρ x) fun x=>bS P t=true/\nJ op x (kN K ρ d G H)else bK G (aev ρ x) fun x=>bK G (aev ρ y) fun y=>fO P G op t x y (kN K ρ d G H):=(rfl)
def Zu{op t x}:aop P C PC mt q ops ⟨d,.unOp op t x,ty,pos,aft,gd⟩ ρ H K=bY ops ρ gd fun G=>bK G (aev ρ x) fun x=>aun op x (kN K ρ d G H):=(rfl)
def Ts{s t x}:aop P C PC mt q ops ⟨d,.convert s t x,ty,pos,aft,gd⟩ ρ H K=bY ops ρ gd fun G=>bK G (aev ρ x) fun x=>AR P s t x (kN K ρ d G H):=(rfl)
def IA{t x lo A}:aop P C PC mt q ops ⟨d,.slice t x (some lo) (some A) none,ty,pos,aft,gd⟩ ρ H K=bY ops ρ gd fun G=>bK G (aev ρ x) fun x=>bK G (aev ρ lo) fun lo=>bK G (aev ρ A) fun A=>asl P G H t x (some lo) (some A) (kN K ρ d G H):=(rfl)
def Ju{t x A m}:aop P C PC mt q ops ⟨d,.slice t x none (some A) (some m),ty,pos,aft,gd⟩ ρ H K=bY ops ρ gd fun G=>bK G (aev ρ x) fun x=>bK G (aev ρ A) fun A=>bK G (aev ρ m) fun m=>BX P G t x A m (kN K ρ d G H):=(rfl)
def K8{t x lo}:aop P C PC mt q ops ⟨d,.slice t x (some lo) none none,ty,pos,aft,gd⟩ ρ H K=bY ops ρ gd fun G=>bK G (aev ρ x) fun x=>bK G (aev ρ lo) fun lo=>asl P G H t x (some lo) none (kN K ρ d G H):=(rfl)
def KV{t x A}:aop P C PC mt q ops ⟨d,.slice t x none (some A) none,ty,pos,aft,gd⟩ ρ H K=bY ops ρ gd fun G=>bK G (aev ρ x) fun x=>bK G (aev ρ A) fun A=>asl P G H t x none (some A) (kN K ρ d G H):=(rfl)
def E2{t x f}:aop P C PC mt q ops ⟨d,.fieldAddr t x f,ty,pos,aft,gd⟩ ρ H K=bY ops ρ gd fun G=>bK G (aev ρ x) fun x=>gW P t f x (kN K ρ d G H):=(rfl)
def Fm{t x i}:aop P C PC mt q ops ⟨d,.indexAddr t x i,ty,pos,aft,gd⟩ ρ H K=bY ops ρ gd fun G=>bK G (aev ρ x) fun x=>bK G (aev ρ i) fun i=>dO P G H t x i (kN K ρ d G H):=(rfl)
def RD{t x i}:aop P C PC mt q ops ⟨d,.index t x i,ty,pos,aft,gd⟩ ρ H K=bY ops ρ gd fun G=>bK G (aev ρ x) fun x=>bK G (aev ρ i) fun i=>uG P G t x i (kN K ρ d G H):=(rfl)
def Kw{x i}:aop P C PC mt q ops ⟨d,.extract x i,ty,pos,aft,gd⟩ ρ H K=bY ops ρ gd fun G=>bK G (aev ρ x) fun x=>X9 G x i (kN K ρ d G H):=(rfl)
def MW{x}:aop P C PC mt q ops ⟨d,.assign x,ty,pos,aft,gd⟩ ρ H K=bY ops ρ gd fun G=>if nZ mt d=true/\G=none/\q=false/\oV x=true then bD (bN P ty) fun e=>mB H ⟨e.1,e.2.1,[]⟩ (Qo K ρ d)else bK G (aev ρ x) (kN K ρ d G H):=by
 show bY ops ρ gd (fun G=>zY P mt q G ⟨d,.assign x,ty,pos,aft,gd⟩ x ρ H K)=_
 congr 1;funext G
 unfold zY;cases h1:bN P ty <;> rfl
def SS{t}:aop P C PC mt q ops ⟨d,.alloc t,ty,pos,aft,gd⟩ ρ H K=bY ops ρ gd fun G=>bD (cM P t) fun z=>G=none/\q=false/\(if nZ mt d=true then bD (nU P t) fun nl=>gX nl z H fun z H=>mB H ⟨t,z.length,[z]⟩ (Pt K ρ d)else mB H ⟨t,z.length,[z]⟩ (Pt K ρ d)):=by
 show bY ops ρ gd (fun G=>match cM P t with
   | some z => G = none /\ q = false /\ (if nZ mt d = true then match nU P t with
       | some nl=>gX nl z H fun z H=>mB H ⟨t,z.length,[z]⟩ fun k H'=>K (upd ρ d (.op k 0 0)) H'
       | none=>False
     else mB H ⟨t,z.length,[z]⟩ fun k H'=>K (upd ρ d (.op k 0 0)) H')
   | none=>False)=_
 congr 1;funext G;cases h1:cM P t <;> cases A:nU P t <;> rfl
def XB{t x}:aop P C PC mt q ops ⟨d,.box t x,ty,pos,aft,gd⟩ ρ H K=bY ops ρ gd fun G=>G=none/\q=false/\bK G (aev ρ x) fun x=>kM x fun cs=>if nZ mt d=true then 0<cs.length/\mB H ⟨t,cs.length,[cs]⟩ (Pt K ρ d)else K (upd ρ d (.rp cs 0)) H:=(rfl)
def DL{t n l}:aop P C PC mt q ops ⟨d,.buildSlice t n l,ty,pos,aft,gd⟩ ρ H K=bY ops ρ gd fun G=>q=false/\mM G ρ l.toList fun l=>bD (bN P t) fun e=>(l.map (·.1)=Is 0 n/\cA e.2.1 (l.map (·.2))/\n*e.2.1<=16777216)/\(if nZ mt d=true/\G=none then mB H ⟨e.1,e.2.1,l.map (·.2)⟩ (Qo K ρ d)else kN K ρ d G H (.sl (l.map (·.2)))):=by
 show bY ops ρ gd (fun G=>q=false/\mM G ρ l.toList fun l'=>lH P mt G ⟨d,.buildSlice t n l,ty,pos,aft,gd⟩ t n l' ρ H K)=_
 congr 1;funext G;congr 2;funext l;unfold lH;cases h1:bN P t <;> rfl
def RL{t x y}:aop P C PC mt q ops ⟨d,.store t x y,ty,pos,aft,gd⟩ ρ H K=bY ops ρ gd fun G=>G=none/\q=false/\(if oV y=true then bK G (aev ρ x) fun x=>bD (bN P t) fun e=>mB H ⟨e.1,e.2.1,[]⟩ (fun j H=>Sn P d t x [.os j] ρ H K)else bK G (aev ρ x) fun x=>bK G (aev ρ y) fun y=>kM y fun cs=>Sn P d t x cs ρ H K):=by
 show bY ops ρ gd (fun G => G = none /\ q = false /\ (if oV y = true then bK G (aev ρ x) fun a => match bN P t with
       | some (e,sz,_)=>mB H ⟨e,sz,[]⟩ fun k H=>qJ P _ t a [.os k] ρ H K
       | none=>False
     else bK G (aev ρ x) fun a=>bK G (aev ρ y) fun x=>kM x fun cs=>qJ P _ t a cs ρ H K))=_
 congr 1;funext G;congr 4;funext a
 cases h1:bN P t <;> rfl
def VE:vC P C PC mt ops K [] ρ H=K ρ H:=(rfl)
def Zi{k f}:vC P C PC mt ops K ((k,true)::f) ρ H=bD ops[k]? fun o=>aop P C PC mt true ops o ρ (qH o H) fun A _=>vC P C PC mt ops K f A H:=by cases h:ops[k]? <;> simp[vC,bD,h]
def Zy{k f}:vC P C PC mt ops K ((k,false)::f) ρ H=bD ops[k]? fun o=>aop P C PC mt false ops o ρ H (vC P C PC mt ops K f):=by cases h:ops[k]? <;> simp[vC,bD,h]
def Rq{Hp}:sI P C PC mt ops K Hp [] ρ H=K ρ H:=(rfl)
def XI{Hp k f}:sI P C PC mt ops K Hp ((k,true)::f) ρ H=bD ops[k]? fun o=>aop P C PC mt true ops o ρ Hp fun A _=>sI P C PC mt ops K Hp f A H:=by cases h:ops[k]? <;> simp[sI,bD,h]
def Xc{Hp k f}:sI P C PC mt ops K Hp ((k,false)::f) ρ H=bD ops[k]? fun o=>aop P C PC mt false ops o ρ H (sI P C PC mt ops K Hp f):=by cases h:ops[k]? <;> simp[sI,bD,h]
def aaO{k}:xI P C PC mt q ops k ρ H K=bD ops[k]? fun o=>aop P C PC mt q ops o ρ H K:=by cases h:ops[k]? <;> simp[xI,bD,h]
def Q9{Hp}:jJ P C PC mt ops K Hp .nil ρ H=K ρ H:=(rfl)
def XY{Hp k t}:jJ P C PC mt ops K Hp (.q k t) ρ H=xI P C PC mt true ops k ρ Hp fun A _=>jJ P C PC mt ops K Hp t A H:=(rfl)
def Ya{Hp k t}:jJ P C PC mt ops K Hp (.a1 k t) ρ H=xI P C PC mt false ops k ρ H (jJ P C PC mt ops K Hp t):=(rfl)
def iB{Hp k t k' t'}(h:xI P C PC mt false ops k ρ H (jJ P C PC mt ops K Hp t))(A:xI P C PC mt false ops k' ρ H (jJ P C PC mt ops K Hp t')):jJ P C PC mt ops K Hp (.a2 k t k' t') ρ H:=⟨h,A⟩
def HY{f cap}:aop P C PC mt q ops ⟨d,.makeFunc (.func f) #[] cap,ty,pos,aft,gd⟩ ρ H K=bY ops ρ gd fun G=>yH G ρ cap.toList fun l=>kN K ρ d G H (.fn f l):=by
 show bY ops ρ gd (fun G=>fR P G ρ H (.makeFunc (.func f) #[] cap) (kN K ρ d G H))=_
 congr 1;funext G;simp[fR]
def YR(K:Env->aG->Prop)(ρ:Env)(d:Option Tmp)(j:Nat)(H:aG):Prop:=K (upd ρ d (.om j)) H
def J2{j}:YR K ρ d j H=K (upd ρ d (.om j)) H:=(rfl)
def MQ{t x i ok}:aop P C PC mt q ops ⟨d,.lookup t x i ok,ty,pos,aft,gd⟩ ρ H K=bY ops ρ gd fun G=>bK G (aev ρ x) fun x=>bK G (aev ρ i) fun i=>qK P H t x i ok (kN K ρ d G H):=(rfl)
def Jc{t}:aop P C PC mt q ops ⟨d,.makeMap t none,ty,pos,aft,gd⟩ ρ H K=bY ops ρ gd fun G=>G=none/\q=false/\mB H ⟨0,2,[]⟩ (YR K ρ d):=(rfl)
def G5(P:Program)(d:Option Tmp)(t:TypeId)(m x v:AV)(ρ:Env)(H:aG)(K:Env->aG->Prop):Prop:=jO P ⟨d,.move (.tmp 0),0,"",#[],none⟩ t m x v ρ H K
@[congr] theorem wmapU_c {P d t m m' x x' v v' ρ H K} (h0:m=m') (h1:x=x') (h2:v=v'):G5 P d t m x v ρ H K=G5 P d t m' x' v' ρ H K:=h0▸h1▸h2▸rfl
def T7(P:Program)(d:Option Tmp)(t:TypeId)(m x:AV)(ρ:Env)(H:aG)(K:Env->aG->Prop):Prop:=wU P ⟨d,.move (.tmp 0),0,"",#[],none⟩ t m x ρ H K
@[congr] theorem wmapE_c {P d t m m' x x' ρ H K} (h0:m=m') (h1:x=x'):T7 P d t m x ρ H K=T7 P d t m' x' ρ H K:=h0▸h1▸rfl
def U5(d:Option Tmp)(m s v:AV)(ρ:Env)(H:aG)(K:Env->aG->Prop):Prop:=pX ⟨d,.move (.tmp 0),0,"",#[],none⟩ m s v ρ H K
@[congr] theorem wmapS_c {d m m' x x' v v' ρ H K} (h0:m=m') (h1:x=x') (h2:v=v'):U5 d m x v ρ H K=U5 d m' x' v' ρ H K:=h0▸h1▸h2▸rfl
@[congr] theorem alookup_c {P H t x x' i i' ok k} (h0:x=x') (h1:i=i'):qK P H t x i ok k=qK P H t x' i' ok k:=h0▸h1▸rfl
def E9{t m x v}:aop P C PC mt q ops ⟨d,.mapUpdate t m x v,ty,pos,aft,gd⟩ ρ H K=bY ops ρ gd fun G=>G=none/\q=false/\bK G (aev ρ m) fun m=>bK G (aev ρ x) fun x=>bK G (aev ρ v) fun v=>G5 P d t m x v ρ H K:=(rfl)
def Mi{t m x v}:aop P C PC mt q ops ⟨d,.insert t m x v,ty,pos,aft,gd⟩ ρ H K=bY ops ρ gd fun G=>G=none/\q=false/\bK G (aev ρ m) fun m=>bK G (aev ρ x) fun x=>bK G (aev ρ v) fun v=>G5 P d t m x v ρ H K:=(rfl)
def Iv{t m x}:aop P C PC mt q ops ⟨d,.mapEntry t m x,ty,pos,aft,gd⟩ ρ H K=bY ops ρ gd fun G=>G=none/\q=false/\bK G (aev ρ m) fun m=>bK G (aev ρ x) fun x=>T7 P d t m x ρ H K:=(rfl)
def DH{t m s v}:aop P C PC mt q ops ⟨d,.entryStore t m s v,ty,pos,aft,gd⟩ ρ H K=bY ops ρ gd fun G=>G=none/\q=false/\bK G (aev ρ m) fun m=>bK G (aev ρ s) fun s=>bK G (aev ρ v) fun v=>U5 d m s v ρ H K:=(rfl)
def rY{t j key ok k r kt oi z}(E:H j=some r)(F:Ni P t=some kt)(I:kR P kt.1 key=true)(A:qC (mZ P kt.1 key) r.es 0=some oi)(J:FG P kt.2=some z)(h:k (Em ok z r.es oi)):qK P H t (.om j) key ok k:=by unfold qK CF;simp only[E,F,A,J];exact⟨I,h⟩
def C2{t j key v r kt oi}(E:H j=some r)(F:Ni P t=some kt)(I:kR P kt.1 key=true)(A:qC (mZ P kt.1 key) r.es 0=some oi)(h:K (upd ρ d .any) (aI H j (some { r with es:=Ta r.es oi key v }))):G5 P d t (.om j) key v ρ H K:=by unfold G5 jO CF;simp only[E,F,A];exact⟨I,h⟩
def Fk{t l c}:aop P C PC mt q ops ⟨d,.makeSlice t l c,ty,pos,aft,gd⟩ ρ H K=bY ops ρ gd fun G=>G=none/\q=false/\bK G (aev ρ l) fun l=>bK G (aev ρ c) fun c=>JZ P d t l c ρ H K:=(rfl)
def SL{t args tys}:aop P C PC mt q ops ⟨d,.call ⟨.value (.tmp t),args,tys⟩,ty,pos,aft,gd⟩ ρ H K=bY ops ρ gd fun G=>bK G (ρ t) fun x=>bD (Fb x) fun y=>if nZ mt d=true then gt G/\q=false/\aH P y.1=true/\C y.1 (y.2.1++args.toList.map (HC ρ)++y.2.2) H (JA K ρ d)else yH G ρ args.toList fun l=>aH P y.1=true/\(if G=none/\q=false then C y.1 (y.2.1++l++y.2.2) H (JA K ρ d)else ∃r,(gt G->PC y.1 (y.2.1++l++y.2.2) H r)/\nfq q r (kN K ρ d G H)):=by
 show bY ops ρ gd (fun G=>Ah P C PC (nZ mt d) q G ⟨d,.call ⟨.value (.tmp t),args,tys⟩,ty,pos,aft,gd⟩ ⟨.value (.tmp t),args,tys⟩ ρ H K)=_
 congr 1;funext G
 simp only[Ah,aev]
 congr 1;funext x
 cases h:Fb x with
 | none=>simp[bD]
 | some y=>obtain⟨a,b,c⟩:=y;rfl
def Wv{f args tys}:aop P C PC mt q ops ⟨d,.call ⟨.value (.func f),args,tys⟩,ty,pos,aft,gd⟩ ρ H K=bY ops ρ gd fun G=>if nZ mt d=true then gt G/\q=false/\aH P f=true/\C f (args.toList.map (HC ρ)) H (JA K ρ d)else yH G ρ args.toList fun l=>aH P f=true/\(if G=none/\q=false then C f l H (JA K ρ d)else ∃r,(gt G->PC f l H r)/\nfq q r (kN K ρ d G H)):=by
 show bY ops ρ gd (fun G=>Ah P C PC (nZ mt d) q G ⟨d,.call ⟨.value (.func f),args,tys⟩,ty,pos,aft,gd⟩ ⟨.value (.func f),args,tys⟩ ρ H K)=_
 congr 1;funext G
 simp only[Ah,aev,bK,Fb,List.map_nil,List.nil_append,List.append_nil];rfl
def Li{t}:HC ρ (.tmp t)=ρ t:=(rfl)
def Dv{v}:HC ρ (.const v)=.v v:=(rfl)
def GC{f}:HC ρ (.func f)=.v (.func (.func f) #[] #[]):=(rfl)
def X2{x t}:aop P C PC mt q ops ⟨d,.call ⟨.builtin .len,#[x],#[t]⟩,ty,pos,aft,gd⟩ ρ H K=bY ops ρ gd fun G=>bK G (aev ρ x) fun x=>Ei P H t x (kN K ρ d G H):=(rfl)
def Xk{x y t t'}:aop P C PC mt q ops ⟨d,.call ⟨.builtin .max,#[x,y],#[t,t']⟩,ty,pos,aft,gd⟩ ρ H K=bY ops ρ gd fun G=>bK G (aev ρ x) fun x=>bK G (aev ρ y) fun y=>NR x y (kN K ρ d G H):=(rfl)
def Xz{x y t t'}:aop P C PC mt q ops ⟨d,.call ⟨.builtin .min,#[x,y],#[t,t']⟩,ty,pos,aft,gd⟩ ρ H K=bY ops ρ gd fun G=>bK G (aev ρ x) fun x=>bK G (aev ρ y) fun y=>MI x y (kN K ρ d G H):=(rfl)
def UG{n m a b}{k:AV->Prop}:NR (.v (.int n a)) (.v (.int m b)) k=k (.v (.int n (jL a b))):=(rfl)
def Vv{n m a b}{k:AV->Prop}:MI (.v (.int n a)) (.v (.int m b)) k=k (.v (.int n (WL a b))):=(rfl)
def V9{x y t t'}:aop P C PC mt q ops ⟨d,.call ⟨.builtin .copy,#[x,y],#[t,t']⟩,ty,pos,aft,gd⟩ ρ H K=bY ops ρ gd fun G=>bK G (aev ρ x) fun x=>bK G (aev ρ y) fun y=>if G=none/\q=false then L1 P d t x y ρ H K else False:=(rfl)
def RY{x t}:aop P C PC mt q ops ⟨d,.call ⟨.builtin .clear,#[x],#[t]⟩,ty,pos,aft,gd⟩ ρ H K=bY ops ρ gd fun G=>bK G (aev ρ x) fun x=>if G=none/\q=false then NY P d t x ρ H K else False:=(rfl)
def Wq{G:Option Bool}{k:AV->Prop}{t es lo hi}:asl P G H t (.sl es) lo hi k=kL P G t (.sl es) lo hi k:=(rfl)
def Zf{G:Option Bool}{k:AV->Prop}{t v lo hi}:asl P G H t (.v v) lo hi k=kL P G t (.v v) lo hi k:=(rfl)
def YL{G:Option Bool}{k:AV->Prop}{t j n a}:asl P G H t (.os j) (some (.v (.int n a))) none k=bD (H j) fun r=>bD (bN P t) fun e=>(gt G->(0<=a/\a<=r.es.length)/\r.sz=e.2.1)/\k (.oz j a.toNat r.es.length):=by cases h1:H j <;> cases A:bN P t <;> simp[asl,bD,h1,A]
def Qa{G:Option Bool}{k:AV->Prop}{t j a b n l}:asl P G H t (.oz j a b) (some (.v (.int n l))) none k=bD (H j) fun r=>bD (bN P t) fun e=>(gt G->(0<=l/\l<=(b-a:Nat))/\r.sz=e.2.1)/\k (.oz j (a+l.toNat) b):=by cases h1:H j <;> cases A:bN P t <;> simp[asl,bD,h1,A]
def J3{k:AV->Prop}{es}:nJ .eql (.sl es) k=((es=[]->k (.v (.bool true)))/\k (.v (.bool false))):=(rfl)
def Ky{k:AV->Prop}{es}:nJ .neq (.sl es) k=((es=[]->k (.v (.bool false)))/\k (.v (.bool true))):=(rfl)
def GD{k:AV->Prop}{j}:nJ .eql (.os j) k=(k (.v (.bool true))/\k (.v (.bool false))):=(rfl)
def F0{k:AV->Prop}:nJ .eql (.v (.slice none 0 0)) k=k (.v (.bool true)):=(rfl)
def FP{k:AV->Prop}:nJ .neq (.v (.slice none 0 0)) k=k (.v (.bool false)):=(rfl)
def Ha{k:AV->Prop}{j}:nJ .neq (.os j) k=(k (.v (.bool false))/\k (.v (.bool true))):=(rfl)
def My{s x t t'}:aop P C PC mt q ops ⟨d,.call ⟨.builtin .append,#[s,x],#[t,t']⟩,ty,pos,aft,gd⟩ ρ H K=bY ops ρ gd fun G=>bK G (aev ρ s) fun s=>bK G (aev ρ x) fun x=>if t=t'/\G=none/\q=false then DZ P d t s x ρ H K else False:=(rfl)
end
section
variable{P:Program}{d:Option Tmp}{ρ:Env}{H:aG}{K:Env->aG->Prop}
def PZ{t n a m b}:JZ P d t (.v (.int n a)) (.v (.int m b)) ρ H K=bD (bN P t) fun e=>bD (cM P e.1) fun z=>((0<=a/\a<=b)/\(e.2.2:Int)*b<=140737488355328)/\mB H ⟨e.1,e.2.1,List.replicate a.toNat z⟩ (Qo K ρ d):=by
 unfold JZ pI;cases h1:bN P t with
 | none=>simp[bD]
 | some e=>obtain⟨x,y,z⟩:=e;cases A:cM P x <;> simp[bD,A] <;> intros <;> rfl
def Zj{f first captured}:Fb (.v (.func (.func f) first captured))=some (f,first.toList.map .v,captured.toList.map .v):=(rfl)
def YI{q x}{k:AV->Prop}:nfq q (.v x) k=k (.v x):=by cases q <;> rfl
def PK{q x}{k:AV->Prop}:nfq q (.agg x) k=k (.agg x):=by cases q <;> rfl
def Po{q x}{k:AV->Prop}:nfq q (.tup x) k=k (.tup x):=by cases q <;> rfl
def Vk{x}{k:AV->Prop}:nfq false (.nf x) k=k x:=(rfl)
def Xl{f l}:Fb (.fn f l)=some (f,[],l):=(rfl)
end
attribute [go_sem ↓] Gz GK
attribute [go_sem] Gz GK
@[congr] theorem asl_c {P G H t x x' lo lo' hi hi' k} (h:x=x') (h1:lo=lo') (h2:hi=hi'):asl P G H t x lo hi k=asl P G H t x' lo' hi' k:=h▸h1▸h2▸rfl
@[congr] theorem aeqNil_c {op x x' k} (h:x=x'):nJ op x k=nJ op x' k:=h▸rfl
def HW{α:Type}{a:α}{l r:List α}:List.append (a::l) r=a::List.append l r:=(rfl)
def Ji{α:Type}{r:List α}:List.append [] r=r:=(rfl)
attribute [go_sem] HW Ji
attribute [go_sem] qH
@[congr] theorem amax_c {x x' y y' K} (h:x=x') (h':y=y'):NR x y K=NR x' y' K:=h▸h'▸rfl
@[congr] theorem amin_c {x x' y y' K} (h:x=x') (h':y=y'):MI x y K=MI x' y' K:=h▸h'▸rfl
attribute [go_sem ↓] Xk Xz UG Vv
attribute [go_sem] UG Vv
@[congr] theorem pinEnd_c {l l' H K ρ H'} (h:l=l'):mI l H K ρ H'=mI l' H K ρ H':=h▸rfl
attribute [go_sem] Gu List.set_cons_zero List.set_cons_succ
attribute [go_sem ↓] Q9 XY Ya aaO
attribute [go_sem ↓] Rq XI Xc
attribute [go_sem ↓] VE Zi Zy V9 RY Wq Zf YL J3 Ky GD Ha F0 FP
attribute [go_sem ↓] Qa QE yE
attribute [go_sem] Qa QE yE
attribute [go_sem] Wq Zf YL J3 Ky GD Ha F0 FP
attribute [go_sem ↓] YI PK Po Vk
attribute [go_sem ↓] MQ Jc E9 Mi Iv DH Qz J2
attribute [go_sem] Qz J2
attribute [go_sem] YI PK Po Vk
attribute [go_sem ↓] HY Fk SL PZ Jo Ja Ka Pb Cx Qg O8 Qb K9 Ju
attribute [go_sem] PZ Jo Ja Ka Pb Cx Qg O8 Qb K9 Zj Xl
attribute [go_sem] Pc Zc
@[congr] theorem ownNils_c {l l' z z' H K} (h:l=l') (h':z=z'):gX l z H K=gX l' z' H K:=h▸h'▸rfl
def LV{z H K}:gX [] z H K=K z H:=(rfl)
def IW{o e sz r z H K}:gX ((o,e,sz)::r) z H K=mB H ⟨e,sz,[]⟩ fun k H'=>gX r (z.set o (.os k)) H' K:=(rfl)
attribute [go_sem ↓] LV IW
attribute [go_sem ↓] U3 Dn Lz Pq LH FW FZ Sm Lm T8 Yh TJ QV MH Us Xg OG PS J6 RN
attribute [go_sem ↓] yH mM WA Vx Sv TU I2 X7 Zu Ts IA K8 KV E2 Fm RD Kw MW SS XB DL RL Wv X2 My
attribute [go_sem ↓] PJ Qx PN I6 Qm LR I7 JE Jl JB LZ KX K5 Jd Kx K7 FE F5 GS GB Fy Gs Gc J0 Jh Kt Qr Qc FO Gv GH F7 PW Qy Pa O2 Ph xP xQ xV yB yA yG Pn O7 F8 G0 GE JO JF ER FQ GA Gi Gf Dr JX Ge Gr GL Gh FX Y4 YM Cy Cz US JT Pj PO LE Lf Qd Qj P1 EO GZ FH Ke Jr J8 O5 Gd KN Li Dv GC
attribute [go_sem] Oo PJ Qx PN I6 Qm LR I7 JE Jl JB LZ KX K5 Jd Kx K7 FE F5 GS GB Fy Gs Gc J0 Jh Kt Qr Qc FO Gv GH F7 PW Qy Pa O2 Ph xP xQ xV yB yA yG Pn O7 F8 G0 GE JO JF ER FQ GA Gi Gf Dr JX Ge Gr GL Gh FX Y4 YM Cy Cz US JT Pj PO LE Lf Qd Qj P1 EO GZ FH Ke Jr J8 O5 Gd KN Li Dv GC
attribute [go_sem] Z4 Wh nZ oV nC Bx gt gok wr rM fJ KZ Value.oneCell' Is cA vY Option.map_some nR kT aB
attribute [go_sem] Bool.false_eq_true if_false if_true reduceCtorEq true_and and_true false_and and_false false_implies true_implies implies_true forall_const and_self imp_self ne_eq not_true_eq_false not_false_eq_true
attribute [go_sem] List.getD_cons_zero List.getD_cons_succ List.getD_nil List.length_cons List.length_nil List.drop_zero List.drop_succ_cons List.take_succ_cons List.take_zero Option.getD_some Option.getD_none Nat.zero_add Nat.add_zero List.map_cons List.map_nil List.cons_append List.nil_append List.append_nil
attribute [go_sem] Option.bind_some List.getElem?_toArray List.getElem?_cons_zero List.getElem?_cons_succ
attribute [go_sem ↓] reduceIte
attribute [go_sem] Nat.reduceEqDiff Nat.reduceAdd Nat.reduceMul Nat.reduceSub Nat.reduceLT Nat.reduceLeDiff Nat.reduceBEq
end Go.Aw
