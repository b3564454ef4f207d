import Derived.StillTail
import Derived.WalkKit
import Derived.Deep.Quiet
import Derived.Deep.QuietTactic
import Derived.Maps.AppendAt
import Derived.Laws.BytesArg
set_option linter.unusedSimpArgs false
set_option linter.unusedVariables false
set_option linter.defProp false
set_option maxRecDepth 100000
section
namespace Go.Aw
open Go.RowKit
inductive AV where
 | v (x:Value)
 | any
 | sl (es:List (List AV))
 | rp (cs:List AV) (off:Nat)
 | agg (cs:List AV)
 | tup (vs:List AV)
 | os (k:Nat)
 | op (k i f:Nat)
 | gd (g:Bool) (x:AV)
 | fn (f:FuncId) (cap:List AV)
 | oz (k a b:Nat)
 | nf (x:AV)
 | om (k:Nat)
 | cl (es:List (List AV))
 deriving Inhabited
structure Row where
 e:TypeId
 sz:Nat
 es:List (List AV)
abbrev Env:=Nat->AV
abbrev aD:=Nat->Option Row
inductive Ex where
 | normal
 | exit (id:Nat)
 | ret
def upd(ρ:Env)(d:Option Nat)(x:AV):Env:=
 match d with
 | some d=>fun t=>if t=d then x else ρ t
 | none=>ρ
def aE(H:aD)(k:Nat)(r:Option Row):aD:=fun j=>if j=k then r else H j
def Uu(ρ:Env)(d:Nat)(x:AV)(t:Nat):upd ρ (some d) x t=if t=d then x else ρ t:=rfl
def QT(ρ:Env)(x:AV):upd ρ none x=ρ:=rfl
def aB(H:aD)(k:Nat)(r:Option Row):aE H k r k=r:=by simp[aE]
def aC(H:aD)(k:Nat)(r:Option Row)(j:Nat)(h:j≠k):aE H k r j=H j:=by simp[aE,h]
def ldT(P:Program)(t:TypeId):Option (Option Nat):=
 match P.underlying t,P.info? t with
 | some (.struct _),some i=>some (some i.size)
 | some (.array _ _),some i=>some (some i.size)
 | some _,some _=>some none
 | _,_=>none
def aM(P:Program)(t:TypeId)(f:Nat):Option (Nat×Option Nat):=
 match P.underlying t with
 | some (.struct fs)=>match fs[f]? with
   | some fd=>match P.info? fd.type with
     | some i=>if i.size=0 then none else(ldT P fd.type).map fun l=>(fd.offset,l)
     | none=>none
   | none=>none
 | _=>none
def bM(P:Program)(t:TypeId):Option (TypeId×Nat×Nat):=
 match P.underlying t with
 | some (.slice e)=>match P.info? e with
   | some i=>if i.size=0\/i.bytes=0\/i.zero.map (·.cells.size)≠some i.size then none else some (e,i.size,i.bytes)
   | none=>none
 | _=>none
def Ao(P:Program)(t:TypeId):Option (Nat×Nat×Option Nat):=
 match P.underlying t with
 | some (.array n e)=>match P.info? e with
   | some i=>if i.size=0 then none else(ldT P e).map fun l=>(n,i.size,l)
   | none=>none
 | _=>none
def lA:Value->AV
 | .slice none 0 0=>.sl []
 | x=>.v x
def cN(P:Program)(t:TypeId):Option (List AV):=
 match P.info? t with
 | some i=>match i.zero with
   | some z=>if z.cells.size=i.size/\i.size≠0/\z.cells.toList.all (·.oneCell')=true then some (z.cells.toList.map lA)else none
   | none=>none
 | none=>none
def ET(P:Program):Nat->TypeId->Nat->List (Nat×TypeId×Nat)
 | 0,_,_=>[]
 | n+1,t,o=>match P.underlying t with
   | some (.slice _)=>match bM P t with
     | some (e,sz,_)=>[(o,e,sz)]
     | none=>[]
   | some (.struct fs)=>fs.toList.flatMap fun f=>ET P n f.type (o+f.offset)
   | some (.array m e)=>(List.range m).flatMap fun j=>ET P n e (o+j*((P.info? e).map (·.size)).getD 0)
   | _=>[]
def Qr:Option Value->Bool
 | some (.slice none 0 0)=>true
 | _=>false
def jX(P:Program)(t:TypeId):Option (List (Nat×TypeId×Nat)):=
 match P.info? t with
 | some i=>match i.zero with
   | some z=>if(ET P 8 t 0).all (fun x=>Qr z.cells.toList[x.1]?&&decide (0<x.2.2))=true then some (ET P 8 t 0)else none
   | none=>none
 | none=>none
def dF(P:Program)(t:TypeId):Option (List (Nat×Nat)):=
 match P.underlying t with
 | some (.struct fs)=>fs.toList.mapM fun f=>(P.info? f.type).map fun i=>(f.offset,i.size)
 | some (.array n e)=>(P.info? e).map fun i=>(List.range n).map fun j=>(j*i.size,i.size)
 | _=>none
def dI(P:Program)(t:TypeId):Bool:=match P.underlying t with|some .string=>true|_=>false
def cL(P:Program)(t:TypeId):Bool:=match P.underlying t with|some (.slice _)=>true|_=>false
def tO(P:Program)(t:TypeId):Bool:=match P.underlying t with|some .bool=>true|_=>false
def Lo(P:Program)(t:TypeId):Bool:=match P.underlying t with|some (.pointer _)=>true|_=>false
def Kt:AV->Option Bool
 | .v (.pointer none)=>some true
 | .rp ..=>some false
 | .op ..=>some false
 | _=>none
def aev(ρ:Env):Operand->AV
 | .tmp t=>ρ t
 | .const v=>lA v
 | .global _=>.any
 | .func f=>.v (.func (.func f) #[] #[])
def FD(ρ:Env):Operand->AV
 | .const v=>.v v
 | x=>aev ρ x
def gt:Option Bool->Prop
 | none=>True
 | some b=>b=true
def gok:Option Bool->Bool->Prop
 | none,g=>g=true
 | some b,g=>b=true->g=true
def wr:Option Bool->AV->AV
 | none,x=>x
 | some b,x=>.gd b x
def aX(G:Option Bool)(x:AV)(k:AV->Prop):Prop:=
 match x with
 | .gd g y=>gok G g/\k y
 | x=>k x
def gS(x:AV)(K:List AV->Prop):Prop:=
 match x with
 | .agg cs=>K cs
 | .v y=>y.oneCell'=true/\K [.v y]
 | .sl es=>K [.sl es]
 | .rp cs o=>K [.rp cs o]
 | .os k=>K [.os k]
 | .op k i f=>K [.op k i f]
 | .oz k a b=>K [.oz k a b]
 | .om k=>K [.om k]
 | _=>False
def nW(P:Program)(t:TypeId):Option Nat:=match P.underlying t with|some (.int _)=>some 0|some .string=>some 1|some .bool=>some 2|_=>none
def rF(c:Nat)(x y:AV):Option Bool:=
 match c,x,y with
 | 0,.v (.int k a),.v (.int k' b)=>if k=k' then some (a == b)else none
 | 1,.v (.string a),.v (.string b)=>some (a.toList == b.toList)
 | 2,.v (.bool a),.v (.bool b)=>some (a == b)
 | _,_,_=>none
def I9:Option Bool->Option Bool->Option Bool
 | some a,some b=>some (a&&b)
 | _,_=>none
def fT:List Nat->List AV->List AV->Option Bool
 | [],[],[]=>some true
 | c::l,x::r,y::s=>I9 (rF c x y) (fT l r s)
 | _,_,_=>none
def kU(P:Program):Nat->List Field->Option (List Nat)
 | _,[]=>some []
 | o,f::r=>if f.name != "_" && f.offset == o&&(P.info? f.type).isSome then match nW P f.type,kU P (o+1) r with
   | some c,some l=>some (c::l)
   | _,_=>none
   else none
def It(P:Program)(t:TypeId):Option (List Nat):=
 match P.underlying t with
 | some (.struct fs)=>if P.stoodInHeld t=false/\P.eqGuardType P.depth t=false then kU P 0 fs.toList else none
 | some (.array n e)=>if(P.info? e).map (·.size)=some 1/\P.eqGuardType P.depth t=false then(nW P e).map (List.replicate n)else none
 | _=>none
def rE:BinOp->Bool
 | .shl=>true
 | .shr=>true
 | _=>false
def shV(op:BinOp)(k:IntKind)(a b:Int):Int:=match op with
 | .shl=>k.wrap (a*2^min b.toNat k.bits)
 | _=>a.fdiv (2^min b.toNat k.bits)
def nK(op:BinOp)(k:IntKind)(a b:Int):Int:=match op with
 | .and=>k.wrap ((BitVec.ofInt k.bits a &&& BitVec.ofInt k.bits b).toNat:Nat)
 | .or=>k.wrap ((BitVec.ofInt k.bits a ||| BitVec.ofInt k.bits b).toNat:Nat)
 | .xor=>k.wrap ((BitVec.ofInt k.bits a ^^^ BitVec.ofInt k.bits b).toNat:Nat)
 | _=>k.wrap ((BitVec.ofInt k.bits a &&& ~~~(BitVec.ofInt k.bits b)).toNat:Nat)
def eX(P:Program)(G:Option Bool)(op:BinOp)(t:TypeId)(x y:AV)(K:AV->Prop):Prop:=
 match x,y with
 | .v (.int k a),.v (.int k' b)=>
   if rE op=true then(gt G->0<=b)/\K (.v (.int k (shV op k a b)))
   else if k=k' then
     match op with
     | .and=>K (.v (.int k (nK .and k a b)))
     | .or=>K (.v (.int k (nK .or k a b)))
     | .xor=>K (.v (.int k (nK .xor k a b)))
     | .andNot=>K (.v (.int k (nK .andNot k a b)))
     | .add=>K (.v (.int k (k.wrap (a+b))))
     | .sub=>K (.v (.int k (k.wrap (a-b))))
     | .mul=>K (.v (.int k (k.wrap (a*b))))
     | .quo=>(gt G->b≠0)/\K (.v (.int k (k.wrap (a.tdiv b))))
     | .rem=>(gt G->b≠0)/\K (.v (.int k (a.tmod b)))
     | .eql=>K (.v (.bool (a == b)))
     | .neq=>K (.v (.bool (a != b)))
     | .lss=>K (.v (.bool (decide (a<b))))
     | .leq=>K (.v (.bool (decide (a<=b))))
     | .gtr=>K (.v (.bool (decide (a>b))))
     | .geq=>K (.v (.bool (decide (a>=b))))
     | _=>False
   else False
 | .v (.string a),.v (.string b)=>
   match op with
   | .add=>(gt G->((a.size+b.size:Nat):Int)<=IntKind.i64.max)/\K (.v (.string (a++b)))
   | .eql=>K (.v (.bool (a.toList == b.toList)))
   | .neq=>K (.v (.bool !(a.toList == b.toList)))
   | .lss=>K (.v (.bool (Op.bytesLess a.toList b.toList)))
   | _=>False
 | .v (.bool a),.v (.bool b)=>
   if tO P t then
     match op with
     | .eql=>K (.v (.bool (a == b)))
     | .neq=>K (.v (.bool !(a == b)))
     | _=>False
   else False
 | .agg xs,.agg ys=>match It P t with
   | some l=>match fT l xs ys with
     | some b=>match op with
       | .eql=>K (.v (.bool b))
       | .neq=>K (.v (.bool !b))
       | _=>False
     | none=>False
   | none=>False
 | x,.v (.pointer none)=>match Kt x with
   | some b => if Lo P t then
       match op with
       | .eql=>K (.v (.bool b))
       | .neq=>K (.v (.bool !b))
       | _=>False
     else False
   | none=>(gt G->False)/\K .any
 | _,_=>(gt G->False)/\K .any
def J2(P:Program)(t:TypeId):Option (TypeId×TypeId):=match P.underlying t with|some (.map k e)=>some (k,e)|_=>none
def DH(P:Program)(t:TypeId):Option AV:=
 match P.info? t with
 | some i=>match i.zero with
   | some (.agg cs)=>if cs.toList.all (·.oneCell')=true then some (.agg (cs.toList.map lA))else none
   | some v=>if v.oneCell'=true then some (lA v)else none
   | none=>none
 | none=>none
def rU(P:Program)(kt:TypeId)(x y:AV):Option Bool:=
 match x,y with
 | .v a,.v b=>match nW P kt with
   | some c=>rF c (.v a) (.v b)
   | none=>none
 | _,_=>none
def lC(P:Program)(kt:TypeId):AV->Bool
 | .v (.int _ _)=>nW P kt == some 0
 | .v (.string _)=>nW P kt == some 1
 | .v (.bool _)=>nW P kt == some 2
 | _=>false
def tM(eq:AV->Option Bool):List (List AV)->Nat->Option (Option Nat)
 | [],_=>some none
 | e::r,i=>match eq (e.getD 0 .any)with
   | some true=>some (some i)
   | some false=>tM eq r (i+1)
   | none=>none
def E4(ok:Bool)(z:AV)(es:List (List AV))(oi:Option Nat):AV:=
 match oi with
 | some i=>if ok=true then .tup [(es.getD i []).getD 1 .any,.v (.bool true)]else(es.getD i []).getD 1 .any
 | none=>if ok=true then .tup [z,.v (.bool false)]else z
def RB(es:List (List AV))(oi:Option Nat)(k v:AV):List (List AV):=
 match oi with
 | some i=>es.set i [k,v]
 | none=>es++[[k,v]]
def yU(P:Program)(H:aD)(t:TypeId)(x key:AV)(K:Nat->Row->TypeId×TypeId->Option Nat->Prop):Prop:=
 match x with
 | .om j=>match H j,J2 P t with
   | some r,some kt=>match tM (rU P kt.1 key) r.es 0 with
     | some oi=>lC P kt.1 key=true/\K j r kt oi
     | none=>False
   | _,_=>False
 | _=>False
def nX(P:Program)(H:aD)(t:TypeId)(x key:AV)(ok:Bool)(K:AV->Prop):Prop:=
 yU P H t x key fun _ r kt oi=>match DH P kt.2 with
   | some z=>K (E4 ok z r.es oi)
   | none=>False
def rS(c:Bool):AV->AV->AV
 | .v (.bool true),.v (.bool b)=>.v (.bool (c||b))
 | .v (.bool a),.v (.bool false)=>.v (.bool (c&&a))
 | .v (.bool a),.v (.bool b)=>.v (.bool (bif c then a else b))
 | x,y=>bif c then x else y
def uN(G:Option Bool)(c:Bool)(x y:AV)(K:AV->Prop):Prop:=
 match x,y with
 | .gd g x,.gd g' y=>(gt G->c=true->g=true)/\(gt G->c=false->g'=true)/\K (rS c x y)
 | .gd g x,y=>(gt G->c=true->g=true)/\K (rS c x y)
 | x,.gd g' y=>(gt G->c=false->g'=true)/\K (rS c x y)
 | x,y=>K (rS c x y)
def jS(G:Option Bool)(H:aD)(l:Option Nat)(x:AV)(K:AV->Prop):Prop:=
 match x with
 | .rp cs off=>match l with
   | none=>(gt G->off<cs.length)/\K (cs.getD off .any)
   | some n=>(gt G->off+n<=cs.length)/\K (.agg ((cs.drop off).take n))
 | .op k i f=>match H k with
   | some r=>match l with
     | none=>(gt G->i<r.es.length/\f<r.sz)/\K ((r.es.getD i []).getD f .any)
     | some n=>(gt G->i<r.es.length/\f+n<=r.sz)/\K (.agg (((r.es.getD i []).drop f).take n))
   | none=>False
 | _=>False
def apart(G:Option Bool)(off:Nat)(l:Option Nat)(x:AV)(K:AV->Prop):Prop:=
 match x with
 | .agg cs=>match l with
   | none=>(gt G->off<cs.length)/\K (cs.getD off .any)
   | some n=>(gt G->off+n<=cs.length)/\K (.agg ((cs.drop off).take n))
 | _=>False
def Bc(P:Program)(H:aD)(t:TypeId)(x:AV)(K:AV->Prop):Prop:=
 match x with
 | .sl es=>if cL P t then K (.v (.int .i64 es.length))else False
 | .os k=>match H k with
   | some r=>if cL P t then K (.v (.int .i64 r.es.length))else False
   | none=>False
 | .oz _ a b=>if cL P t then K (.v (.int .i64 (b-a:Nat)))else False
 | .v (.string s)=>if dI P t then K (.v (.int .i64 s.size))else False
 | _=>False
def rY(a b:Int):Int:=if b>a then b else a
def O0(a b:Int):Int:=if b<a then b else a
def Ku(x y:AV)(K:AV->Prop):Prop:=
 match x,y with
 | .v (.int k a),.v (.int _ b)=>K (.v (.int k (rY a b)))
 | _,_=>False
def JS(x y:AV)(K:AV->Prop):Prop:=
 match x,y with
 | .v (.int k a),.v (.int _ b)=>K (.v (.int k (O0 a b)))
 | _,_=>False
def dY(P:Program)(G:Option Bool)(H:aD)(t:TypeId)(x i:AV)(K:AV->Prop):Prop:=
 match x,i with
 | .sl es,.v (.int _ n)=>match bM P t with
   | some (_,sz,_)=>(gt G->(0<=n/\n<es.length)/\(es.getD n.toNat []).length=sz)/\K (.rp (es.getD n.toNat []) 0)
   | none=>False
 | .os k,.v (.int _ n)=>match H k,bM P t with
   | some r,some (_,sz,_)=>(gt G->(0<=n/\n<r.es.length)/\r.sz=sz)/\K (.op k n.toNat 0)
   | _,_=>False
 | .oz k a b,.v (.int _ n)=>match H k,bM P t with
   | some r,some (_,sz,_)=>(gt G->(0<=n/\n<(b-a:Nat))/\r.sz=sz)/\K (.op k (a+n.toNat) 0)
   | _,_=>False
 | .rp cs off,.v (.int _ n)=>match Ao P t with
   | some (m,s,_)=>(gt G->0<=n/\n<m)/\K (.rp cs (off+n.toNat*s))
   | none=>False
 | .op k j f,.v (.int _ n)=>match Ao P t with
   | some (m,s,_)=>(gt G->0<=n/\n<m)/\K (.op k j (f+n.toNat*s))
   | none=>False
 | _,_=>False
def fO(P:Program)(t:TypeId)(f:Nat)(x:AV)(K:AV->Prop):Prop:=
 match x with
 | .rp cs off=>match aM P t f with
   | some (o,_)=>K (.rp cs (off+o))
   | none=>False
 | .op k i g=>match aM P t f with
   | some (o,_)=>K (.op k i (g+o))
   | none=>False
 | _=>False
def lP(places:List (Nat×Nat)):List AV->List (Nat×List AV)->Option (List AV)
 | cs,[]=>some cs
 | cs,(i,x)::rest=>match places[i]? with
   | some (off,n)=>if x.length=n/\off+n<=cs.length then lP places (cs.take off++x++cs.drop (off+n)) rest else none
   | none=>none
def kJ(G:Option Bool)(ρ:Env):List (Nat×Operand)->(List (Nat×List AV)->Prop)->Prop
 | [],K=>K []
 | (i,x)::rest,K=>aX G (aev ρ x) fun y=>gS y fun cs=>kJ G ρ rest fun l=>K ((i,cs)::l)
def uL(G:Option Bool)(ρ:Env):List Operand->(List AV->Prop)->Prop
 | [],K=>K []
 | x::rest,K=>aX G (aev ρ x) fun y=>uL G ρ rest fun l=>K (y::l)
def qM(P:Program)(t:TypeId)(parts:List (Nat×List AV))(K:AV->Prop):Prop:=
 match cN P t,dF P t with
 | some z,some pl=>match lP pl z parts with
   | some cs=>K (.agg cs)
   | none=>False
 | _,_=>False
def FI:Nat->Nat->List Nat
 | _,0=>[]
 | i,n+1=>i::FI (i+1) n
def cT(n:Nat):List (List AV)->Prop
 | []=>True
 | cs::r=>cs.length=n/\cT n r
def lK(P:Program)(G:Option Bool)(t:TypeId)(x:AV)(lo hi:Option AV)(K:AV->Prop):Prop:=
 match x,lo,hi with
 | .sl es,some (.v (.int _ a)),some (.v (.int _ b))=>match bM P t with
   | some (_,sz,_)=>(gt G->(0<=a/\a<=b/\b<=es.length)/\cT sz es)/\K (.sl ((es.take b.toNat).drop a.toNat))
   | none=>False
 | .sl es,some (.v (.int _ a)),none=>match bM P t with
   | some (_,sz,_)=>(gt G->(0<=a/\a<=es.length)/\cT sz es)/\K (.sl (es.drop a.toNat))
   | none=>False
 | .sl es,none,some (.v (.int _ b))=>match bM P t with
   | some _=>(gt G->0<=b/\b<=es.length)/\K (.sl (es.take b.toNat))
   | none=>False
 | .v (.string s),some (.v (.int _ a)),some (.v (.int _ b))=>
   if dI P t then(gt G->0<=a/\a<=b/\b<=s.size)/\K (.v (.string (s.extract a.toNat b.toNat)))else False
 | .v (.string s),some (.v (.int _ a)),none=>
   if dI P t then(gt G->0<=a/\a<=s.size)/\K (.v (.string (s.extract a.toNat s.size)))else False
 | .v (.string s),none,some (.v (.int _ b))=>
   if dI P t then(gt G->0<=b/\b<=s.size)/\K (.v (.string (s.extract 0 b.toNat)))else False
 | _,_,_=>False
def asl(P:Program)(G:Option Bool)(H:aD)(t:TypeId)(x:AV)(lo hi:Option AV)(K:AV->Prop):Prop:=
 match x with
 | .os k=>match H k,bM P t with
   | some r,some (_,sz,_)=>match lo,hi with
     | some (.v (.int _ a)),some (.v (.int _ b))=>(gt G->(0<=a/\a<=b/\b<=r.es.length)/\r.sz=sz)/\K (.oz k a.toNat b.toNat)
     | some (.v (.int _ a)),none=>(gt G->(0<=a/\a<=r.es.length)/\r.sz=sz)/\K (.oz k a.toNat r.es.length)
     | none,some (.v (.int _ b))=>(gt G->(0<=b/\b<=r.es.length)/\r.sz=sz)/\K (.oz k 0 b.toNat)
     | _,_=>False
   | _,_=>False
 | .oz k a b=>match H k,bM P t with
   | some r,some (_,sz,_)=>match lo,hi with
     | some (.v (.int _ l)),none=>(gt G->(0<=l/\l<=(b-a:Nat))/\r.sz=sz)/\K (.oz k (a+l.toNat) b)
     | _,_=>False
   | _,_=>False
 | x=>lK P G t x lo hi K
def Du(P:Program)(G:Option Bool)(t:TypeId)(x a b:AV)(K:AV->Prop):Prop:=
 match x,a,b with
 | .sl es,.v (.int _ a),.v (.int _ b)=>match bM P t with
   | some _=>(gt G->a=es.length/\b=es.length)/\K (.cl es)
   | none=>False
 | _,_,_=>False
def sT(P:Program)(G:Option Bool)(H:aD)(t:TypeId)(x a b m:AV)(K:AV->Prop):Prop:=
 match x,a,b,m with
 | .os k,.v (.int _ a),.v (.int _ b),.v (.int _ m)=>match H k,bM P t with
   | some r,some (_,sz,_)=>(gt G->(a=0/\0<=b/\b<=m/\m<=r.es.length)/\r.sz=sz)/\K (.oz k 0 b.toNat)
   | _,_=>False
 | _,_,_,_=>False
def rG(P:Program)(G:Option Bool)(t:TypeId)(x i:AV)(K:AV->Prop):Prop:=
 match x,i with
 | .v (.string s),.v (.int _ n)=>
   if dI P t then(gt G->0<=n/\n<s.size)/\K (.v (.int .u8 ((s.data.getD n.toNat 0).toNat:Int)))else False
 | .agg cs,.v (.int _ n)=>match Ao P t with
   | some (m,s,l)=>(gt G->0<=n/\n<m)/\apart G (n.toNat*s) l (.agg cs) K
   | none=>False
 | _,_=>False
def aun(op:UnOp)(x:AV)(K:AV->Prop):Prop:=
 match op,x with
 | .not,.v (.bool b)=>K (.v (.bool !b))
 | .neg,.v (.int k n)=>K (.v (.int k (k.wrap (0-n))))
 | _,_=>False
def sY:List (List AV)->Option (List Int)
 | []=>some []
 | [.v (.int .u8 n)]::r=>(sY r).map (n::·)
 | _=>none
def KT(P:Program)(t:TypeId):Bool:=
 match P.underlying t with
 | some (.slice e)=>match P.underlying e with
   | some (.int .u8)=>true
   | _=>false
 | _=>false
def zX(P:Program)(t:TypeId):Option IntKind:=match P.underlying t with|some (.int k)=>some k|_=>none
def wU(P:Program)(src dst:TypeId)(x:AV)(K:AV->Prop):Prop:=
 match x with
 | .v (.int _ n)=>match zX P dst,zX P src with
   | some k,some _=>K (.v (.int k (k.wrap n)))
   | _,_=>False
 | .v (.string s)=>if dI P src/\dI P dst then K (.v (.string s))else False
 | .sl es => if KT P src /\ dI P dst then
     match sY es with
     | some ns=>K (.v (.string (strOfNums ns)))
     | none=>False
   else False
 | _=>False
def Lt:Operand->Bool
 | .const .nilIface=>true
 | _=>false
def CV(P:Program)(t:TypeId):Bool:=match P.underlying t with|some (.interface _)=>true|_=>false
def vA(P:Program)(t:TypeId)(op:BinOp)(x:AV)(K:AV->Prop):Prop:=
 match op,x with
 | .eql,.v .nilIface=>CV P t=true/\K (.v (.bool true))
 | .neq,.v .nilIface=>CV P t=true/\K (.v (.bool false))
 | _,_=>False
def mN:Operand->Bool
 | .const (.slice none 0 0)=>true
 | _=>false
def B8(H:aD)(j:Nat):Prop:=∀r,H j=some r->r.es=[]
def lG(H:aD)(op:BinOp)(x:AV)(K:AV->Prop):Prop:=
 match op,x with
 | .eql,.sl es=>(es=[]->K (.v (.bool true)))/\K (.v (.bool false))
 | .neq,.sl es=>(es=[]->K (.v (.bool false)))/\K (.v (.bool true))
 | .eql,.os j=>(B8 H j->K (.v (.bool true)))/\K (.v (.bool false))
 | .neq,.os j=>(B8 H j->K (.v (.bool false)))/\K (.v (.bool true))
 | .eql,.v (.slice none 0 0)=>K (.v (.bool true))
 | .neq,.v (.slice none 0 0)=>K (.v (.bool false))
 | _,_=>False
def eR(P:Program)(G:Option Bool)(ρ:Env)(H:aD)(op:Op)(K:AV->Prop):Prop:=
 match op with
 | .move x| .assign x=>aX G (aev ρ x) K
 | .pick c a b=>aX G (aev ρ c) fun
   | .v (.bool c)=>uN G c (aev ρ a) (aev ρ b) K
   | _=>False
 | .build t parts=>kJ G ρ parts.toList fun l=>qM P t l K
 | .load t a=>match ldT P t with
   | some l=>aX G (aev ρ a) fun a=>jS G H l a K
   | none=>False
 | .nilCheck x=>aX G (aev ρ x) fun
   | .rp cs off=>K (.rp cs off)
   | .op k i f=>K (.op k i f)
   | .v (.pointer none)=>(gt G->False)/\∃cs off,K (.rp cs off)
   | _=>False
 | .binOp op t x y _=>if mN y=true then aX G (aev ρ x) fun x=>cL P t=true/\lG H op x K else if Lt y=true then aX G (aev ρ x) fun x=>vA P t op x K else aX G (aev ρ x) fun x=>aX G (aev ρ y) fun y=>eX P G op t x y K
 | .unOp op _ x=>aX G (aev ρ x) fun x=>aun op x K
 | .convert src dst x=>aX G (aev ρ x) fun x=>wU P src dst x K
 | .slice t x lo hi none=>aX G (aev ρ x) fun x=>match lo,hi with
   | some lo,some hi=>aX G (aev ρ lo) fun lo=>aX G (aev ρ hi) fun hi=>asl P G H t x (some lo) (some hi) K
   | some lo,none=>aX G (aev ρ lo) fun lo=>asl P G H t x (some lo) none K
   | none,some hi=>aX G (aev ρ hi) fun hi=>asl P G H t x none (some hi) K
   | none,none=>False
 | .slice t x none (some hi) (some m)=>aX G (aev ρ x) fun x=>aX G (aev ρ hi) fun hi=>aX G (aev ρ m) fun m=>Du P G t x hi m K
 | .slice t x (some lo) (some hi) (some m)=>aX G (aev ρ x) fun x=>aX G (aev ρ lo) fun lo=>aX G (aev ρ hi) fun hi=>aX G (aev ρ m) fun m=>sT P G H t x lo hi m K
 | .fieldAddr t x f=>aX G (aev ρ x) fun x=>fO P t f x K
 | .field t x f=>match aM P t f with
   | some (o,l)=>aX G (aev ρ x) fun x=>apart G o l x K
   | none=>False
 | .indexAddr t x i=>aX G (aev ρ x) fun x=>aX G (aev ρ i) fun i=>dY P G H t x i K
 | .index t x i=>aX G (aev ρ x) fun x=>aX G (aev ρ i) fun i=>rG P G t x i K
 | .extract x i=>aX G (aev ρ x) fun
   | .tup vs=>(gt G->i<vs.length)/\K (vs.getD i .any)
   | _=>False
 | .lookup t x i ok=>aX G (aev ρ x) fun x=>aX G (aev ρ i) fun i=>nX P H t x i ok K
 | .makeFunc f first cap=>match f with
   | .func f=>first=#[]/\uL G ρ cap.toList fun l=>K (.fn f l)
   | _=>False
 | _=>False
def bN(ops:Array Oper)(ρ:Env)(g:Option (Nat×Bool))(K:Option Bool->Prop):Prop:=
 match g with
 | none=>K none
 | some (j,want)=>match (ops[j]?).bind (·.dst)with
   | some t=>match ρ t with
     | .v (.bool b)=>K (some (b == want))
     | .gd g (.v (.bool b))=>K (some (g&&(b == want)))
     | _=>False
   | none=>False
def lU(mt:Nat->Bool):Option Nat->Bool
 | some d=>mt d
 | none=>false
def iJ(H:aD)(r:Row)(K:Nat->aD->Prop):Prop:=∀k,H k=none->K k (aE H k (some r))
def kI(cs:List AV)(f:Nat)(xs:List AV):List AV:=cs.take f++xs++cs.drop (f+xs.length)
def gK:List (Nat×TypeId×Nat)->List AV->aD->(List AV->aD->Prop)->Prop
 | [],cs,H,K=>K cs H
 | x::r,cs,H,K=>iJ H ⟨x.2.1,x.2.2,[]⟩ fun k H'=>gK r (cs.set x.1 (.os k)) H' K
def vX(P:Program)(mt:Nat->Bool)(quiet:Bool)(G:Option Bool)(o:Oper)(x:Operand)(ρ:Env)(H:aD)(K:Env->aD->Prop):Prop:=
 if lU mt o.dst=true/\G=none/\quiet=false/\mN x=true then
   match bM P o.type with
   | some (e,sz,_)=>iJ H ⟨e,sz,[]⟩ fun k H'=>K (upd ρ o.dst (.os k)) H'
   | none=>False
 else aX G (aev ρ x) fun y=>K (upd ρ o.dst (wr G y)) H
def Sc(mt:Nat->Bool)(o:Oper)(t:TypeId)(cs:List AV)(ρ:Env)(H:aD)(K:Env->aD->Prop):Prop:=
 if lU mt o.dst=true then
   0<cs.length/\iJ H ⟨t,cs.length,[cs]⟩ fun k H'=>K (upd ρ o.dst (.op k 0 0)) H'
 else K (upd ρ o.dst (.rp cs 0)) H
def jE(P:Program)(mt:Nat->Bool)(G:Option Bool)(o:Oper)(t:TypeId)(n:Nat)(parts:List (Nat×List AV))(ρ:Env)(H:aD)(K:Env->aD->Prop):Prop:=
 match bM P t with
 | some (e,sz,_)=>
   (parts.map (·.1)=FI 0 n/\cT sz (parts.map (·.2))/\n*sz<=16777216) /\
   (if lU mt o.dst=true/\G=none then iJ H ⟨e,sz,parts.map (·.2)⟩ fun k H'=>K (upd ρ o.dst (.os k)) H'
    else K (upd ρ o.dst (wr G (.sl (parts.map (·.2))))) H)
 | none=>False
def tB(P:Program)(o:Oper)(t:TypeId)(a:AV)(cs:List AV)(ρ:Env)(H:aD)(K:Env->aD->Prop):Prop:=
 match a with
 | .op k i f=>match H k,ldT P t with
   | some r, some l => (i < r.es.length /\ cs.length = l.getD 1 /\ f + cs.length <= r.sz /\ (l = none -> ∃ i, P.info? t = some i /\ i.size = 1)) /\
       K (upd ρ o.dst .any) (aE H k (some { r with es:=r.es.set i (kI (r.es.getD i []) f cs) }))
   | _,_=>False
 | _=>False
def oG(P:Program)(o:Oper)(t:TypeId)(a:AV)(cs:List AV)(ρ:Env)(H:aD)(K:Env->aD->Prop):Prop:=
 tB P o t a cs ρ H K\/((ldT P t).isSome=true/\∃nl:List (Nat×TypeId×Nat),(∀x∈nl,cs[x.1]?=some (.v (.slice none 0 0))/\0<x.2.2)/\gK nl cs H fun cs H=>tB P o t a cs ρ H K)
def tV(x:Operand)(ρ:Env)(d:Option Nat)(H:aD)(K:Env->aD->Prop):Prop:=
 match x with
 | .tmp t=>match ρ t with
   | .os j=>match H j with
     | some r=>∀Hr:aD,Hr j=none->(∀k,k≠j->Hr k=H k)->K (upd (upd ρ (some t) (.sl r.es)) d (.sl r.es)) Hr
     | none=>False
   | _=>False
 | _=>False
def N4{t j:Nat}{r:Row}{ρ:Env}{d:Option Nat}{H:aD}{K:Env->aD->Prop}(E:ρ t=.os j)(F:H j=some r)(h:∀u:aD,u j=none->(∀k,k≠j->u k=H k)->K (upd (upd ρ (some t) (.sl r.es)) d (.sl r.es)) u):tV (.tmp t) ρ d H K:=by unfold tV;simp only[E,F];exact h
def C5(l:List Nat)(H:aD):List AV->List AV->Prop
 | [],[]=>True
 | x::xs,y::ys=>(x=y\/∃j r,j∈l/\x=.os j/\H j=some r/\y=.sl r.es)/\C5 l H xs ys
 | _,_=>False
def Dj(x:AV)(ρ:Env)(d:Option Nat)(H:aD)(K:Env->aD->Prop):Prop:=
 match x with
 | .agg cs=>∃(l:List Nat) (ys:List AV),C5 l H cs ys/\∀Hr:aD,(∀k,k∈l->Hr k=none)->(∀k,¬k∈l->Hr k=H k)->K (upd ρ d (.agg ys)) Hr
 | _=>False
def qD(H:aD)(x:AV)(K:List (List AV)->Prop):Prop:=
 match x with
 | .sl es=>K es
 | .os k=>match H k with
   | some r=>K r.es
   | none=>False
 | .oz k a b=>match H k with
   | some r=>K ((r.es.take b).drop a)
   | none=>False
 | _=>False
def JA(H:aD)(x:AV)(K:Nat->Nat->Nat->Row->Prop):Prop:=
 match x with
 | .os k=>match H k with
   | some r=>K k 0 r.es.length r
   | none=>False
 | .oz k a b=>match H k with
   | some r=>K k a (b-a) r
   | none=>False
 | _=>False
def LS(P:Program)(o:Oper)(t:TypeId)(x y:AV)(ρ:Env)(H:aD)(K:Env->aD->Prop):Prop:=
 JA H x fun k a n r=>qD H y fun news=>match bM P t with
   | some (_,sz,_)=>(r.sz=sz/\cT sz news)/\K (upd ρ o.dst (.v (.int .i64 (min news.length n:Nat)))) (aE H k (some { r with es:=r.es.take a++news.take (min news.length n)++r.es.drop (a+min news.length n) }))
   | none=>False
def KH(P:Program)(o:Oper)(t:TypeId)(x:AV)(ρ:Env)(H:aD)(K:Env->aD->Prop):Prop:=
 JA H x fun k a n r=>match bM P t with
   | some (e,sz,_)=>match cN P e with
     | some zs=>r.sz=sz/\K (upd ρ o.dst .any) (aE H k (some { r with es:=r.es.take a++List.replicate n zs++r.es.drop (a+n) }))
     | none=>False
   | none=>False
def tX(P:Program)(o:Oper)(t:TypeId)(s x:AV)(ρ:Env)(H:aD)(K:Env->aD->Prop):Prop:=
 match s,bM P t with
 | .os k,some (e,sz,bytes)=>match H k with
   | some r => qD H x fun news =>
       (r.e=e/\r.sz=sz/\cT sz news/\(r.es.length+news.length)*bytes<=140737488355328) /\
       ∀k',H k'=none->K (upd ρ o.dst (.os k')) (aE (aE H k none) k' (some ⟨e,sz,r.es++news⟩))
   | none=>False
 | .cl es, some (e, sz, bytes) => qD H x fun news =>
     (news≠[]/\cT sz es/\cT sz news/\(es.length+news.length)*bytes<=140737488355328) /\
     ∀k',H k'=none->K (upd ρ o.dst (.os k')) (aE H k' (some ⟨e,sz,es++news⟩))
 | .oz k a b,some (e,sz,bytes)=>match H k with
   | some r => qD H x fun news =>
       (r.e=e/\r.sz=sz/\news≠[]/\cT sz news/\b=r.es.length/\(r.es.length+news.length)*bytes<=140737488355328) /\
       ∀(k':Nat) (pre:List (List AV)),pre.length<=a->H k'=none->K (upd ρ o.dst (.oz k' pre.length (pre.length+(b-a)+news.length))) (aE (aE H k none) k' (some ⟨e,sz,pre++(r.es.drop a++news)⟩))
   | none=>False
 | .v (.slice none 0 0), some (e, sz, bytes) => qD H x fun news =>
     (news=[]/\K (upd ρ o.dst (.v (.slice none 0 0))) H) \/
     (news≠[]/\cT sz ([]:List (List AV))/\cT sz news/\(([]:List (List AV)).length+news.length)*bytes<=140737488355328) /\
     ∀k',H k'=none->K (upd ρ o.dst (.os k')) (aE H k' (some ⟨e,sz,[]++news⟩))
 | .sl es,some _=>qD H x fun news=>news=[]/\K (upd ρ o.dst (.sl es)) H
 | _,_=>False
def Eg:List (Nat×TypeId×Nat)->List AV->List AV
 | [],z=>z
 | x::r,z=>Eg r (z.set x.1 (.v (.slice none 0 0)))
def uB(P:Program)(o:Oper)(t:TypeId)(parts:List (Nat×Operand))(ρ:Env)(H:aD)(K:Env->aD->Prop):Prop:=
 kJ none ρ parts fun l=>match cN P t,dF P t,jX P t with
   | some z,some pl,some nl=>match lP pl (Eg nl z) l with
     | some cs=>K (upd ρ o.dst (.agg cs)) H
     | none=>False
   | _,_,_=>False
def vP(P:Program)(o:Oper)(t:TypeId)(parts:List (Nat×Operand))(ρ:Env)(H:aD)(K:Env->aD->Prop):Prop:=
 kJ none ρ parts fun l=>match cN P t,dF P t,jX P t with
   | some z,some pl,some nl=>gK nl z H fun z H=>match lP pl z l with
     | some cs=>K (upd ρ o.dst (.agg cs)) H
     | none=>False
   | _,_,_=>False
def iA(P:Program)(o:Oper)(t:TypeId)(m x v:AV)(ρ:Env)(H:aD)(K:Env->aD->Prop):Prop:=
 yU P H t m x fun j r _ oi=>K (upd ρ o.dst .any) (aE H j (some { r with es:=RB r.es oi x v }))
def tU(P:Program)(o:Oper)(t:TypeId)(m x:AV)(ρ:Env)(H:aD)(K:Env->aD->Prop):Prop:=
 yU P H t m x fun j r kt oi=>match oi with
   | some i=>K (upd ρ o.dst (.tup [(r.es.getD i []).getD 1 .any,.v (.int .i64 i)])) H
   | none=>match DH P kt.2 with
     | some z=>K (upd ρ o.dst (.tup [z,.v (.int .i64 r.es.length)])) (aE H j (some { r with es:=r.es++[[x,z]] }))
     | none=>False
def nZ(o:Oper)(m s v:AV)(ρ:Env)(H:aD)(K:Env->aD->Prop):Prop:=
 match m,s with
 | .om j,.v (.int _ i)=>match H j with
   | some r=>(0<=i/\i<r.es.length)/\K (upd ρ o.dst .any) (aE H j (some { r with es:=r.es.set i.toNat [(r.es.getD i.toNat []).getD 0 .any,v] }))
   | none=>False
 | _,_=>False
def mK(P:Program)(o:Oper)(t:TypeId)(l c:AV)(ρ:Env)(H:aD)(K:Env->aD->Prop):Prop:=
 match l,c with
 | .v (.int _ a),.v (.int _ b)=>match bM P t with
   | some (e,sz,bytes)=>match cN P e with
     | some z=>((0<=a/\a<=b)/\(bytes:Int)*b<=140737488355328)/\iJ H ⟨e,sz,List.replicate a.toNat z⟩ fun k H'=>K (upd ρ o.dst (.os k)) H'
     | none=>False
   | none=>False
 | _,_=>False
def GW:AV->Option (FuncId×List AV×List AV)
 | .v (.func (.func f) first captured)=>some (f,first.toList.map .v,captured.toList.map .v)
 | .fn f cap=>some (f,[],cap)
 | _=>none
def aG(P:Program)(f:FuncId):Bool:=match P.funcs[f]? with|some fn=>fn.name != "runtime.NumGoroutine" && fn.body.isSome|none=>false
abbrev gW:=FuncId->List AV->aD->(AV->aD->Prop)->Prop
def nfq(quiet:Bool)(r:AV)(K:AV->Prop):Prop:=match quiet,r with
 | true,.nf _=>False
 | false,.nf x=>K x
 | _,r=>K r
def wM(P:Program)(C:gW)(PC:FuncId->List AV->aD->AV->Prop)(nl quiet:Bool)(G:Option Bool)(o:Oper)(c:Call)(ρ:Env)(H:aD)(K:Env->aD->Prop):Prop:=
 match c.callee with
 | .builtin b=>uL G ρ c.args.toList fun l=>match b,l,c.argTypes.toList with
   | .len,[x],[t]=>Bc P H t x fun y=>K (upd ρ o.dst (wr G y)) H
   | .append,[s,x],[t,t']=>if t=t'/\G=none/\quiet=false then tX P o t s x ρ H K else False
   | .copy,[x,y],[t,_]=>if G=none/\quiet=false then LS P o t x y ρ H K else False
   | .clear,[x],[t]=>if G=none/\quiet=false then KH P o t x ρ H K else False
   | .max,[x,y],[_,_]=>Ku x y fun z=>K (upd ρ o.dst (wr G z)) H
   | .min,[x,y],[_,_]=>JS x y fun z=>K (upd ρ o.dst (wr G z)) H
   | _,_,_=>False
 | .value f=>aX G (aev ρ f) fun x=>match GW x with
   | some (f,first,captured)=>if nl=true then gt G/\quiet=false/\aG P f=true/\C f (first++c.args.toList.map (FD ρ)++captured) H fun r H'=>K (upd ρ o.dst r) H' else uL G ρ c.args.toList fun l=>
     aG P f=true/\if G=none/\quiet=false then C f (first++l++captured) H fun r H'=>K (upd ρ o.dst r) H'
     else ∃r,(gt G->PC f (first++l++captured) H r)/\nfq quiet r fun r=>K (upd ρ o.dst (wr G r)) H
   | none=>False
 | .invoke _ _=>False
def aop(P:Program)(C:gW)(PC:FuncId->List AV->aD->AV->Prop)(mt:Nat->Bool)(quiet:Bool)(ops:Array Oper)(o:Oper)(ρ:Env)(H:aD)(K:Env->aD->Prop):Prop:=
 bN ops ρ o.guard fun G=>
 match o.op with
 | .assign x=>vX P mt quiet G o x ρ H K
 | .alloc t=>match cN P t with
   | some z => G = none /\ quiet = false /\ (if lU mt o.dst = true then match jX P t with
       | some nl=>gK nl z H fun z H=>iJ H ⟨t,z.length,[z]⟩ fun k H'=>K (upd ρ o.dst (.op k 0 0)) H'
       | none=>False
     else iJ H ⟨t,z.length,[z]⟩ fun k H'=>K (upd ρ o.dst (.op k 0 0)) H')
   | none=>False
 | .box t x=>G=none/\quiet=false/\aX G (aev ρ x) fun x=>gS x fun cs=>Sc mt o t cs ρ H K
 | .buildSlice t n parts=>quiet=false/\kJ G ρ parts.toList fun l=>jE P mt G o t n l ρ H K
 | .store t a x => G = none /\ quiet = false /\ (if mN x = true then aX G (aev ρ a) fun a => match bM P t with
       | some (e,sz,_)=>iJ H ⟨e,sz,[]⟩ fun k H=>oG P o t a [.os k] ρ H K
       | none=>False
     else aX G (aev ρ a) fun a=>aX G (aev ρ x) fun x=>gS x fun cs=>oG P o t a cs ρ H K)
 | .call c=>wM P C PC (lU mt o.dst) quiet G o c ρ H K
 | .move x=>if lU mt o.dst=true then G=none/\quiet=false/\tV x ρ o.dst H K else eR P G ρ H (.move x) fun x=>K (upd ρ o.dst (wr G x)) H
 | .pick c a b=>eR P G ρ H (.pick c a b) fun x=>K (upd ρ o.dst (wr G x)) H
 | .build t parts=>if lU mt o.dst=true then G=none/\(if quiet=true then uB P o t parts.toList ρ H K else vP P o t parts.toList ρ H K)else eR P G ρ H (.build t parts) fun x=>K (upd ρ o.dst (wr G x)) H
 | .load t a=>if lU mt o.dst=true then G=none/\quiet=false/\eR P none ρ H (.load t a) fun x=>Dj x ρ o.dst H K else eR P G ρ H (.load t a) fun x=>K (upd ρ o.dst (wr G x)) H
 | .nilCheck x=>eR P G ρ H (.nilCheck x) fun x=>K (upd ρ o.dst (wr G x)) H
 | .binOp op t x y t'=>eR P G ρ H (.binOp op t x y t') fun x=>K (upd ρ o.dst (wr G x)) H
 | .unOp op t x=>eR P G ρ H (.unOp op t x) fun x=>K (upd ρ o.dst (wr G x)) H
 | .convert s d x=>eR P G ρ H (.convert s d x) fun x=>K (upd ρ o.dst (wr G x)) H
 | .slice t x lo hi m=>eR P G ρ H (.slice t x lo hi m) fun x=>K (upd ρ o.dst (wr G x)) H
 | .fieldAddr t x f=>eR P G ρ H (.fieldAddr t x f) fun x=>K (upd ρ o.dst (wr G x)) H
 | .field t x f=>eR P G ρ H (.field t x f) fun x=>K (upd ρ o.dst (wr G x)) H
 | .indexAddr t x i=>eR P G ρ H (.indexAddr t x i) fun x=>K (upd ρ o.dst (wr G x)) H
 | .index t x i=>eR P G ρ H (.index t x i) fun x=>K (upd ρ o.dst (wr G x)) H
 | .extract x i=>eR P G ρ H (.extract x i) fun x=>K (upd ρ o.dst (wr G x)) H
 | .makeFunc f a b=>eR P G ρ H (.makeFunc f a b) fun x=>K (upd ρ o.dst (wr G x)) H
 | .makeSlice t l c=>G=none/\quiet=false/\aX G (aev ρ l) fun l=>aX G (aev ρ c) fun c=>mK P o t l c ρ H K
 | .lookup t x i ok=>eR P G ρ H (.lookup t x i ok) fun x=>K (upd ρ o.dst (wr G x)) H
 | .makeMap _ none=>G=none/\quiet=false/\iJ H ⟨0,2,[]⟩ fun k H'=>K (upd ρ o.dst (.om k)) H'
 | .mapUpdate t m x v=>G=none/\quiet=false/\aX G (aev ρ m) fun m=>aX G (aev ρ x) fun x=>aX G (aev ρ v) fun v=>iA P o t m x v ρ H K
 | .insert t m x v=>G=none/\quiet=false/\aX G (aev ρ m) fun m=>aX G (aev ρ x) fun x=>aX G (aev ρ v) fun v=>iA P o t m x v ρ H K
 | .mapEntry t m x=>G=none/\quiet=false/\aX G (aev ρ m) fun m=>aX G (aev ρ x) fun x=>tU P o t m x ρ H K
 | .entryStore _ m s v=>G=none/\quiet=false/\aX G (aev ρ m) fun m=>aX G (aev ρ s) fun s=>aX G (aev ρ v) fun v=>nZ o m s v ρ H K
 | _=>False
def qE(P:Program)(C:gW)(PC:FuncId->List AV->aD->AV->Prop)(mt:Nat->Bool)(quiet:Bool)(ops:Array Oper)(K:Env->aD->Prop):List Oper->Env->aD->Prop
 | [],ρ,H=>K ρ H
 | o::rest,ρ,H=>aop P C PC mt quiet ops o ρ H (qE P C PC mt quiet ops K rest)
def Ex.seq(K:Env->aD->Prop)(Q:Ex->Env->aD->Prop):Ex->Env->aD->Prop
 | .normal,ρ,H=>K ρ H
 | e,ρ,H=>Q e ρ H
def Ex.blk(id:Nat)(Q:Ex->Env->aD->Prop):Ex->Env->aD->Prop
 | .exit i,ρ,H=>if i=id then Q .normal ρ H else Q (.exit i) ρ H
 | e,ρ,H=>Q e ρ H
def Ha(W:(Ex->Env->aD->Prop)->Env->aD->Prop)(Q:Ex->Env->aD->Prop)(ρ:Env)(H:aD):Prop:=
 ∃(I:Env->aD->Prop) (μ:Env->aD->Nat),I ρ H/\∀ρ' H',I ρ' H'->W (Ex.seq (fun ρ'' H''=>I ρ'' H''/\μ ρ'' H''<μ ρ' H') Q) ρ' H'
def TT(mt:Nat->Bool)(o:Oper):Bool:=match o.op with
 | .alloc _=>true
 | .buildSlice ..=>true
 | .store ..=>true
 | .makeSlice ..=>true
 | .makeMap ..=>true
 | .mapUpdate ..=>true
 | .insert ..=>true
 | .mapEntry ..=>true
 | .entryStore ..=>true
 | .call ⟨.builtin .append,_,_⟩=>true
 | .call ⟨.builtin .copy,_,_⟩=>true
 | .call ⟨.builtin .clear,_,_⟩=>true
 | _=>lU mt o.dst
def LG(mt:Nat->Bool):List Oper->Nat
 | []=>0
 | o::r=>if TT mt o=true then 0 else LG mt r+1
def LB(ops:Array Oper)(n:Nat):Bool:=Region.noSelect ops&&decide (n<=ops.size)&&Region.lexHead .any ops (ops.size-n) n 0 (Array.replicate ops.size false)
def qH(o:Oper)(H:aD):aD:=match o.op with
 | .slice ..=>H
 | _=>fun _=>none
def sL(P:Program)(C:gW)(PC:FuncId->List AV->aD->AV->Prop)(mt:Nat->Bool)(ops:Array Oper)(K:Env->aD->Prop):List (Nat×Bool)->Env->aD->Prop
 | [],ρ,H=>K ρ H
 | (k,b)::f,ρ,H=>match ops[k]? with
   | some o=>if b=true then aop P C PC mt true ops o ρ (qH o H) fun ρ' _=>sL P C PC mt ops K f ρ' H
     else aop P C PC mt false ops o ρ H (sL P C PC mt ops K f)
   | none=>False
def pH(P:Program)(C:gW)(PC:FuncId->List AV->aD->AV->Prop)(mt:Nat->Bool)(ops:Array Oper)(K:Env->aD->Prop)(Hp:aD):List (Nat×Bool)->Env->aD->Prop
 | [],ρ,H=>K ρ H
 | (k,b)::f,ρ,H=>match ops[k]? with
   | some o=>if b=true then aop P C PC mt true ops o ρ Hp fun ρ' _=>pH P C PC mt ops K Hp f ρ' H
     else aop P C PC mt false ops o ρ H (pH P C PC mt ops K Hp f)
   | none=>False
def kQ(l:List Nat)(H:aD)(K:Env->aD->Prop)(ρ':Env)(H':aD):Prop:=
 (∀k,k∈l->H' k=none)->∀Hm:aD,(∀k,k∈l->Hm k=H k)->(∀k,k∉l->Hm k=H' k)->K ρ' Hm
def eK{l:List Nat}{H:aD}{K:Env->aD->Prop}{u:Env}{H':aD}(h:(∀k,k∈l->H' k=none)->∀E:aD,(∀k,k∈l->E k=H k)->(∀k,k∉l->E k=H' k)->K u E):kQ l H K u H':=h
def kY(ops:Array Oper):List (Nat×Bool)->Array Bool->Bool
 | [],listed=>(Region.ready .any ops listed).isEmpty
 | (k,true)::f,listed=>(Region.ready .any ops listed).contains k&&Region.free .any ops listed k&&kY ops f (listed.setIfInBounds k true)
 | (k,false)::f,listed=>decide (Region.ready .any ops listed=[k])&&kY ops f (listed.setIfInBounds k true)
def J9(ops:Array Oper)(f:List (Nat×Bool)):Bool:=Region.noSelect ops&&decide (f.length=ops.size)&&kY ops f (Array.replicate ops.size false)
inductive Mx where
 | nil
 | q (k:Nat) (t:Mx)
 | a1 (k:Nat) (t:Mx)
 | a2 (k:Nat) (t:Mx) (k':Nat) (t':Mx)
 | a3 (k:Nat) (t:Mx) (k':Nat) (t':Mx) (k'':Nat) (t'':Mx)
def pV(P:Program)(C:gW)(PC:FuncId->List AV->aD->AV->Prop)(mt:Nat->Bool)(quiet:Bool)(ops:Array Oper)(k:Nat)(ρ:Env)(H:aD)(K:Env->aD->Prop):Prop:=
 match ops[k]? with
 | some o=>aop P C PC mt quiet ops o ρ H K
 | none=>False
def fR(P:Program)(C:gW)(PC:FuncId->List AV->aD->AV->Prop)(mt:Nat->Bool)(ops:Array Oper)(K:Env->aD->Prop)(Hp:aD):Mx->Env->aD->Prop
 | .nil,ρ,H=>K ρ H
 | .q k t,ρ,H=>pV P C PC mt true ops k ρ Hp fun ρ' _=>fR P C PC mt ops K Hp t ρ' H
 | .a1 k t,ρ,H=>pV P C PC mt false ops k ρ H (fR P C PC mt ops K Hp t)
 | .a2 k t k' t',ρ,H=>pV P C PC mt false ops k ρ H (fR P C PC mt ops K Hp t)/\pV P C PC mt false ops k' ρ H (fR P C PC mt ops K Hp t')
 | .a3 k t k' t' k'' t'',ρ,H=>pV P C PC mt false ops k ρ H (fR P C PC mt ops K Hp t)/\pV P C PC mt false ops k' ρ H (fR P C PC mt ops K Hp t')/\pV P C PC mt false ops k'' ρ H (fR P C PC mt ops K Hp t'')
def dD(ops:Array Oper):Mx->Nat->Array Bool->Bool
 | .nil,0,listed=>(Region.ready .any ops listed).isEmpty
 | .q k t,n+1,listed=>(Region.ready .any ops listed).contains k&&Region.free .any ops listed k&&dD ops t n (listed.setIfInBounds k true)
 | .a1 k t,n+1,listed=>decide (Region.ready .any ops listed=[k])&&dD ops t n (listed.setIfInBounds k true)
 | .a2 k t k' t',n+1,listed=>decide (Region.ready .any ops listed=[k,k'])&&dD ops t n (listed.setIfInBounds k true)&&dD ops t' n (listed.setIfInBounds k' true)
 | .a3 k t k' t' k'' t'',n+1,listed=>decide (Region.ready .any ops listed=[k,k',k''])&&dD ops t n (listed.setIfInBounds k true)&&dD ops t' n (listed.setIfInBounds k' true)&&dD ops t'' n (listed.setIfInBounds k'' true)
 | _,_,_=>false
def AH(ops:Array Oper)(t:Mx):Bool:=Region.noSelect ops&&dD ops t ops.size (Array.replicate ops.size false)
def rQ(P:Program)(C:gW)(PC:FuncId->List AV->aD->AV->Prop)(mt:Nat->Bool)(ops:Array Oper)(K:Env->aD->Prop)(m:Nat)(ρ:Env)(H:aD):Prop:=
 (m=ops.size/\Region.lexB .any ops=true/\qE P C PC mt true ops K ops.toList ρ H) \/
 (LB ops m=true/\qE P C PC mt true ops (fun ρ' _=>qE P C PC mt false ops K (ops.toList.drop m) ρ' H) (ops.toList.take m) ρ fun _=>none) \/
 (∃f,J9 ops f=true/\sL P C PC mt ops K f ρ H) \/
 ∃l t,(∀k,k∈l->(H k).isSome=true)/\AH ops t=true/\∀Hp Hr:aD,(∀k,k∈l->Hp k=H k)->(∀k,k∉l->Hr k=H k)->(∀k,k∉l->Hp k=none)->(∀k,k∈l->Hr k=none)->fR P C PC mt ops (kQ l H K) Hp t ρ Hr
def eZ{P:Program}{C:gW}{PC:FuncId->List AV->aD->AV->Prop}{mt:Nat->Bool}{l:List Oper}{K:Env->aD->Prop}{m:Nat}{ρ:Env}{H:aD}(E:(m == l.length)=true)(u:Region.lexB .any l.toArray=true)
 (h:qE P C PC mt true l.toArray K l ρ H):rQ P C PC mt l.toArray K m ρ H:=.inl ⟨by simpa using E,u,h⟩
def RH{P:Program}{C:gW}{PC:FuncId->List AV->aD->AV->Prop}{mt:Nat->Bool}{l:List Oper}{K:Env->aD->Prop}{m:Nat}{ρ:Env}{H:aD}(hB:LB l.toArray m=true)
 (h:qE P C PC mt true l.toArray (fun u _=>qE P C PC mt false l.toArray K (l.drop m) u H) (l.take m) ρ fun _=>none):rQ P C PC mt l.toArray K m ρ H:=.inr (.inl ⟨hB,h⟩)
def FL{P:Program}{C:gW}{PC:FuncId->List AV->aD->AV->Prop}{mt:Nat->Bool}{l:List Oper}{K:Env->aD->Prop}{m:Nat}{ρ:Env}{H:aD}(f:List (Nat×Bool))(hB:J9 l.toArray f=true)
 (h:sL P C PC mt l.toArray K f ρ H):rQ P C PC mt l.toArray K m ρ H:=.inr (.inr (.inl ⟨f,hB,h⟩))
def oF{P:Program}{C:gW}{PC:FuncId->List AV->aD->AV->Prop}{mt:Nat->Bool}{ops:List Oper}{K:Env->aD->Prop}{m:Nat}{ρ:Env}{H:aD}(l:List Nat)(t:Mx)(E:∀k,k∈l->(H k).isSome=true)(hB:AH ops.toArray t=true)
 (h:∀Hp u:aD,(∀k,k∈l->Hp k=H k)->(∀k,k∉l->u k=H k)->(∀k,k∉l->Hp k=none)->(∀k,k∈l->u k=none)->fR P C PC mt ops.toArray (kQ l H K) Hp t ρ u):rQ P C PC mt ops.toArray K m ρ H:=.inr (.inr (.inr ⟨l,t,E,hB,h⟩))
def mxL:List (Nat×Bool)->Mx
 | []=>.nil
 | (k,true)::f=>.q k (mxL f)
 | (k,false)::f=>.a1 k (mxL f)
def Qc{P:Program}{C:gW}{PC:FuncId->List AV->aD->AV->Prop}{mt:Nat->Bool}{ops:Array Oper}{K:Env->aD->Prop}(Hp:aD):∀f,pH P C PC mt ops K Hp f=fR P C PC mt ops K Hp (mxL f)
 | []=>by funext ρ H;simp only[pH,mxL,fR]
 | (k,b)::f=>by funext ρ H;cases b <;> simp[pH,mxL,fR,pV,Qc Hp f]
def VD{ops:Array Oper}{f:List (Nat×Bool)}(h:J9 ops f=true):AH ops (mxL f)=true:=by
 have u:∀(f:List (Nat×Bool)) (l:Array Bool),kY ops f l=true->dD ops (mxL f) f.length l=true:=by
  intro f;induction f with
  | nil=>intro l h;simpa[kY,mxL,dD]using h
  | cons x f ih=>
   intro l h;obtain⟨k,b⟩:=x;cases b <;> simp only[kY,Bool.and_eq_true]at h <;> simp only[mxL,dD,List.length_cons,Bool.and_eq_true]
   ·exact⟨h.1,ih _ h.2⟩
   ·exact⟨h.1,ih _ h.2⟩
 simp only[J9,Bool.and_eq_true,decide_eq_true_eq]at h;simp only[AH,Bool.and_eq_true];have e:=u f _ h.2;rw[h.1.2]at e;exact⟨h.1.1,e⟩
def eN{P:Program}{C:gW}{PC:FuncId->List AV->aD->AV->Prop}{mt:Nat->Bool}{ops:List Oper}{K:Env->aD->Prop}{m:Nat}{ρ:Env}{H:aD}(l:List Nat)(f:List (Nat×Bool))(E:∀k,k∈l->(H k).isSome=true)(hB:J9 ops.toArray f=true)
 (h:∀Hp u:aD,(∀k,k∈l->Hp k=H k)->(∀k,k∉l->u k=H k)->(∀k,k∉l->Hp k=none)->(∀k,k∈l->u k=none)->pH P C PC mt ops.toArray (kQ l H K) Hp f ρ u):rQ P C PC mt ops.toArray K m ρ H:=oF l (mxL f) E (VD hB) fun Hp u h1 J L F=>by rw[<-Qc Hp f];exact h Hp u h1 J L F
def awp(P:Program)(C:gW)(PC:FuncId->List AV->aD->AV->Prop)(mt:Nat->Bool):Code->(Ex->Env->aD->Prop)->Env->aD->Prop
 | .skip,Q,ρ,H=>Q .normal ρ H
 | .region _ ops draw,Q,ρ,H=>if draw=true then rQ P C PC mt ops (Q .normal) (LG mt ops.toList) ρ H else qE P C PC mt false ops (Q .normal) ops.toList ρ H
 | .seq a b,Q,ρ,H=>awp P C PC mt a (Ex.seq (awp P C PC mt b Q) Q) ρ H
 | .cond c a b,Q,ρ,H=>match aev ρ c with
   | .v (.bool t)=>(t=true->awp P C PC mt a Q ρ H)/\(t=false->awp P C PC mt b Q ρ H)
   | _=>False
 | .block id c,Q,ρ,H=>awp P C PC mt c (Ex.blk id Q) ρ H
 | .loop c,Q,ρ,H=>Ha (awp P C PC mt c) Q ρ H
 | .scope c,Q,ρ,H=>awp P C PC mt c Q ρ H
 | .label _,Q,ρ,H=>Q .normal ρ H
 | .exit id,Q,ρ,H=>Q (.exit id) ρ H
 | .ret,Q,ρ,H=>Q .ret ρ H
 | _,_,_,_=>False
def wA(x:AV)(A B:Env->aD->Prop)(ρ:Env)(H:aD):Prop:=
 match x with
 | .v (.bool t)=>(t=true->A ρ H)/\(t=false->B ρ H)
 | _=>False
section
variable{P:Program}{C:gW}{PC:FuncId->List AV->aD->AV->Prop}{mt:Nat->Bool}{Q:Ex->Env->aD->Prop}{K:Env->aD->Prop}{ρ:Env}{H:aD}{a b c:Code}{id:Nat}{ops:Array Oper}{draw:Bool}
def Pq:awp P C PC mt .skip Q ρ H=Q .normal ρ H:=(rfl)
def AN:awp P C PC mt (.region id ops false) Q ρ H=qE P C PC mt false ops (Q .normal) ops.toList ρ H:=by simp[awp]
def HD:awp P C PC mt (.region id ops true) Q ρ H=rQ P C PC mt ops (Q .normal) (LG mt ops.toList) ρ H:=by simp[awp]
@[congr] theorem adraw_c {m m':Nat} (h:m=m'):rQ P C PC mt ops K m ρ H=rQ P C PC mt ops K m' ρ H:=h▸rfl
def LW:awp P C PC mt (.seq a b) Q ρ H=awp P C PC mt a (Ex.seq (awp P C PC mt b Q) Q) ρ H:=(rfl)
def HY{x:Operand}:awp P C PC mt (.cond x a b) Q ρ H=wA (aev ρ x) (awp P C PC mt a Q) (awp P C PC mt b Q) ρ H:=(rfl)
def CP:awp P C PC mt (.block id c) Q ρ H=awp P C PC mt c (Ex.blk id Q) ρ H:=(rfl)
def IT:awp P C PC mt (.loop c) Q ρ H=Ha (awp P C PC mt c) Q ρ H:=(rfl)
def DK:awp P C PC mt (.scope c) Q ρ H=awp P C PC mt c Q ρ H:=(rfl)
def NH{l:Nat}:awp P C PC mt (.label l) Q ρ H=Q .normal ρ H:=(rfl)
def PQ:awp P C PC mt (.exit id) Q ρ H=Q (.exit id) ρ H:=(rfl)
def SX:awp P C PC mt .ret Q ρ H=Q .ret ρ H:=(rfl)
def Q1:qE P C PC mt draw ops K [] ρ H=K ρ H:=(rfl)
def N1{o:Oper}{r:List Oper}:qE P C PC mt draw ops K (o::r) ρ H=aop P C PC mt draw ops o ρ H (qE P C PC mt draw ops K r):=(rfl)
def KM:Ex.seq K Q .normal ρ H=K ρ H:=(rfl)
def PO:Ex.seq K Q (.exit id) ρ H=Q (.exit id) ρ H:=(rfl)
def RE:Ex.seq K Q .ret ρ H=Q .ret ρ H:=(rfl)
def Jn:Ex.blk id Q .normal ρ H=Q .normal ρ H:=(rfl)
def MC:Ex.blk id Q .ret ρ H=Q .ret ρ H:=(rfl)
def Gt:Ex.blk id Q (.exit id) ρ H=Q .normal ρ H:=by simp[Ex.blk]
def Ok{i:Nat}(h:(i == id)=false):Ex.blk id Q (.exit i) ρ H=Q (.exit i) ρ H:=by
 have:i≠id:=by simpa using h
 simp[Ex.blk,this]
end
@[congr] theorem wopd_c {G x x' k} (h:x=x'):aX G x k=aX G x' k:=h▸rfl
@[congr] theorem abin_c {P G op t x x' y y' k} (h:x=x') (h':y=y'):eX P G op t x y k=eX P G op t x' y' k:=h▸h'▸rfl
@[congr] theorem apick_c {G c c' x x' y y' k} (h0:c=c') (h:x=x') (h':y=y'):uN G c x y k=uN G c' x' y' k:=h0▸h▸h'▸rfl
@[congr] theorem aload_c {G H l l' x x' k} (h:l=l') (h':x=x'):jS G H l x k=jS G H l' x' k:=h▸h'▸rfl
@[congr] theorem apart_c {G o o' l l' x x' k} (h0:o=o') (h:l=l') (h':x=x'):apart G o l x k=apart G o' l' x' k:=h0▸h▸h'▸rfl
@[congr] theorem alen_c {P H t x x' k} (h':x=x'):Bc P H t x k=Bc P H t x' k:=h'▸rfl
@[congr] theorem aindexAddr_c {P G H t x x' y y' k} (h:x=x') (h':y=y'):dY P G H t x y k=dY P G H t x' y' k:=h▸h'▸rfl
@[congr] theorem aindex_c {P G t x x' y y' k} (h:x=x') (h':y=y'):rG P G t x y k=rG P G t x' y' k:=h▸h'▸rfl
@[congr] theorem afieldAddr_c {P t f x x' k} (h':x=x'):fO P t f x k=fO P t f x' k:=h'▸rfl
@[congr] theorem abuild_c {P t l l' k} (h':l=l'):qM P t l k=qM P t l' k:=h'▸rfl
@[congr] theorem aslice_c {P G t x x' lo lo' hi hi' k} (h:x=x') (h1:lo=lo') (h2:hi=hi'):lK P G t x lo hi k=lK P G t x' lo' hi' k:=h▸h1▸h2▸rfl
@[congr] theorem aun_c {op x x' k} (h':x=x'):aun op x k=aun op x' k:=h'▸rfl
@[congr] theorem aconv_c {P s t x x' k} (h':x=x'):wU P s t x k=wU P s t x' k:=h'▸rfl
@[congr] theorem wcells_c {x x' K} (h:x=x'):gS x K=gS x' K:=h▸rfl
@[congr] theorem acond_c {x x' A B ρ H} (h':x=x'):wA x A B ρ H=wA x' A B ρ H:=h'▸rfl
@[congr] theorem abox_c {mt o t x x' ρ H K} (h:x=x'):Sc mt o t x ρ H K=Sc mt o t x' ρ H K:=h▸rfl
@[congr] theorem abuildSlice_c {P mt G o t n x x' ρ H K} (h:x=x'):jE P mt G o t n x ρ H K=jE P mt G o t n x' ρ H K:=h▸rfl
@[congr] theorem astore_c {P o t a a' x x' ρ H K} (h:a=a') (h':x=x'):tB P o t a x ρ H K=tB P o t a' x' ρ H K:=h▸h'▸rfl
@[congr] theorem aappend_c {P o t a a' x x' ρ H K} (h:a=a') (h':x=x'):tX P o t a x ρ H K=tX P o t a' x' ρ H K:=h▸h'▸rfl
@[congr] theorem asrc_c {H x x' K} (h:x=x'):qD H x K=qD H x' K:=h▸rfl
@[congr] theorem anew_c {H r r' K} (h:r=r'):iJ H r K=iJ H r' K:=h▸rfl
def aA{t:Bool}{A B:Env->aD->Prop}{ρ:Env}{H:aD}(h1:t=true->A ρ H)(u:t=false->B ρ H):wA (.v (.bool t)) A B ρ H:=⟨h1,u⟩
def HZ(args:List AV):Env:=fun t=>args.getD t .any
def aW:AV->Nat
 | .v (.int _ n)=>n.toNat
 | _=>0
def aF{k n}:aW (.v (.int k n))=n.toNat:=(rfl)
section
variable{G:Option Bool}{k:AV->Prop}
def PS{x}:aX G (.v x) k=k (.v x):=(rfl)
def F9:aX G .any k=k .any:=(rfl)
def Mj{x}:aX G (.sl x) k=k (.sl x):=(rfl)
def LI{x o}:aX G (.rp x o) k=k (.rp x o):=(rfl)
def Gf{x}:aX G (.agg x) k=k (.agg x):=(rfl)
def Ie{x}:aX G (.tup x) k=k (.tup x):=(rfl)
def Ml{x}:aX G (.os x) k=k (.os x):=(rfl)
def MB{x i f}:aX G (.op x i f) k=k (.op x i f):=(rfl)
def LR{f l}:aX G (.fn f l) k=k (.fn f l):=(rfl)
def LH{j a b}:aX G (.oz j a b) k=k (.oz j a b):=(rfl)
def MA{es}:aX G (.cl es) k=k (.cl es):=(rfl)
def MK{j}:aX G (.om j) k=k (.om j):=(rfl)
def MG{g x}:aX G (.gd g x) k=(gok G g/\k x):=(rfl)
end
def MJ(K:Env->aD->Prop)(ρ:Env)(d:Option Tmp)(j:Nat)(H:aD):Prop:=K (upd ρ d (.os j)) H
def Mf(K:Env->aD->Prop)(ρ:Env)(d:Option Tmp)(j:Nat)(H:aD):Prop:=K (upd ρ d (.op j 0 0)) H
def Ij(K:Env->aD->Prop)(ρ:Env)(d:Option Tmp)(r:AV)(H:aD):Prop:=K (upd ρ d r) H
def Gv{K ρ d j H}:MJ K ρ d j H=K (upd ρ d (.os j)) H:=(rfl)
def G9{K ρ d j H}:Mf K ρ d j H=K (upd ρ d (.op j 0 0)) H:=(rfl)
def Hi{K ρ d r H}:Ij K ρ d r H=K (upd ρ d r) H:=(rfl)
def LO(G:Option Bool)(c x y:AV)(k:AV->Prop):Prop:=match c with
 | .v (.bool c)=>uN G c x y k
 | _=>False
@[congr] theorem wpick_c {G c c' x y k} (h:c=c'):LO G c x y k=LO G c' x y k:=h▸rfl
def Mm{G c x y k}:LO G (.v (.bool c)) x y k=uN G c x y k:=(rfl)
def M6(G:Option Bool)(x:AV)(k:AV->Prop):Prop:=match x with
 | .rp cs off=>k (.rp cs off)
 | .op j i f=>k (.op j i f)
 | .v (.pointer none)=>(gt G->False)/\∃cs off,k (.rp cs off)
 | _=>False
@[congr] theorem wptr_c {G x x' k} (h:x=x'):M6 G x k=M6 G x' k:=h▸rfl
def MH{G cs o k}:M6 G (.rp cs o) k=k (.rp cs o):=(rfl)
def LL{G j i f k}:M6 G (.op j i f) k=k (.op j i f):=(rfl)
def GG{G k}:M6 G (.v (.pointer none)) k=((gt G->False)/\∃cs off,k (.rp cs off)):=(rfl)
def SK(G:Option Bool)(x:AV)(i:Nat)(k:AV->Prop):Prop:=match x with
 | .tup vs=>(gt G->i<vs.length)/\k (vs.getD i .any)
 | _=>False
@[congr] theorem wtup_c {G x x' i k} (h:x=x'):SK G x i k=SK G x' i k:=h▸rfl
def Mt{G vs i k}:SK G (.tup vs) i k=((gt G->i<vs.length)/\k (vs.getD i .any)):=(rfl)
def Nw(P:Program)(d:Option Tmp)(t:TypeId)(a:AV)(cs:List AV)(ρ:Env)(H:aD)(K:Env->aD->Prop):Prop:=oG P ⟨d,.move (.tmp 0),0,"",#[],none⟩ t a cs ρ H K
@[congr] theorem wput_c {P d t a a' cs cs' ρ H K} (h:a=a') (h':cs=cs'):Nw P d t a cs ρ H K=Nw P d t a' cs' ρ H K:=h▸h'▸rfl
def QO(P:Program)(d:Option Tmp)(t:TypeId)(s x:AV)(ρ:Env)(H:aD)(K:Env->aD->Prop):Prop:=tX P ⟨d,.move (.tmp 0),0,"",#[],none⟩ t s x ρ H K
@[congr] theorem wapp_c {P d t s s' x x' ρ H K} (h:s=s') (h':x=x'):QO P d t s x ρ H K=QO P d t s' x' ρ H K:=h▸h'▸rfl
def GY(P:Program)(d:Option Tmp)(t:TypeId)(l c:AV)(ρ:Env)(H:aD)(K:Env->aD->Prop):Prop:=mK P ⟨d,.move (.tmp 0),0,"",#[],none⟩ t l c ρ H K
@[congr] theorem wmake_c {P d t s s' x x' ρ H K} (h:s=s') (h':x=x'):GY P d t s x ρ H K=GY P d t s' x' ρ H K:=h▸h'▸rfl
def D3(P:Program)(d:Option Tmp)(t:TypeId)(x y:AV)(ρ:Env)(H:aD)(K:Env->aD->Prop):Prop:=LS P ⟨d,.move (.tmp 0),0,"",#[],none⟩ t x y ρ H K
@[congr] theorem wcopy_c {P d t s s' x x' ρ H K} (h:s=s') (h':x=x'):D3 P d t s x ρ H K=D3 P d t s' x' ρ H K:=h▸h'▸rfl
def Ts{P:Program}{d:Option Tmp}{t:TypeId}{x y:AV}{ρ:Env}{H:aD}{K:Env->aD->Prop}{e:TypeId}{sz u j a n:Nat}{r:Row}{news:List (List AV)}(Z:bM P t=some (e,sz,u))(E:H j=some r)
  (M:(x=.os j/\a=0/\n=r.es.length)\/∃b,x=.oz j a b/\n=b-a) (hy:y=.sl news\/(∃i r',y=.os i/\H i=some r'/\r'.es=news)\/∃i r' p q,y=.oz i p q/\H i=some r'/\(r'.es.take q).drop p=news)
  (h1:r.sz=sz) (O:cT sz news) (h:K (upd ρ d (.v (.int .i64 (min news.length n:Nat)))) (aE H j (some { r with es:=r.es.take a++news.take (min news.length n)++r.es.drop (a+min news.length n) }))):D3 P d t x y ρ H K:=by
 unfold D3 LS;have L:∀F:List (List AV)->Prop,F news->qD H y F:=by
  intro F hF;rcases hy with rfl|⟨i,r',rfl,hi,rfl⟩|⟨i,r',p,q,rfl,hi,rfl⟩
  ·exact hF
  ·simp only[qD,hi];exact hF
  ·simp only[qD,hi];exact hF
 have J:∀F:Nat->Nat->Nat->Row->Prop,F j a n r->JA H x F:=by
  intro F hF;rcases M with⟨rfl,rfl,rfl⟩|⟨b,rfl,rfl⟩
  ·simp only[JA,E];exact hF
  ·simp only[JA,E];exact hF
 refine J _ (L _ ?_);simp only[Z];exact⟨⟨h1,O⟩,h⟩
def Jl(P:Program)(d:Option Tmp)(t:TypeId)(x:AV)(ρ:Env)(H:aD)(K:Env->aD->Prop):Prop:=KH P ⟨d,.move (.tmp 0),0,"",#[],none⟩ t x ρ H K
@[congr] theorem wclear_c {P d t s s' ρ H K} (h:s=s'):Jl P d t s ρ H K=Jl P d t s' ρ H K:=h▸rfl
def aL{H:aD}{r:Row}{F:Nat->aD->Prop}(h:∀j,H j=none->F j (aE H j (some r))):iJ H r F:=h
def bD{α:Type}(o:Option α)(f:α->Prop):Prop:=match o with|some x=>f x|none=>False
def B5{α:Type}{x:α}{f:α->Prop}:bD (some x) f=f x:=(rfl)
@[congr] theorem withO_c {α:Type} {o o':Option α} {f:α->Prop} (h:o=o'):bD o f=bD o' f:=h▸rfl
section
variable{P:Program}{C:gW}{PC:FuncId->List AV->aD->AV->Prop}{mt:Nat->Bool}{q:Bool}{ops:Array Oper}{d:Option Tmp}{ty:TypeId}{pos:String}{aft:Array Edge}{ρ:Env}{H:aD}{K:Env->aD->Prop}{G:Option Bool}{k:AV->Prop}
def Mc{t}:aev ρ (.tmp t)=ρ t:=(rfl)
def DW{v}:aev ρ (.const v)=lA v:=(rfl)
def Hw{f}:aev ρ (.func f)=.v (.func (.func f) #[] #[]):=(rfl)
def Il{t n a b}:eX P G .add t (.v (.int n a)) (.v (.int n b)) k=k (.v (.int n (n.wrap (a+b)))):=by simp[eX,rE]
def IQ{t n a b}:eX P G .sub t (.v (.int n a)) (.v (.int n b)) k=k (.v (.int n (n.wrap (a-b)))):=by simp[eX,rE]
def IB{t n a b}:eX P G .mul t (.v (.int n a)) (.v (.int n b)) k=k (.v (.int n (n.wrap (a*b)))):=by simp[eX,rE]
def IE{t n a b}:eX P G .quo t (.v (.int n a)) (.v (.int n b)) k=((gt G->b≠0)/\k (.v (.int n (n.wrap (a.tdiv b))))):=by simp[eX,rE]
def Ih{t n a b}:eX P G .rem t (.v (.int n a)) (.v (.int n b)) k=((gt G->b≠0)/\k (.v (.int n (a.tmod b)))):=by simp[eX,rE]
def Gp{t n a b}:eX P G .eql t (.v (.int n a)) (.v (.int n b)) k=k (.v (.bool (a == b))):=by simp[eX,rE]
def Iz{t n a b}:eX P G .neq t (.v (.int n a)) (.v (.int n b)) k=k (.v (.bool (a != b))):=by simp[eX,rE]
def GJ{t n a b}:eX P G .lss t (.v (.int n a)) (.v (.int n b)) k=k (.v (.bool (decide (a<b)))):=by simp[eX,rE]
def GZ{t n a b}:eX P G .leq t (.v (.int n a)) (.v (.int n b)) k=k (.v (.bool (decide (a<=b)))):=by simp[eX,rE]
def Gr{t n a b}:eX P G .gtr t (.v (.int n a)) (.v (.int n b)) k=k (.v (.bool (decide (a>b)))):=by simp[eX,rE]
def IG{t n a b}:eX P G .geq t (.v (.int n a)) (.v (.int n b)) k=k (.v (.bool (decide (a>=b)))):=by simp[eX,rE]
def GM{t n m a b}:eX P G .shl t (.v (.int n a)) (.v (.int m b)) k=((gt G->0<=b)/\k (.v (.int n (shV .shl n a b)))):=by simp[eX,rE]
def Jf{t n m a b}:eX P G .shr t (.v (.int n a)) (.v (.int m b)) k=((gt G->0<=b)/\k (.v (.int n (shV .shr n a b)))):=by simp[eX,rE]
def Ic{t n a b}:eX P G .and t (.v (.int n a)) (.v (.int n b)) k=k (.v (.int n (nK .and n a b))):=by simp[eX,rE]
def Mw{t n a b}:eX P G .or t (.v (.int n a)) (.v (.int n b)) k=k (.v (.int n (nK .or n a b))):=by simp[eX,rE]
def I5{t n a b}:eX P G .xor t (.v (.int n a)) (.v (.int n b)) k=k (.v (.int n (nK .xor n a b))):=by simp[eX,rE]
def zS{t n a b}:eX P G .andNot t (.v (.int n a)) (.v (.int n b)) k=k (.v (.int n (nK .andNot n a b))):=by simp[eX,rE]
def Ef{op t x}:eX P G op t .any (.v x) k=((gt G->False)/\k .any):=by cases x with
 | pointer a=>cases a <;> rfl
 | _=>rfl
def DF{x}:rS false .any (.v x)=.v x:=by cases x <;> rfl
def C7{t a b}:eX P G .add t (.v (.string a)) (.v (.string b)) k=((gt G->((a.size+b.size:Nat):Int)<=IntKind.i64.max)/\k (.v (.string (a++b)))):=(rfl)
def De{t a b}:eX P G .eql t (.v (.string a)) (.v (.string b)) k=k (.v (.bool (a.toList == b.toList))):=(rfl)
def DS{t a b}:eX P G .neq t (.v (.string a)) (.v (.string b)) k=k (.v (.bool !(a.toList == b.toList))):=(rfl)
def C4{t a b}:eX P G .eql t (.v (.bool a)) (.v (.bool b)) k=if tO P t then k (.v (.bool (a == b)))else False:=(rfl)
def Dl{t a b}:eX P G .neq t (.v (.bool a)) (.v (.bool b)) k=if tO P t then k (.v (.bool !(a == b)))else False:=(rfl)
def I4{c x y}:uN G c (.v x) (.v y) k=k (rS c (.v x) (.v y)):=(rfl)
def Gk{c x g y}:uN G c (.v x) (.gd g y) k=((gt G->c=false->g=true)/\k (rS c (.v x) y)):=(rfl)
def Hq{c g x y}:uN G c (.gd g x) (.v y) k=((gt G->c=true->g=true)/\k (rS c x (.v y))):=(rfl)
def Lw{c b}:rS c (.v (.bool true)) (.v (.bool b))=.v (.bool (c||b)):=(rfl)
def Mq{c a}:rS c (.v (.bool a)) (.v (.bool false))=.v (.bool (c&&a)):=by cases a <;> cases c <;> rfl
def DI{cs o}:jS G H none (.rp cs o) k=((gt G->o<cs.length)/\k (cs.getD o .any)):=(rfl)
def CQ{cs o n}:jS G H (some n) (.rp cs o) k=((gt G->o+n<=cs.length)/\k (.agg ((cs.drop o).take n))):=(rfl)
def DN{j i f}:jS G H none (.op j i f) k=bD (H j) fun r=>(gt G->i<r.es.length/\f<r.sz)/\k ((r.es.getD i []).getD f .any):=by cases h1:H j <;> simp[jS,bD,h1]
def C1{j i f n}:jS G H (some n) (.op j i f) k=bD (H j) fun r=>(gt G->i<r.es.length/\f+n<=r.sz)/\k (.agg (((r.es.getD i []).drop f).take n)):=by cases h1:H j <;> simp[jS,bD,h1]
def L8{o cs}:apart G o none (.agg cs) k=((gt G->o<cs.length)/\k (cs.getD o .any)):=(rfl)
def LQ{o n cs}:apart G o (some n) (.agg cs) k=((gt G->o+n<=cs.length)/\k (.agg ((cs.drop o).take n))):=(rfl)
def LF{t es}:Bc P H t (.sl es) k=if cL P t then k (.v (.int .i64 es.length))else False:=(rfl)
def LY{t j}:Bc P H t (.os j) k=bD (H j) fun r=>if cL P t then k (.v (.int .i64 r.es.length))else False:=by cases h1:H j <;> simp[Bc,bD,h1]
def Mg{t j a b}:Bc P H t (.oz j a b) k=if cL P t then k (.v (.int .i64 (b-a:Nat)))else False:=(rfl)
def LU{t s}:Bc P H t (.v (.string s)) k=if dI P t then k (.v (.int .i64 s.size))else False:=(rfl)
def uJ{t es n i}:dY P G H t (.sl es) (.v (.int n i)) k=bD (bM P t) fun e=>(gt G->(0<=i/\i<es.length)/\(es.getD i.toNat []).length=e.2.1)/\k (.rp (es.getD i.toNat []) 0):=by cases h1:bM P t <;> simp[dY,bD,h1]
def uE{t j n i}:dY P G H t (.os j) (.v (.int n i)) k=bD (H j) fun r=>bD (bM P t) fun e=>(gt G->(0<=i/\i<r.es.length)/\r.sz=e.2.1)/\k (.op j i.toNat 0):=by cases h1:H j <;> cases u:bM P t <;> simp[dY,bD,h1,u]
def uF{t j a b n i}:dY P G H t (.oz j a b) (.v (.int n i)) k=bD (H j) fun r=>bD (bM P t) fun e=>(gt G->(0<=i/\i<(b-a:Nat))/\r.sz=e.2.1)/\k (.op j (a+i.toNat) 0):=by cases h1:H j <;> cases u:bM P t <;> simp[dY,bD,h1,u]
def uG{t j a o n i}:dY P G H t (.op j a o) (.v (.int n i)) k=bD (Ao P t) fun e=>(gt G->0<=i/\i<e.1)/\k (.op j a (o+i.toNat*e.2.1)):=by cases h1:Ao P t <;> simp[dY,bD,h1]
def uH{t f cs o}:fO P t f (.rp cs o) k=bD (aM P t f) fun e=>k (.rp cs (o+e.1)):=by cases h1:aM P t f <;> simp[fO,bD,h1]
def uK{t f j i o}:fO P t f (.op j i o) k=bD (aM P t f) fun e=>k (.op j i (o+e.1)):=by cases h1:aM P t f <;> simp[fO,bD,h1]
def LK{b}:aun .not (.v (.bool b)) k=k (.v (.bool !b)):=(rfl)
def Mp{n i}:aun .neg (.v (.int n i)) k=k (.v (.int n (n.wrap (0-i)))):=(rfl)
def DY{s t n i}:wU P s t (.v (.int n i)) k=bD (zX P t) fun m=>bD (zX P s) fun _=>k (.v (.int m (m.wrap i))):=by cases h1:zX P t <;> cases u:zX P s <;> simp[wU,bD,h1,u]
def CW{s t x}:wU P s t (.v (.string x)) k=if dI P s/\dI P t then k (.v (.string x))else False:=(rfl)
def I1{t es m b}:lK P G t (.sl es) none (some (.v (.int m b))) k=bD (bM P t) fun _=>(gt G->0<=b/\b<=es.length)/\k (.sl (es.take b.toNat)):=by cases h1:bM P t <;> simp[lK,bD,h1]
def BN{t s n a m b}:lK P G t (.v (.string s)) (some (.v (.int n a))) (some (.v (.int m b))) k=if dI P t then(gt G->0<=a/\a<=b/\b<=s.size)/\k (.v (.string (s.extract a.toNat b.toNat)))else False:=(rfl)
def C6{t s n a}:lK P G t (.v (.string s)) (some (.v (.int n a))) none k=if dI P t then(gt G->0<=a/\a<=s.size)/\k (.v (.string (s.extract a.toNat s.size)))else False:=(rfl)
def Dk{t s m b}:lK P G t (.v (.string s)) none (some (.v (.int m b))) k=if dI P t then(gt G->0<=b/\b<=s.size)/\k (.v (.string (s.extract 0 b.toNat)))else False:=(rfl)
def Em{P:Program}{H:aD}{t j n m l}{a b c:Int}:sT P G H t (.os j) (.v (.int n a)) (.v (.int m b)) (.v (.int l c)) k=bD (H j) fun r=>bD (bM P t) fun e=>(gt G->(a=0/\0<=b/\b<=c/\c<=r.es.length)/\r.sz=e.2.1)/\k (.oz j 0 b.toNat):=by cases h1:H j <;> cases u:bM P t <;> simp[sT,bD,h1,u]
@[congr] theorem aclip3_c {P:Program} {H:aD} {t x x' a a' b b' m m'} (h:x=x') (h1:a=a') (h2:b=b') (h3:m=m'):sT P G H t x a b m k=sT P G H t x' a' b' m' k:=h▸h1▸h2▸h3▸rfl
@[congr] theorem aclip_c {P:Program} {t x x' a a' b b'} (h:x=x') (h1:a=a') (h2:b=b'):Du P G t x a b k=Du P G t x' a' b' k:=h▸h1▸h2▸rfl
def Dn{t s n i}:rG P G t (.v (.string s)) (.v (.int n i)) k=if dI P t then(gt G->0<=i/\i<s.size)/\k (.v (.int .u8 ((s.data.getD i.toNat 0).toNat:Int)))else False:=(rfl)
def Da{t cs n i}:rG P G t (.agg cs) (.v (.int n i)) k=bD (Ao P t) fun e=>(gt G->0<=i/\i<e.1)/\apart G (i.toNat*e.2.1) e.2.2 (.agg cs) k:=by cases h1:Ao P t <;> simp[rG,bD,h1]
def BI{cs}{k:List AV->Prop}:gS (.agg cs) k=k cs:=(rfl)
def Gi{v}{k:List AV->Prop}:gS (.v v) k=(v.oneCell'=true/\k [.v v]):=(rfl)
def Dt{es}{k:List AV->Prop}:gS (.sl es) k=k [.sl es]:=(rfl)
def C8{cs o}{k:List AV->Prop}:gS (.rp cs o) k=k [.rp cs o]:=(rfl)
def Dv{j}{k:List AV->Prop}:gS (.os j) k=k [.os j]:=(rfl)
def Dz{j i f}{k:List AV->Prop}:gS (.op j i f) k=k [.op j i f]:=(rfl)
def Dx{j a b}{k:List AV->Prop}:gS (.oz j a b) k=k [.oz j a b]:=(rfl)
def CR{j}{k:List AV->Prop}:gS (.om j) k=k [.om j]:=(rfl)
def Dy{t l}:qM P t l k=bD (cN P t) fun z=>bD (dF P t) fun u=>bD (lP u z l) fun cs=>k (.agg cs):=by
 cases h1:cN P t with
 | none=>simp[qM,bD,h1]
 | some z=>cases E:dF P t with
  | none=>simp[qM,bD,h1,E]
  | some u=>cases F:lP u z l <;> simp[qM,bD,h1,E,F]
def wgd(x:AV)(w:Bool)(F:Option Bool->Prop):Prop:=match x with
 | .v (.bool b)=>F (some (b == w))
 | .gd g (.v (.bool b))=>F (some (g&&(b == w)))
 | _=>False
@[congr] theorem wgd_c {x x' w F} (h:x=x'):wgd x w F=wgd x' w F:=h▸rfl
def TP{b w F}:wgd (.v (.bool b)) w F=F (some (b == w)):=(rfl)
def TS{g b w F}:wgd (.gd g (.v (.bool b))) w F=F (some (g&&(b == w))):=(rfl)
def zJ{F}:bN ops ρ none F=F none:=(rfl)
def zO{j w F}:bN ops ρ (some (j,w)) F=bD ((ops[j]?).bind (·.dst)) fun t=>wgd (ρ t) w F:=by
 cases h1:(ops[j]?).bind (·.dst)with
 | none=>simp[bN,bD,h1]
 | some t=>simp only[bN,bD,h1,wgd]
def iE(K:Env->aD->Prop)(ρ:Env)(d:Option Tmp)(G:Option Bool)(H:aD)(x:AV):Prop:=K (upd ρ d (wr G x)) H
def Ea{x}:iE K ρ d none H x=K (upd ρ d x) H:=(rfl)
def CO{b x}:iE K ρ d (some b) H x=K (upd ρ d (.gd b x)) H:=(rfl)
end
section
variable{P:Program}{C:gW}{PC:FuncId->List AV->aD->AV->Prop}{mt:Nat->Bool}{q:Bool}{ops:Array Oper}{d:Option Tmp}{ty:TypeId}{pos:String}{aft:Array Edge}{gd:Option (Nat×Bool)}{ρ:Env}{H:aD}{K:Env->aD->Prop}
def Qj{x}:aop P C PC mt q ops ⟨d,.move x,ty,pos,aft,gd⟩ ρ H K=bN ops ρ gd fun G=>if lU mt d=true then G=none/\q=false/\tV x ρ d H K else aX G (aev ρ x) (iE K ρ d G H):=(rfl)
def QI{c a b}:aop P C PC mt q ops ⟨d,.pick c a b,ty,pos,aft,gd⟩ ρ H K=bN ops ρ gd fun G=>aX G (aev ρ c) fun x=>LO G x (aev ρ a) (aev ρ b) (iE K ρ d G H):=(rfl)
def NZ{t l}: aop P C PC mt q ops ⟨d, .build t l, ty, pos, aft, gd⟩ ρ H K = bN ops ρ gd fun G => if lU mt d = true then G = none /\ (if q = true then kJ none ρ l.toList (fun l => bD (cN P t) fun z => bD (dF P t) fun u => bD (jX P t) fun nl => bD (lP u (Eg nl z) l) fun cs => iE K ρ d none H (.agg cs)) else
   kJ none ρ l.toList (fun l=>bD (cN P t) fun z=>bD (dF P t) fun u=>bD (jX P t) fun nl=>gK nl z H fun z H=>bD (lP u z l) fun cs=>iE K ρ d none H (.agg cs)))
  else kJ G ρ l.toList fun l=>qM P t l (iE K ρ d G H):=by
 show bN ops ρ gd (fun G=>if lU mt d=true then G=none/\(if q=true then uB P ⟨d,.build t l,ty,pos,aft,gd⟩ t l.toList ρ H K else vP P ⟨d,.build t l,ty,pos,aft,gd⟩ t l.toList ρ H K)else _)=_
 congr 1;funext G;congr 3
 ·unfold uB
  congr 1;funext l
  cases h1:cN P t with
  | none=>simp[bD]
  | some z=>cases J:dF P t with
   | none=>simp[bD]
   | some u=>cases F:jX P t with
    | none=>simp[bD]
    | some nl=>simp only[bD];cases E:lP u (Eg nl z) l <;> rfl
 unfold vP
 congr 1;funext l
 cases h1:cN P t with
 | none=>simp[bD]
 | some z=>cases J:dF P t with
  | none=>simp[bD]
  | some u=>cases F:jX P t with
   | none=>simp[bD]
   | some nl=>simp only[bD];congr 1;funext z H;cases E:lP u z l <;> rfl
def Qs{t x}:aop P C PC mt q ops ⟨d,.load t x,ty,pos,aft,gd⟩ ρ H K=bN ops ρ gd fun G=>if lU mt d=true then G=none/\q=false/\bD (ldT P t) fun l=>aX none (aev ρ x) fun y=>jS none H l y fun z=>Dj z ρ d H K else bD (ldT P t) fun l=>aX G (aev ρ x) fun y=>jS G H l y (iE K ρ d G H):=by
 show bN ops ρ gd (fun G=>if lU mt d=true then G=none/\q=false/\eR P none ρ H (.load t x) fun z=>Dj z ρ d H K else eR P G ρ H (.load t x) (iE K ρ d G H))=_
 congr 1;funext G;cases h1:ldT P t <;> simp[eR,bD,h1]
def Fa{x}:aop P C PC mt q ops ⟨d,.nilCheck x,ty,pos,aft,gd⟩ ρ H K=bN ops ρ gd fun G=>aX G (aev ρ x) fun y=>M6 G y (iE K ρ d G H):=(rfl)
def Sd{op t x y t'}:aop P C PC mt q ops ⟨d,.binOp op t x y t',ty,pos,aft,gd⟩ ρ H K=bN ops ρ gd fun G=>if mN y=true then aX G (aev ρ x) fun x=>cL P t=true/\lG H op x (iE K ρ d G H)else if Lt y=true then aX G (aev ρ x) fun x=>vA P t op x (iE K ρ d G H)else aX G (aev ρ x) fun x=>aX G (aev ρ y) fun y=>eX P G op t x y (iE K ρ d G H):=(rfl)
def T9{op t x}:aop P C PC mt q ops ⟨d,.unOp op t x,ty,pos,aft,gd⟩ ρ H K=bN ops ρ gd fun G=>aX G (aev ρ x) fun x=>aun op x (iE K ρ d G H):=(rfl)
def Qg{s t x}:aop P C PC mt q ops ⟨d,.convert s t x,ty,pos,aft,gd⟩ ρ H K=bN ops ρ gd fun G=>aX G (aev ρ x) fun x=>wU P s t x (iE K ρ d G H):=(rfl)
def Fe{t x lo hi}:aop P C PC mt q ops ⟨d,.slice t x (some lo) (some hi) none,ty,pos,aft,gd⟩ ρ H K=bN ops ρ gd fun G=>aX G (aev ρ x) fun x=>aX G (aev ρ lo) fun lo=>aX G (aev ρ hi) fun hi=>asl P G H t x (some lo) (some hi) (iE K ρ d G H):=(rfl)
def IH{t x hi m}:aop P C PC mt q ops ⟨d,.slice t x none (some hi) (some m),ty,pos,aft,gd⟩ ρ H K=bN ops ρ gd fun G=>aX G (aev ρ x) fun x=>aX G (aev ρ hi) fun hi=>aX G (aev ρ m) fun m=>Du P G t x hi m (iE K ρ d G H):=(rfl)
def FJ{t x lo hi m}:aop P C PC mt q ops ⟨d,.slice t x (some lo) (some hi) (some m),ty,pos,aft,gd⟩ ρ H K=bN ops ρ gd fun G=>aX G (aev ρ x) fun x=>aX G (aev ρ lo) fun lo=>aX G (aev ρ hi) fun hi=>aX G (aev ρ m) fun m=>sT P G H t x lo hi m (iE K ρ d G H):=(rfl)
def G0{t x lo}:aop P C PC mt q ops ⟨d,.slice t x (some lo) none none,ty,pos,aft,gd⟩ ρ H K=bN ops ρ gd fun G=>aX G (aev ρ x) fun x=>aX G (aev ρ lo) fun lo=>asl P G H t x (some lo) none (iE K ρ d G H):=(rfl)
def GN{t x hi}:aop P C PC mt q ops ⟨d,.slice t x none (some hi) none,ty,pos,aft,gd⟩ ρ H K=bN ops ρ gd fun G=>aX G (aev ρ x) fun x=>aX G (aev ρ hi) fun hi=>asl P G H t x none (some hi) (iE K ρ d G H):=(rfl)
def CH{t x f}:aop P C PC mt q ops ⟨d,.fieldAddr t x f,ty,pos,aft,gd⟩ ρ H K=bN ops ρ gd fun G=>aX G (aev ρ x) fun x=>fO P t f x (iE K ρ d G H):=(rfl)
def CB{t x i}:aop P C PC mt q ops ⟨d,.indexAddr t x i,ty,pos,aft,gd⟩ ρ H K=bN ops ρ gd fun G=>aX G (aev ρ x) fun x=>aX G (aev ρ i) fun i=>dY P G H t x i (iE K ρ d G H):=(rfl)
def NI{t x i}:aop P C PC mt q ops ⟨d,.index t x i,ty,pos,aft,gd⟩ ρ H K=bN ops ρ gd fun G=>aX G (aev ρ x) fun x=>aX G (aev ρ i) fun i=>rG P G t x i (iE K ρ d G H):=(rfl)
def Ji{x i}:aop P C PC mt q ops ⟨d,.extract x i,ty,pos,aft,gd⟩ ρ H K=bN ops ρ gd fun G=>aX G (aev ρ x) fun x=>SK G x i (iE K ρ d G H):=(rfl)
def Jm{x}:aop P C PC mt q ops ⟨d,.assign x,ty,pos,aft,gd⟩ ρ H K=bN ops ρ gd fun G=>if lU mt d=true/\G=none/\q=false/\mN x=true then bD (bM P ty) fun e=>iJ H ⟨e.1,e.2.1,[]⟩ (MJ K ρ d)else aX G (aev ρ x) (iE K ρ d G H):=by
 show bN ops ρ gd (fun G=>vX P mt q G ⟨d,.assign x,ty,pos,aft,gd⟩ x ρ H K)=_
 congr 1;funext G
 unfold vX;cases h1:bM P ty <;> rfl
def MU{t}:aop P C PC mt q ops ⟨d,.alloc t,ty,pos,aft,gd⟩ ρ H K=bN ops ρ gd fun G=>bD (cN P t) fun z=>G=none/\q=false/\(if lU mt d=true then bD (jX P t) fun nl=>gK nl z H fun z H=>iJ H ⟨t,z.length,[z]⟩ (Mf K ρ d)else iJ H ⟨t,z.length,[z]⟩ (Mf K ρ d)):=by
 show bN ops ρ gd (fun G=>match cN P t with
   | some z => G = none /\ q = false /\ (if lU mt d = true then match jX P t with
       | some nl=>gK nl z H fun z H=>iJ H ⟨t,z.length,[z]⟩ fun k H'=>K (upd ρ d (.op k 0 0)) H'
       | none=>False
     else iJ H ⟨t,z.length,[z]⟩ fun k H'=>K (upd ρ d (.op k 0 0)) H')
   | none=>False)=_
 congr 1;funext G;cases h1:cN P t <;> cases u:jX P t <;> rfl
def To{t x}:aop P C PC mt q ops ⟨d,.box t x,ty,pos,aft,gd⟩ ρ H K=bN ops ρ gd fun G=>G=none/\q=false/\aX G (aev ρ x) fun x=>gS x fun cs=>if lU mt d=true then 0<cs.length/\iJ H ⟨t,cs.length,[cs]⟩ (Mf K ρ d)else K (upd ρ d (.rp cs 0)) H:=(rfl)
def By{t n l}:aop P C PC mt q ops ⟨d,.buildSlice t n l,ty,pos,aft,gd⟩ ρ H K=bN ops ρ gd fun G=>q=false/\kJ G ρ l.toList fun l=>bD (bM P t) fun e=>(l.map (·.1)=FI 0 n/\cT e.2.1 (l.map (·.2))/\n*e.2.1<=16777216)/\(if lU mt d=true/\G=none then iJ H ⟨e.1,e.2.1,l.map (·.2)⟩ (MJ K ρ d)else iE K ρ d G H (.sl (l.map (·.2)))):=by
 show bN ops ρ gd (fun G=>q=false/\kJ G ρ l.toList fun l'=>jE P mt G ⟨d,.buildSlice t n l,ty,pos,aft,gd⟩ t n l' ρ H K)=_
 congr 1;funext G;congr 2;funext l;unfold jE;cases h1:bM P t <;> rfl
def Nc{t x y}:aop P C PC mt q ops ⟨d,.store t x y,ty,pos,aft,gd⟩ ρ H K=bN ops ρ gd fun G=>G=none/\q=false/\(if mN y=true then aX G (aev ρ x) fun x=>bD (bM P t) fun e=>iJ H ⟨e.1,e.2.1,[]⟩ (fun j H=>Nw P d t x [.os j] ρ H K)else aX G (aev ρ x) fun x=>aX G (aev ρ y) fun y=>gS y fun cs=>Nw P d t x cs ρ H K):=by
 show bN ops ρ gd (fun G => G = none /\ q = false /\ (if mN y = true then aX G (aev ρ x) fun a => match bM P t with
       | some (e,sz,_)=>iJ H ⟨e,sz,[]⟩ fun k H=>oG P _ t a [.os k] ρ H K
       | none=>False
     else aX G (aev ρ x) fun a=>aX G (aev ρ y) fun x=>gS x fun cs=>oG P _ t a cs ρ H K))=_
 congr 1;funext G;congr 4;funext a
 cases h1:bM P t <;> rfl
def O2:sL P C PC mt ops K [] ρ H=K ρ H:=(rfl)
def Ug{k f}:sL P C PC mt ops K ((k,true)::f) ρ H=bD ops[k]? fun o=>aop P C PC mt true ops o ρ (qH o H) fun u _=>sL P C PC mt ops K f u H:=by cases h:ops[k]? <;> simp[sL,bD,h]
def Ut{k f}:sL P C PC mt ops K ((k,false)::f) ρ H=bD ops[k]? fun o=>aop P C PC mt false ops o ρ H (sL P C PC mt ops K f):=by cases h:ops[k]? <;> simp[sL,bD,h]
def NO{Hp}:pH P C PC mt ops K Hp [] ρ H=K ρ H:=(rfl)
def Tu{Hp k f}:pH P C PC mt ops K Hp ((k,true)::f) ρ H=bD ops[k]? fun o=>aop P C PC mt true ops o ρ Hp fun u _=>pH P C PC mt ops K Hp f u H:=by cases h:ops[k]? <;> simp[pH,bD,h]
def SJ{Hp k f}:pH P C PC mt ops K Hp ((k,false)::f) ρ H=bD ops[k]? fun o=>aop P C PC mt false ops o ρ H (pH P C PC mt ops K Hp f):=by cases h:ops[k]? <;> simp[pH,bD,h]
def UT{k}:pV P C PC mt q ops k ρ H K=bD ops[k]? fun o=>aop P C PC mt q ops o ρ H K:=by cases h:ops[k]? <;> simp[pV,bD,h]
def NQ{Hp}:fR P C PC mt ops K Hp .nil ρ H=K ρ H:=(rfl)
def SO{Hp k t}:fR P C PC mt ops K Hp (.q k t) ρ H=pV P C PC mt true ops k ρ Hp fun u _=>fR P C PC mt ops K Hp t u H:=(rfl)
def SD{Hp k t}:fR P C PC mt ops K Hp (.a1 k t) ρ H=pV P C PC mt false ops k ρ H (fR P C PC mt ops K Hp t):=(rfl)
def fY{Hp k t k' t'}(h:pV P C PC mt false ops k ρ H (fR P C PC mt ops K Hp t))(u:pV P C PC mt false ops k' ρ H (fR P C PC mt ops K Hp t')):fR P C PC mt ops K Hp (.a2 k t k' t') ρ H:=⟨h,u⟩
def IJ{Hp k t k' t' k'' t''}(h:pV P C PC mt false ops k ρ H (fR P C PC mt ops K Hp t))(E:pV P C PC mt false ops k' ρ H (fR P C PC mt ops K Hp t'))(u:pV P C PC mt false ops k'' ρ H (fR P C PC mt ops K Hp t'')):fR P C PC mt ops K Hp (.a3 k t k' t' k'' t'') ρ H:=⟨h,E,u⟩
def Eu{f cap}:aop P C PC mt q ops ⟨d,.makeFunc (.func f) #[] cap,ty,pos,aft,gd⟩ ρ H K=bN ops ρ gd fun G=>uL G ρ cap.toList fun l=>iE K ρ d G H (.fn f l):=by
 show bN ops ρ gd (fun G=>eR P G ρ H (.makeFunc (.func f) #[] cap) (iE K ρ d G H))=_
 congr 1;funext G;simp[eR]
def TH(K:Env->aD->Prop)(ρ:Env)(d:Option Tmp)(j:Nat)(H:aD):Prop:=K (upd ρ d (.om j)) H
def IK{j}:TH K ρ d j H=K (upd ρ d (.om j)) H:=(rfl)
def KW{t x i ok}:aop P C PC mt q ops ⟨d,.lookup t x i ok,ty,pos,aft,gd⟩ ρ H K=bN ops ρ gd fun G=>aX G (aev ρ x) fun x=>aX G (aev ρ i) fun i=>nX P H t x i ok (iE K ρ d G H):=(rfl)
def Hg{t}:aop P C PC mt q ops ⟨d,.makeMap t none,ty,pos,aft,gd⟩ ρ H K=bN ops ρ gd fun G=>G=none/\q=false/\iJ H ⟨0,2,[]⟩ (TH K ρ d):=(rfl)
def DE(P:Program)(d:Option Tmp)(t:TypeId)(m x v:AV)(ρ:Env)(H:aD)(K:Env->aD->Prop):Prop:=iA P ⟨d,.move (.tmp 0),0,"",#[],none⟩ t m x v ρ H K
@[congr] theorem wmapU_c {P d t m m' x x' v v' ρ H K} (h0:m=m') (h1:x=x') (h2:v=v'):DE P d t m x v ρ H K=DE P d t m' x' v' ρ H K:=h0▸h1▸h2▸rfl
def P8(P:Program)(d:Option Tmp)(t:TypeId)(m x:AV)(ρ:Env)(H:aD)(K:Env->aD->Prop):Prop:=tU P ⟨d,.move (.tmp 0),0,"",#[],none⟩ t m x ρ H K
@[congr] theorem wmapE_c {P d t m m' x x' ρ H K} (h0:m=m') (h1:x=x'):P8 P d t m x ρ H K=P8 P d t m' x' ρ H K:=h0▸h1▸rfl
def Pb(d:Option Tmp)(m s v:AV)(ρ:Env)(H:aD)(K:Env->aD->Prop):Prop:=nZ ⟨d,.move (.tmp 0),0,"",#[],none⟩ m s v ρ H K
@[congr] theorem wmapS_c {d m m' x x' v v' ρ H K} (h0:m=m') (h1:x=x') (h2:v=v'):Pb d m x v ρ H K=Pb d m' x' v' ρ H K:=h0▸h1▸h2▸rfl
@[congr] theorem alookup_c {P H t x x' i i' ok k} (h0:x=x') (h1:i=i'):nX P H t x i ok k=nX P H t x' i' ok k:=h0▸h1▸rfl
def Ck{t m x v}:aop P C PC mt q ops ⟨d,.mapUpdate t m x v,ty,pos,aft,gd⟩ ρ H K=bN ops ρ gd fun G=>G=none/\q=false/\aX G (aev ρ m) fun m=>aX G (aev ρ x) fun x=>aX G (aev ρ v) fun v=>DE P d t m x v ρ H K:=(rfl)
def Jj{t m x v}:aop P C PC mt q ops ⟨d,.insert t m x v,ty,pos,aft,gd⟩ ρ H K=bN ops ρ gd fun G=>G=none/\q=false/\aX G (aev ρ m) fun m=>aX G (aev ρ x) fun x=>aX G (aev ρ v) fun v=>DE P d t m x v ρ H K:=(rfl)
def Ew{t m x}:aop P C PC mt q ops ⟨d,.mapEntry t m x,ty,pos,aft,gd⟩ ρ H K=bN ops ρ gd fun G=>G=none/\q=false/\aX G (aev ρ m) fun m=>aX G (aev ρ x) fun x=>P8 P d t m x ρ H K:=(rfl)
def Bl{t m s v}:aop P C PC mt q ops ⟨d,.entryStore t m s v,ty,pos,aft,gd⟩ ρ H K=bN ops ρ gd fun G=>G=none/\q=false/\aX G (aev ρ m) fun m=>aX G (aev ρ s) fun s=>aX G (aev ρ v) fun v=>Pb d m s v ρ H K:=(rfl)
def xR{t j key ok k r kt oi z}(F:H j=some r)(u:J2 P t=some kt)(E:lC P kt.1 key=true)(J:tM (rU P kt.1 key) r.es 0=some oi)(L:DH P kt.2=some z)(h:k (E4 ok z r.es oi)):nX P H t (.om j) key ok k:=by unfold nX yU;simp only[F,u,J,L];exact⟨E,h⟩
def Fc{t j key v r kt oi}(F:H j=some r)(u:J2 P t=some kt)(E:lC P kt.1 key=true)(J:tM (rU P kt.1 key) r.es 0=some oi)(h:K (upd ρ d .any) (aE H j (some { r with es:=RB r.es oi key v }))):DE P d t (.om j) key v ρ H K:=by unfold DE iA yU;simp only[F,u,J];exact⟨E,h⟩
def CK{t l c}:aop P C PC mt q ops ⟨d,.makeSlice t l c,ty,pos,aft,gd⟩ ρ H K=bN ops ρ gd fun G=>G=none/\q=false/\aX G (aev ρ l) fun l=>aX G (aev ρ c) fun c=>GY P d t l c ρ H K:=(rfl)
def M3{t args tys}:aop P C PC mt q ops ⟨d,.call ⟨.value (.tmp t),args,tys⟩,ty,pos,aft,gd⟩ ρ H K=bN ops ρ gd fun G=>aX G (ρ t) fun x=>bD (GW x) fun y=>if lU mt d=true then gt G/\q=false/\aG P y.1=true/\C y.1 (y.2.1++args.toList.map (FD ρ)++y.2.2) H (Ij K ρ d)else uL G ρ args.toList fun l=>aG P y.1=true/\(if G=none/\q=false then C y.1 (y.2.1++l++y.2.2) H (Ij K ρ d)else ∃r,(gt G->PC y.1 (y.2.1++l++y.2.2) H r)/\nfq q r (iE K ρ d G H)):=by
 show bN ops ρ gd (fun G=>wM P C PC (lU mt d) q G ⟨d,.call ⟨.value (.tmp t),args,tys⟩,ty,pos,aft,gd⟩ ⟨.value (.tmp t),args,tys⟩ ρ H K)=_
 congr 1;funext G
 simp only[wM,aev]
 congr 1;funext x
 cases h:GW x with
 | none=>simp[bD]
 | some y=>obtain⟨a,b,c⟩:=y;rfl
def PY{f args tys}:aop P C PC mt q ops ⟨d,.call ⟨.value (.func f),args,tys⟩,ty,pos,aft,gd⟩ ρ H K=bN ops ρ gd fun G=>if lU mt d=true then gt G/\q=false/\aG P f=true/\C f (args.toList.map (FD ρ)) H (Ij K ρ d)else uL G ρ args.toList fun l=>aG P f=true/\(if G=none/\q=false then C f l H (Ij K ρ d)else ∃r,(gt G->PC f l H r)/\nfq q r (iE K ρ d G H)):=by
 show bN ops ρ gd (fun G=>wM P C PC (lU mt d) q G ⟨d,.call ⟨.value (.func f),args,tys⟩,ty,pos,aft,gd⟩ ⟨.value (.func f),args,tys⟩ ρ H K)=_
 congr 1;funext G
 simp only[wM,aev,aX,GW,List.map_nil,List.nil_append,List.append_nil];rfl
def Iu{t}:FD ρ (.tmp t)=ρ t:=(rfl)
def BW{v}:FD ρ (.const v)=.v v:=(rfl)
def Dp{f}:FD ρ (.func f)=.v (.func (.func f) #[] #[]):=(rfl)
def ST{x t}:aop P C PC mt q ops ⟨d,.call ⟨.builtin .len,#[x],#[t]⟩,ty,pos,aft,gd⟩ ρ H K=bN ops ρ gd fun G=>aX G (aev ρ x) fun x=>Bc P H t x (iE K ρ d G H):=(rfl)
def RX{x y t t'}:aop P C PC mt q ops ⟨d,.call ⟨.builtin .max,#[x,y],#[t,t']⟩,ty,pos,aft,gd⟩ ρ H K=bN ops ρ gd fun G=>aX G (aev ρ x) fun x=>aX G (aev ρ y) fun y=>Ku x y (iE K ρ d G H):=(rfl)
def R0{x y t t'}:aop P C PC mt q ops ⟨d,.call ⟨.builtin .min,#[x,y],#[t,t']⟩,ty,pos,aft,gd⟩ ρ H K=bN ops ρ gd fun G=>aX G (aev ρ x) fun x=>aX G (aev ρ y) fun y=>JS x y (iE K ρ d G H):=(rfl)
def Q9{n m a b}{k:AV->Prop}:Ku (.v (.int n a)) (.v (.int m b)) k=k (.v (.int n (rY a b))):=(rfl)
def OD{n m a b}{k:AV->Prop}:JS (.v (.int n a)) (.v (.int m b)) k=k (.v (.int n (O0 a b))):=(rfl)
def Py{x y t t'}:aop P C PC mt q ops ⟨d,.call ⟨.builtin .copy,#[x,y],#[t,t']⟩,ty,pos,aft,gd⟩ ρ H K=bN ops ρ gd fun G=>aX G (aev ρ x) fun x=>aX G (aev ρ y) fun y=>if G=none/\q=false then D3 P d t x y ρ H K else False:=(rfl)
def M9{x t}:aop P C PC mt q ops ⟨d,.call ⟨.builtin .clear,#[x],#[t]⟩,ty,pos,aft,gd⟩ ρ H K=bN ops ρ gd fun G=>aX G (aev ρ x) fun x=>if G=none/\q=false then Jl P d t x ρ H K else False:=(rfl)
def P4{G:Option Bool}{k:AV->Prop}{t es lo hi}:asl P G H t (.sl es) lo hi k=lK P G t (.sl es) lo hi k:=(rfl)
def TN{G:Option Bool}{k:AV->Prop}{t v lo hi}:asl P G H t (.v v) lo hi k=lK P G t (.v v) lo hi k:=(rfl)
def TW{G:Option Bool}{k:AV->Prop}{t j m b}:asl P G H t (.os j) none (some (.v (.int m b))) k=bD (H j) fun r=>bD (bM P t) fun e=>(gt G->(0<=b/\b<=r.es.length)/\r.sz=e.2.1)/\k (.oz j 0 b.toNat):=by cases h1:H j <;> cases u:bM P t <;> simp[asl,bD,h1,u]
def IW{H:aD}{k:AV->Prop}{es}:lG H .eql (.sl es) k=((es=[]->k (.v (.bool true)))/\k (.v (.bool false))):=(rfl)
def Hj{H:aD}{k:AV->Prop}{es}:lG H .neq (.sl es) k=((es=[]->k (.v (.bool false)))/\k (.v (.bool true))):=(rfl)
def Ek{H:aD}{k:AV->Prop}{j}:lG H .eql (.os j) k=((B8 H j->k (.v (.bool true)))/\k (.v (.bool false))):=(rfl)
def DA{H:aD}{k:AV->Prop}:lG H .eql (.v (.slice none 0 0)) k=k (.v (.bool true)):=(rfl)
def GA{t}{k:AV->Prop}:vA P t .eql (.v .nilIface) k=(CV P t=true/\k (.v (.bool true))):=(rfl)
def HW{t}{k:AV->Prop}:vA P t .neq (.v .nilIface) k=(CV P t=true/\k (.v (.bool false))):=(rfl)
def C3{H:aD}{k:AV->Prop}:lG H .neq (.v (.slice none 0 0)) k=k (.v (.bool false)):=(rfl)
def DB{H:aD}{k:AV->Prop}{j}:lG H .neq (.os j) k=((B8 H j->k (.v (.bool false)))/\k (.v (.bool true))):=(rfl)
def JK{s x t t'}:aop P C PC mt q ops ⟨d,.call ⟨.builtin .append,#[s,x],#[t,t']⟩,ty,pos,aft,gd⟩ ρ H K=bN ops ρ gd fun G=>aX G (aev ρ s) fun s=>aX G (aev ρ x) fun x=>if t=t'/\G=none/\q=false then QO P d t s x ρ H K else False:=(rfl)
end
section
variable{P:Program}{d:Option Tmp}{ρ:Env}{H:aD}{K:Env->aD->Prop}
def Mr{t n a m b}:GY P d t (.v (.int n a)) (.v (.int m b)) ρ H K=bD (bM P t) fun e=>bD (cN P e.1) fun z=>((0<=a/\a<=b)/\(e.2.2:Int)*b<=140737488355328)/\iJ H ⟨e.1,e.2.1,List.replicate a.toNat z⟩ (MJ K ρ d):=by
 unfold GY mK;cases h1:bM P t with
 | none=>simp[bD]
 | some e=>obtain⟨x,y,z⟩:=e;cases u:cN P x <;> simp[bD,u] <;> intros <;> rfl
def Ua{f first captured}:GW (.v (.func (.func f) first captured))=some (f,first.toList.map .v,captured.toList.map .v):=(rfl)
def TJ{q x}{k:AV->Prop}:nfq q (.v x) k=k (.v x):=by cases q <;> rfl
def LX{q x}{k:AV->Prop}:nfq q (.tup x) k=k (.tup x):=by cases q <;> rfl
def QM{x}{k:AV->Prop}:nfq false (.nf x) k=k x:=(rfl)
def Tk{f l}:GW (.fn f l)=some (f,[],l):=(rfl)
end
attribute [go_sem ↓] Ef DF
attribute [go_sem] Ef DF
@[congr] theorem asl_c {P G H t x x' lo lo' hi hi' k} (h:x=x') (h1:lo=lo') (h2:hi=hi'):asl P G H t x lo hi k=asl P G H t x' lo' hi' k:=h▸h1▸h2▸rfl
@[congr] theorem aifNil_c {Q:Program} {t:TypeId} {op x x' k} (h:x=x'):vA Q t op x k=vA Q t op x' k:=h▸rfl
@[congr] theorem aeqNil_c {H:aD} {op x x' k} (h:x=x'):lG H op x k=lG H op x' k:=h▸rfl
def E5{α:Type}{a:α}{l r:List α}:List.append (a::l) r=a::List.append l r:=(rfl)
def Hx{α:Type}{r:List α}:List.append [] r=r:=(rfl)
attribute [go_sem] E5 Hx
attribute [go_sem] qH
@[congr] theorem amax_c {x x' y y' K} (h:x=x') (h':y=y'):Ku x y K=Ku x' y' K:=h▸h'▸rfl
@[congr] theorem amin_c {x x' y y' K} (h:x=x') (h':y=y'):JS x y K=JS x' y' K:=h▸h'▸rfl
attribute [go_sem ↓] RX R0 Q9 OD
attribute [go_sem] Q9 OD
@[congr] theorem pinEnd_c {l l' H K ρ H'} (h:l=l'):kQ l H K ρ H'=kQ l' H K ρ H':=h▸rfl
attribute [go_sem] Eg List.set_cons_zero List.set_cons_succ
attribute [go_sem ↓] NQ SO SD UT
attribute [go_sem ↓] NO Tu SJ
attribute [go_sem ↓] O2 Ug Ut Py M9 P4 TN TW IW Hj Ek DB DA C3 GA HW
attribute [go_sem ↓] Mg uF
attribute [go_sem] Mg uF
attribute [go_sem] P4 TN TW IW Hj Ek DB DA C3 GA HW
attribute [go_sem ↓] TJ LX QM
attribute [go_sem ↓] KW Hg Ck Jj Ew Bl MK IK
attribute [go_sem] MK IK
attribute [go_sem] TJ LX QM
attribute [go_sem ↓] FJ Em Eu CK M3 Mr GM Jf Ic Mw I5 zS LR LH MA IH
attribute [go_sem] Em Mr GM Jf Ic Mw I5 zS LR LH MA Ua Tk
attribute [go_sem] LG TT
@[congr] theorem ownNils_c {l l' z z' H K} (h:l=l') (h':z=z'):gK l z H K=gK l' z' H K:=h▸h'▸rfl
def IF{z H K}:gK [] z H K=K z H:=(rfl)
def Fx{o e sz r z H K}:gK ((o,e,sz)::r) z H K=iJ H ⟨e,sz,[]⟩ fun k H'=>gK r (z.set o (.os k)) H' K:=(rfl)
attribute [go_sem ↓] IF Fx
attribute [go_sem ↓] Pq AN HD LW HY CP DK NH IT PQ SX Q1 N1 KM PO RE Jn MC Gt Ok
attribute [go_sem ↓] uL kJ Qj QI NZ Qs Fa Sd T9 Qg Fe G0 GN CH CB NI Ji Jm MU To By Nc PY ST JK
attribute [go_sem ↓] Mm MH LL GG Mt Il IQ IB IE Ih Gp Iz GJ GZ Gr IG C7 De DS C4 Dl I4 Gk Hq Lw Mq DI CQ DN C1 L8 LQ LF LY LU uJ uE uG uH uK LK Mp DY CW I1 BN C6 Dk Dn Da BI Gi Dt C8 Dv Dz Dx CR Dy TP TS zJ zO PS F9 Mj LI Gf Ie Ml MB MG B5 Ea CO Gv G9 Hi Mc DW Hw Iu BW Dp
attribute [go_sem] Kt Mm MH LL GG Mt Il IQ IB IE Ih Gp Iz GJ GZ Gr IG C7 De DS C4 Dl I4 Gk Hq Lw Mq DI CQ DN C1 L8 LQ LF LY LU uJ uE uG uH uK LK Mp DY CW I1 BN C6 Dk Dn Da BI Gi Dt C8 Dv Dz Dx CR Dy TP TS zJ zO PS F9 Mj LI Gf Ie Ml MB MG B5 Ea CO Gv G9 Hi Mc DW Hw Iu BW Dp
attribute [go_sem] Uu QT lU mN Lt lA HZ gt gok wr rF fT I9 Value.oneCell' FI cT sY Option.map_some lP kI aB
attribute [go_sem] Bool.false_eq_true if_false if_true reduceCtorEq true_and and_true false_and and_false false_implies true_implies implies_true forall_const and_self imp_self ne_eq not_true_eq_false not_false_eq_true
attribute [go_sem] List.getD_cons_zero List.getD_cons_succ List.getD_nil List.length_cons List.length_nil List.drop_zero List.drop_succ_cons List.take_succ_cons List.take_zero Option.getD_some Option.getD_none Nat.zero_add Nat.add_zero List.map_cons List.map_nil List.cons_append List.nil_append List.append_nil
attribute [go_sem] Option.bind_some List.getElem?_toArray List.getElem?_cons_zero List.getElem?_cons_succ
attribute [go_sem ↓] reduceIte
attribute [go_sem] Nat.reduceEqDiff Nat.reduceAdd Nat.reduceMul Nat.reduceSub Nat.reduceLT Nat.reduceLeDiff Nat.reduceBEq
end Go.Aw
end
section
namespace Go.Aw
open Go.RowKit
structure Sg where
 ro:Nat->Prop
 fz:Nat->Prop
 loc:Nat->Value
 sz:Nat->Nat
 N:Nat
mutual
def rep(S:Sg)(w:World):AV->Value->Prop
 | .v x,y=>y=x
 | .any,_=>True
 | .sl es,y=>∃ad n c,y=.slice ad n c/\es.length=n/\n<=c/\c<=maxLen/\(es=[]\/∃b o sz,ad=some ⟨b,o,none⟩/\S.ro b/\0<sz/\eB S w b sz o es)
 | .rp cs off,y=>∃b o,y=.pointer (some ⟨b,o+off,none⟩)/\S.ro b/\bW S w b o cs
 | .agg cs,y=>∃l:List Value,y=.agg l.toArray/\aR S w cs l/\∀u∈l,u.oneCell'=true
 | .tup vs,y=>∃l:List Value,y=.tuple l.toArray/\aR S w vs l
 | .os k,y=>k<S.N/\y=S.loc k/\∃a n c,y=.slice a n c
 | .op k i f,y=>k<S.N/\∃g n c,S.loc k=.slice (some ⟨g,0,none⟩) n c/\y=.pointer (some ⟨g,i*S.sz k+f,none⟩)
 | .gd g x,y=>(g=true->rep S w x y)/\(g=false->y=undef)
 | .nf x,y=>rep S w x y
 | .fn f cap,y=>∃l:List Value,y=.func (.func f) #[] l.toArray/\aR S w cap l
 | .om k,y=>k<S.N/\y=S.loc k/\∃g,y=.map (some g)
 | .cl es,y=>∃ad n,y=.slice ad n n/\es.length=n/\n<=maxLen/\(es=[]\/∃b o sz,ad=some ⟨b,o,none⟩/\S.ro b/\0<sz/\eB S w b sz o es)
 | .oz k a b,y=>k<S.N/\∃ad n c ad' cc,S.loc k=.slice ad n c/\y=.slice ad' (b-a) cc/\a<=b/\b<=n/\(0<cc->∃g,ad=some ⟨g,0,none⟩/\ad'=some ⟨g,a*S.sz k,none⟩)/\(a=0->ad'=ad)/\n<=c/\b-a<=cc/\cc<=c-a
def aR(S:Sg)(w:World):List AV->List Value->Prop
 | [],l=>l=[]
 | x::r,l=>∃u t,l=u::t/\rep S w x u/\aR S w r t
def bW(S:Sg)(w:World)(b:Nat):Nat->List AV->Prop
 | _,[]=>True
 | o,x::r=>(∃u,w.cell? ⟨b,o,none⟩=some u/\u.oneCell'=true/\rep S w x u)/\bW S w b (o+1) r
def eB(S:Sg)(w:World)(b sz:Nat):Nat->List (List AV)->Prop
 | _,[]=>True
 | o,cs::r=>cs.length=sz/\bW S w b o cs/\eB S w b sz (o+sz) r
end
structure Sg.le(S S':Sg):Prop where
 ro:∀k,S.ro k->S'.ro k
 N:S.N<=S'.N
 loc:∀k,k<S.N->S'.loc k=S.loc k
 sz:∀k,k<S.N->S'.sz k=S.sz k
def Sg.le_refl(S:Sg):S.le S:=⟨fun _ h=>h,Nat.le_refl _,fun _ _=>rfl,fun _ _=>rfl⟩
def Sg.le_trans{S S' E:Sg}(h:S.le S')(F:S'.le E):S.le E:=
 ⟨fun k u=>F.ro k (h.ro k u),Nat.le_trans h.N F.N,fun k u=>(F.loc k (Nat.lt_of_lt_of_le u h.N)).trans (h.loc k u),
  fun k u=>(F.sz k (Nat.lt_of_lt_of_le u h.N)).trans (h.sz k u)⟩
def blk:Value->Option Nat
 | .slice (some a) _ _=>some a.block
 | .map (some g)=>some g
 | _=>none
def eG(S:Sg)(w w':World):Prop:=∀k,S.ro k->w'.heap[k]?=w.heap[k]?
def eG.refl(S:Sg)(w:World):eG S w w:=fun _ _=>rfl
section
variable{S S':Sg}{w w':World}
def eG.cell(h:eG S w w'){b o:Nat}(u:S.ro b):w'.cell? ⟨b,o,none⟩=w.cell? ⟨b,o,none⟩:=World.cell?_of_block (a:=⟨b,o,none⟩) (h b u)
mutual
theorem gY(u:S.le S')(E:eG S w w'):∀(x:AV) (y:Value),rep S w x y->rep S' w' x y
 | .v _,_,h=>h
 | .any,_,_=>trivial
 | .sl es,y,h=>by
  simp only[rep]at h |-;obtain⟨ad,n,c,rfl,h1,h2,Z,J⟩:=h;refine⟨ad,n,c,rfl,h1,h2,Z,?_⟩;rcases J with J|⟨b,o,sz,rfl,F,O,M⟩
  ·exact .inl J
  ·exact .inr ⟨b,o,sz,rfl,u.ro b F,O,uQ u E F sz o es M⟩
 | .rp cs off,y,h=>by simp only[rep]at h |-;obtain⟨b,o,rfl,F,hc⟩:=h;exact⟨b,o,rfl,u.ro b F,qP u E F o cs hc⟩
 | .agg cs,y,h=>by simp only[rep]at h |-;obtain⟨l,rfl,L,h1⟩:=h;exact⟨l,rfl,cP u E cs l L,h1⟩
 | .tup vs,y,h=>by simp only[rep]at h |-;obtain⟨l,rfl,L⟩:=h;exact⟨l,rfl,cP u E vs l L⟩
 | .os k,y,h=>by simp only[rep]at h |-;exact⟨Nat.lt_of_lt_of_le h.1 u.N,by rw[u.loc k h.1];exact h.2⟩
 | .op k i f,y,h=>by simp only[rep]at h |-;refine⟨Nat.lt_of_lt_of_le h.1 u.N,?_⟩;rw[u.loc k h.1,u.sz k h.1];exact h.2
 | .gd g x,y,h=>by simp only[rep]at h |-;exact⟨fun hg=>gY u E x y (h.1 hg),h.2⟩
 | .nf x,y,h=>by simp only[rep]at h |-;exact gY u E x y h
 | .fn f cap,y,h=>by simp only[rep]at h |-;obtain⟨l,rfl,L⟩:=h;exact⟨l,rfl,cP u E cap l L⟩
 | .om k,y,h=>by simp only[rep]at h |-;exact⟨Nat.lt_of_lt_of_le h.1 u.N,by rw[u.loc k h.1];exact h.2⟩
 | .oz k a b,y,h=>by simp only[rep]at h |-;refine⟨Nat.lt_of_lt_of_le h.1 u.N,?_⟩;rw[u.loc k h.1,u.sz k h.1];exact h.2
 | .cl es,y,h=>by
  simp only[rep]at h |-;obtain⟨ad,n,rfl,h1,Z,J⟩:=h;refine⟨ad,n,rfl,h1,Z,?_⟩;rcases J with J|⟨b,o,sz,rfl,F,O,M⟩
  ·exact .inl J
  ·exact .inr ⟨b,o,sz,rfl,u.ro b F,O,uQ u E F sz o es M⟩
theorem cP(E:S.le S')(F:eG S w w'):∀(x:List AV) (l:List Value),aR S w x l->aR S' w' x l
 | [],_,h=>h
 | x::r,l,h=>by simp only[aR]at h |-;obtain⟨u,t,rfl,h1,J⟩:=h;exact⟨u,t,rfl,gY E F x u h1,cP E F r t J⟩
theorem qP(J:S.le S')(E:eG S w w'){b:Nat}(F:S.ro b):∀(o:Nat) (x:List AV),bW S w b o x->bW S' w' b o x
 | _,[],_=>trivial
 | o,x::r,h=>by simp only[bW]at h |-;obtain⟨⟨u,h1,O,M⟩,L⟩:=h;exact⟨⟨u,by rw[E.cell F];exact h1,O,gY J E x u M⟩,qP J E F (o+1) r L⟩
theorem uQ(E:S.le S')(F:eG S w w'){b:Nat}(u:S.ro b)(sz:Nat):∀(o:Nat) (x:List (List AV)),eB S w b sz o x->eB S' w' b sz o x
 | _,[],_=>trivial
 | o,x::r,h=>by simp only[eB]at h |-;exact⟨h.1,qP E F u o x h.2.1,uQ E F u sz (o+sz) r h.2.2⟩
end
def tF:∀(cs:List AV) (o j:Nat) {b:Nat},bW S w b o cs->j<cs.length->∃u,w.cell? ⟨b,o+j,none⟩=some u/\u.oneCell'=true/\rep S w (cs.getD j .any) u
 | [],_,_,_,_,h=>by simp at h
 | x::r,o,0,b,h,_=>by simp only[bW]at h;simpa using h.1
 | x::r,o,j+1,b,h,hj=>by simp only[bW]at h;have:=tF r (o+1) j h.2 (by simpa using hj);rw[show o+1+j=o+(j+1)by omega]at this;simpa using this
def qU:∀(cs:List AV) (o j:Nat) {b:Nat},bW S w b o cs->bW S w b (o+j) (cs.drop j)
 | [],_,_,_,_=>by simp[bW]
 | x::r,o,0,b,h=>by simpa using h
 | x::r,o,j+1,b,h=>by simp only[bW]at h;have:=qU r (o+1) j h.2;rw[show o+1+j=o+(j+1)by omega]at this;simpa using this
def rH:∀(cs:List AV) (o j:Nat) {b:Nat},bW S w b o cs->bW S w b o (cs.take j)
 | [],_,_,_,_=>by simp[bW]
 | x::r,o,0,b,h=>by simp[bW]
 | x::r,o,j+1,b,h=>by simp only[bW,List.take_succ_cons]at h |-;exact⟨h.1,rH r (o+1) j h.2⟩
def iF:∀(cs:List AV) (o:Nat) {b:Nat},bW S w b o cs->∃l:List Value,l.length=cs.length/\aR S w cs l/\(∀u∈l,u.oneCell'=true)/\∀j u,l[j]?=some u->w.cell? ⟨b,o+j,none⟩=some u
 | [],_,_,_=>⟨[],rfl,by simp[aR],by simp,by simp⟩
 | x::r,o,b,h=>by
  simp only[bW]at h;obtain⟨⟨u,h1,Z,O⟩,M⟩:=h;obtain⟨l,J,e2,L,F⟩:=iF r (o+1) M;refine⟨u::l,by simp[J],?_,?_,?_⟩
  ·simp only[aR];exact⟨u,l,rfl,O,e2⟩
  ·intro v E;rcases List.mem_cons.1 E with rfl|E
   ·exact Z
   ·exact L v E
  ·intro j v E;cases j with
   | zero=>simp at E;subst E;simpa using h1
   | succ j=>rw[show o+(j+1)=o+1+j by omega];exact F j v (by simpa using E)
def mE:∀(es:List (List AV)) (o i:Nat) {b sz:Nat},eB S w b sz o es->i<es.length->(es.getD i []).length=sz/\bW S w b (o+i*sz) (es.getD i [])
 | [],_,_,_,_,_,h=>by simp at h
 | x::r,o,0,b,sz,h,_=>by simp only[eB]at h;simpa using⟨h.1,h.2.1⟩
 | x::r,o,i+1,b,sz,h,hi=>by simp only[eB]at h;have:=mE r (o+sz) i h.2.2 (by simpa using hi);rw[show o+sz+i*sz=o+(i+1)*sz by rw[Nat.add_mul];omega]at this;simpa using this
def vF:∀(es:List (List AV)) (o i:Nat) {b sz:Nat},eB S w b sz o es->eB S w b sz (o+i*sz) (es.drop i)
 | [],_,_,_,_,_=>by simp[eB]
 | x::r,o,0,b,sz,h=>by simpa using h
 | x::r,o,i+1,b,sz,h=>by simp only[eB]at h;have:=vF r (o+sz) i h.2.2;rw[show o+sz+i*sz=o+(i+1)*sz by rw[Nat.add_mul];omega]at this;simpa using this
def qL:∀(es:List (List AV)) (o i:Nat) {b sz:Nat},eB S w b sz o es->eB S w b sz o (es.take i)
 | [],_,_,_,_,_=>by simp[eB]
 | x::r,o,0,b,sz,h=>by simp[eB]
 | x::r,o,i+1,b,sz,h=>by simp only[eB,List.take_succ_cons]at h |-;exact⟨h.1,h.2.1,qL r _ i h.2.2⟩
def mI:∀(xs u:List AV) (o:Nat) {b:Nat},bW S w b o (xs++u)↔bW S w b o xs/\bW S w b (o+xs.length) u
 | [],u,o,b=>by simp[bW]
 | x::r,u,o,b=>by simp only[List.cons_append,bW,mI r u (o+1),List.length_cons,show o+1+r.length=o+(r.length+1)by omega,and_assoc]
def pS:∀(es:List (List AV)) (o:Nat) {b sz:Nat},eB S w b sz o es->bW S w b o es.flatten
 | [],_,_,_,_=>by simp[bW]
 | x::r,o,b,sz,h=>by simp only[eB]at h;rw[List.flatten_cons,mI];refine⟨h.2.1,?_⟩;rw[h.1];exact pS r _ h.2.2
def kW:∀(es:List (List AV)) (o:Nat) {b sz:Nat},(∀cs∈es,cs.length=sz)->bW S w b o es.flatten->eB S w b sz o es
 | [],_,_,_,_,_=>by simp[eB]
 | x::r,o,b,sz,hl,h=>by rw[List.flatten_cons,mI]at h;have u:=hl x (by simp);rw[u]at h;simp only[eB];exact⟨u,h.1,kW r _ (fun cs E=>hl cs (by simp[E])) h.2⟩
def iT:∀(es:List (List AV)) {sz:Nat},(∀cs∈es,cs.length=sz)->es.flatten.length=es.length*sz
 | [],_,_=>by simp
 | x::r,sz,hl=>by rw[List.flatten_cons,List.length_append,hl x (by simp),iT r (fun cs u=>hl cs (by simp[u])),List.length_cons,Nat.add_mul];omega
def eF:∀(x:List AV) (l:List Value),aR S w x l->l.length=x.length
 | [],l,h=>by simp only[aR]at h;simp[h]
 | x::r,l,h=>by simp only[aR]at h;obtain⟨u,t,rfl,_,E⟩:=h;simp[eF r t E]
def wX:∀(x:List AV) (l:List Value) (j:Nat),aR S w x l->j<x.length->∃u,l[j]?=some u/\rep S w (x.getD j .any) u
 | [],_,_,_,h=>by simp at h
 | x::r,l,j,h,hj=>by
  simp only[aR]at h;obtain⟨u,t,rfl,h1,J⟩:=h;cases j with
  | zero=>exact⟨u,by simp,by simpa using h1⟩
  | succ j=>obtain⟨v,E,F⟩:=wX r t j J (by simpa using hj);exact⟨v,by simpa using E,by simpa using F⟩
def cA:∀(x y:List AV) (l m:List Value),aR S w x l->aR S w y m->aR S w (x++y) (l++m)
 | [],y,l,m,h,h'=>by simp only[aR]at h;subst h;simpa using h'
 | x::r,y,l,m,h,h'=>by simp only[aR]at h;obtain⟨u,t,rfl,h1,E⟩:=h;simp only[List.cons_append,aR];exact⟨u,t++m,rfl,h1,cA r y t m E h'⟩
def lZ:∀(x:List AV) (l:List Value) (j:Nat),aR S w x l->aR S w (x.drop j) (l.drop j)
 | [],l,j,h=>by simp only[aR]at h;subst h;simp[aR]
 | x::r,l,j,h=>by
  cases j with
  | zero=>simpa using h
  | succ j=>simp only[aR]at h;obtain⟨u,t,rfl,_,E⟩:=h;simpa using lZ r t j E
def mF:∀(x:List AV) (l:List Value) (j:Nat),aR S w x l->aR S w (x.take j) (l.take j)
 | [],l,j,h=>by simp only[aR]at h;subst h;simp[aR]
 | x::r,l,j,h=>by
  cases j with
  | zero=>simp[aR]
  | succ j=>simp only[aR]at h;obtain⟨u,t,rfl,h1,E⟩:=h;simp only[List.take_succ_cons,aR];exact⟨u,t.take j,rfl,h1,mF r t j E⟩
def fE:∀(x:List AV) (l:List Value) (o:Nat) {b:Nat},aR S w x l->(∀u∈l,u.oneCell'=true)->(∀j u,l[j]?=some u->w.cell? ⟨b,o+j,none⟩=some u)->bW S w b o x
 | [],_,_,_,_,_,_=>by simp[bW]
 | x::r,l,o,b,h,h1,hc=>by simp only[aR]at h;obtain⟨u,t,rfl,J,F⟩:=h;simp only[bW];refine⟨⟨u,by simpa using hc 0 u (by simp),h1 u (by simp),J⟩,fE r t (o+1) F (fun v E=>h1 v (by simp[E])) fun j v E=>?_⟩;rw[show o+1+j=o+(j+1)by omega];exact hc (j+1) v (by simpa using E)
end
end Go.Aw
end
section
namespace Go.Aw
open Go.RowKit
def gO(S:Sg)(w:World):Nat->List (List AV)->List MapEntry->Prop
 | _,[],ms=>ms=[]
 | i,cs::r,ms=>∃m t,ms=m::t/\m.born=i/\aR S w cs [m.key,m.val]/\gO S w (i+1) r t
def Fs(S:Sg)(w:World)(k:Nat)(r:Row):Prop:=∃xs,w.ownsRow 0 r.e r.sz (S.loc k) r.es.length xs/\aR S w r.es.flatten xs/\∀u∈xs,u.oneCell'=true
def Q4(S:Sg)(w:World)(k:Nat)(r:Row):Prop:=∃g ms,S.loc k=.map (some g)/\w.heap[g]?=some (.map (List.toArray ms) ms.length)/\gO S w 0 r.es ms/\r.sz=2
def UG(a:Option Addr)(n c:Nat):blk (.slice a n c)=(Value.slice a n c).ownBlock:=by cases a <;> rfl
structure RowOK(S:Sg)(w:World)(k:Nat)(r:Row):Prop where
 lt:k<S.N
 sz:r.sz=S.sz k
 pos:0<r.sz
 len:∀cs∈r.es,cs.length=r.sz
 own:Fs S w k r\/Q4 S w k r
def oU(S:Sg)(w:World)(H:aD):Prop:=∀k r,H k=some r->RowOK S w k r
def RowOK.sl{S:Sg}{w:World}{k:Nat}{r:Row}(h:RowOK S w k r){a:Option Addr}{n c:Nat}(u:S.loc k=.slice a n c):Fs S w k r:=by
 rcases h.own with h1|⟨g,ms,h1,_⟩
 ·exact h1
 ·rw[u]at h1;cases h1
def RowOK.mp{S:Sg}{w:World}{k:Nat}{r:Row}(h:RowOK S w k r){g:Nat}(u:S.loc k=.map (some g)):Q4 S w k r:=by
 rcases h.own with⟨xs,E,_⟩|h1
 ·rcases E.2 with⟨hv,_⟩|⟨_,_,_,hv,_⟩ <;> (rw[u]at hv;cases hv)
 ·exact h1
structure Agree(S:Sg)(H:aD)(w w':World):Prop where
 kept:eG S w w'
 own:∀k r,H k=some r->∀g,blk (S.loc k)=some g->w'.heap[g]?=w.heap[g]?
def Agree.refl(S:Sg)(H:aD)(w:World):Agree S H w w:=⟨eG.refl S w,fun _ _ _ _ _=>rfl⟩
def pC(P:Program)(S:Sg)(H:aD)(w:World)(z:AV)(e:Sem Value):Prop:=
 ∃v,rep S w z v/\∀w',Agree S H w w'->e.run P w'=.ok v w'
section
variable{P:Program}{S:Sg}{H:aD}{w:World}{G:Option Bool}{K:AV->Prop}
def gM{x:Value}:rep S w (.v x) x:=by simp only[rep]
def oV{t:TypeId}{l:Option Nat}(h:ldT P t=some l):∃d,P.underlying t=some d /\
  match l with
  | none=>(∀fs,d≠.struct fs)/\∀n e,d≠.array n e
  | some n=>((∃fs,d=.struct fs)\/∃m e,d=.array m e)/\∃i,P.info? t=some i/\i.size=n:=by
 unfold ldT at h;cases u:P.underlying t with
 | none=>rw[u]at h;simp at h
 | some d=>
  refine⟨d,rfl,?_⟩;rw[u]at h;cases hi:P.info? t with
  | none=>rw[hi]at h;cases d <;> simp at h
  | some i=>rw[hi]at h;cases d <;> simp at h <;> subst h <;> simp
def lV{t:TypeId}{l:Option Nat}(h:ldT P t=some l)(w:World):(isAgg t).run P w=.ok l.isSome w:=by
 obtain⟨d,u,E⟩:=oV h;cases l with
 | none=>obtain⟨h1,F⟩:=E;simp only[isAgg,Sem.run_bind,run_underlying u,Result.andThen];cases d <;> simp_all
 | some n=>obtain⟨h1,_⟩:=E;simp only[isAgg,Sem.run_bind,run_underlying u,Result.andThen];rcases h1 with⟨fs,rfl⟩|⟨m,e,rfl⟩ <;> simp
def oL{t:TypeId}{n:Nat}(h:ldT P t=some (some n))(w:World):(sizeOf t).run P w=.ok n w:=by obtain⟨d,E,u⟩:=oV h;obtain⟨_,i,hi,rfl⟩:=u;simp[sizeOf,typeInfo,hi]
def rP{t:TypeId}(h:ldT P t=some none){a:Addr}{v:Value}(u:w.cell? a=some v):(loadVar t a).run P w=.ok v w:=by simp[loadVar,lV h,u]
def oX{t:TypeId}{l:List Value}(h:ldT P t=some (some l.length)){b o:Nat}(E:∀j v,l[j]?=some v->w.cell? ⟨b,o+j,none⟩=some v):
  (loadVar t ⟨b,o,none⟩).run P w=.ok (.agg l.toArray) w:=by
 have:=run_loadCells_list (P:=P) w ⟨b,o,none⟩ l (fun j v u=>by rw[Addr.add_lit];exact E j v u);simp[loadVar,lV h,oL h,this]
def RowOK.cells{k:Nat}{r:Row}(h:RowOK S w k r){a0:Option Addr}{Z c0:Nat}(O:S.loc k=.slice a0 Z c0)(E:r.es≠[]):∃g n c,S.loc k=.slice (some ⟨g,0,none⟩) n c/\bW S w g 0 r.es.flatten/\n=r.es.length:=by
 obtain⟨xs,J,hr,h1⟩:=h.sl O;rcases J.2 with⟨_,L⟩|⟨g,cap,cur,F,_⟩
 ·exact absurd (List.eq_nil_of_length_eq_zero L) E
 ·refine⟨g,_,cap,F,?_,rfl⟩;refine fE _ xs 0 hr h1 fun j u M=>?_
  have:=J.cells (g:=g) (by rw[F];rfl) j u M
  rwa [Addr.add_lit]at this
def RowOK.els{k:Nat}{r:Row}(h:RowOK S w k r){J:Option Addr}{F c0:Nat}(E:S.loc k=.slice J F c0)(u:r.es≠[]):∃g n c,S.loc k=.slice (some ⟨g,0,none⟩) n c/\eB S w g r.sz 0 r.es/\n=r.es.length:=by obtain⟨g,n,c,h1,L,M⟩:=h.cells E u;exact⟨g,n,c,h1,kW _ _ h.len L,M⟩
def Agree.cell{w':World}(F:Agree S H w w'){b o:Nat}{u:Value}(E:S.ro b)(h:w.cell? ⟨b,o,none⟩=some u):w'.cell? ⟨b,o,none⟩=some u:=(F.kept.cell E).trans h
def Agree.cellOwn{w':World}(E:Agree S H w w'){k g n c o:Nat}{r:Row}{u:Value}(F:H k=some r)(J:S.loc k=.slice (some ⟨g,0,none⟩) n c)(h:w.cell? ⟨g,o,none⟩=some u):w'.cell? ⟨g,o,none⟩=some u:=by have:=E.own k r F g (by rw[J];rfl);exact(World.cell?_of_block (a:=⟨g,o,none⟩) this).trans h
def yX{t:TypeId}{l:Option Nat}{x:AV}(hl:ldT P t=some l)(hH:oU S w H)(h:jS G H l x K):
  ∃z,K z/\(gt G->∀u,rep S w x u->pC P S H w z (Instr.loadAt t u)):=by
 unfold jS at h;split at h
 ·rename_i cs off;cases l with
  | none=>refine⟨_,h.2,fun Z u L=>?_⟩;simp only[rep]at L;obtain⟨b,o,rfl,hb,hc⟩:=L;obtain⟨v,h1,_,h3⟩:=tF cs o off hc (h.1 Z);refine⟨v,h3,fun w' O=>?_⟩;simp[Instr.loadAt,Instr.sureAddr,rP hl (O.cell hb h1)]
  | some n=>
   refine⟨_,h.2,fun Z u L=>?_⟩;simp only[rep]at L;obtain⟨b,o,rfl,hb,hc⟩:=L;obtain⟨l,J,e2,e3,e4⟩:=iF _ _ (rH _ _ n (qU cs o off hc));have aa:=h.1 Z;have hn:l.length=n:=by rw[J];simp;omega
   refine⟨.agg l.toArray,by simp only[rep];exact⟨l,rfl,e2,e3⟩,fun w' O=>?_⟩;rw[<-hn]at hl;simp[Instr.loadAt,Instr.sureAddr,oX hl (fun j v hj=>O.cell hb (e4 j v hj))]
 ·rename_i k i f;split at h
  ·rename_i r hk;have hr:=hH k r hk;cases l with
   | none=>
    refine⟨_,h.2,fun Z u L=>?_⟩;simp only[rep]at L;obtain⟨_,g,n,c,E,rfl⟩:=L;obtain⟨hi,hf⟩:=h.1 Z;have M:r.es≠[]:=fun e=>by rw[e]at hi;simp at hi
    obtain⟨g',n',c',F,he,_⟩:=hr.els E M;rw[E]at F;injection F with J e2 e3;injection J with J;injection J with J;subst J;obtain⟨e4,e5⟩:=mE _ 0 i he hi;obtain⟨v,h1,_,h3⟩:=tF _ _ f e5 (by rw[e4];exact hf);refine⟨v,h3,fun w' O=>?_⟩;rw[<-hr.sz];rw[Nat.zero_add]at h1;simp[Instr.loadAt,Instr.sureAddr,rP hl (O.cellOwn hk E h1)]
   | some m=>
    refine⟨_,h.2,fun Z u L=>?_⟩;simp only[rep]at L;obtain⟨_,g,n,c,E,rfl⟩:=L;obtain⟨hi,hf⟩:=h.1 Z;have M:r.es≠[]:=fun e=>by rw[e]at hi;simp at hi
    obtain⟨g',n',c',F,he,_⟩:=hr.els E M;rw[E]at F;injection F with J e2 e3;injection J with J;injection J with J;subst J;obtain⟨e4,e5⟩:=mE _ 0 i he hi;obtain⟨l,J,e2,e3,e6⟩:=iF _ _ (rH _ _ m (qU _ _ f e5));have hn:l.length=m:=by rw[J,List.length_take,List.length_drop,e4];omega
    refine⟨.agg l.toArray,by simp only[rep];exact⟨l,rfl,e2,e3⟩,fun w' O=>?_⟩;rw[<-hn]at hl;rw[<-hr.sz];rw[Nat.zero_add]at e6;simp[Instr.loadAt,Instr.sureAddr,oX hl (fun j v hj=>O.cellOwn hk E (e6 j v hj))]
  ·exact h.elim
 ·exact h.elim
def jI{t:TypeId}(h:ldT P t=some none){l:List Value}{o:Nat}{u:Value}(E:l[o]?=some u):(part t l.toArray o).run P w=.ok u w:=by simp[part,lV h,E]
def Co{t:TypeId}{n:Nat}(h:ldT P t=some (some n)){l:List Value}{o:Nat}:(part t l.toArray o).run P w=.ok (.agg ((l.drop o).take n).toArray) w:=by simp[part,lV h,oL h,List.extract_eq_take_drop]
def yS{t:TypeId}{l:Option Nat}{x:AV}{off:Nat}(F:ldT P t=some l)(h:apart G off l x K):
  ∃z,K z/\(gt G->∀u,rep S w x u->∃cs:Array Value,u=.agg cs/\pC P S H w z (part t cs off)):=by
 unfold apart at h;split at h
 ·rename_i cs;cases l with
  | none=>refine⟨_,h.2,fun J u E=>?_⟩;simp only[rep]at E;obtain⟨l,rfl,h1,_⟩:=E;obtain⟨v,L,e2⟩:=wX cs l off h1 (h.1 J);exact⟨_,rfl,v,e2,fun w' _=>jI F L⟩
  | some n=>refine⟨_,h.2,fun J u E=>?_⟩;simp only[rep]at E;obtain⟨l,rfl,h1,M⟩:=E;refine⟨_,rfl,_,?_,fun w' _=>Co F⟩;simp only[rep];exact⟨_,rfl,mF _ _ n (lZ _ _ off h1),fun u E=>M u (List.mem_of_mem_drop (List.mem_of_mem_take E))⟩
 ·exact h.elim
def uM{t:TypeId}{f o:Nat}{l:Option Nat}(h:aM P t f=some (o,l)):
  ∃fs u i,P.underlying t=some (.struct fs)/\fs[f]?=some u/\u.offset=o/\P.info? u.type=some i/\i.size≠0/\ldT P u.type=some l:=by
 unfold aM at h;cases J:P.underlying t with
 | none=>simp[J]at h
 | some d=>
  cases d <;> simp only[J]at h <;> try (simp at h;done)
  rename_i fs;cases F:fs[f]? with
  | none=>simp[F]at h
  | some u=>
   simp only[F]at h;cases hi:P.info? u.type with
   | none=>simp[hi]at h
   | some i=>
    simp only[hi]at h;split at h
    ·simp at h
    ·rename_i L;cases E:ldT P u.type with
     | none=>simp[E]at h
     | some l'=>simp[E]at h;obtain⟨rfl,rfl⟩:=h;exact⟨fs,u,i,rfl,F,rfl,hi,L,E⟩
def yW{t:TypeId}{f o:Nat}{l:Option Nat}(h:aM P t f=some (o,l))(b p:Nat)(w:World):
  (Instr.fieldAt t (.pointer (some ⟨b,p,none⟩)) f).run P w=.ok (.pointer (some ⟨b,p+o,none⟩)) w:=by
 obtain⟨fs,J,i,u,F,rfl,hi,E,_⟩:=uM h;simp[Instr.fieldAt,run_underlying u,F,Instr.sureAddr,fieldPlace,sizeOf,typeInfo,hi,E,Addr.add_lit]
def yE{t:TypeId}{f:Nat}{x:AV}(h:fO P t f x K):
  ∃z,K z/\(gt G->∀u,rep S w x u->pC P S H w z (Instr.fieldAt t u f)):=by
 unfold fO at h;split at h
 ·rename_i cs off;split at h
  ·rename_i o l F;refine⟨_,h,fun _ u E=>?_⟩;simp only[rep]at E;obtain⟨b,p,rfl,L,J⟩:=E;refine⟨_,?_,fun w' _=>yW F b (p+off) w'⟩;simp only[rep];exact⟨b,p,by rw[Nat.add_assoc],L,J⟩
  ·exact h.elim
 ·rename_i k i g;split at h
  ·rename_i o l F;refine⟨_,h,fun _ u E=>?_⟩;simp only[rep]at E;obtain⟨h1,b,n,c,M,rfl⟩:=E;refine⟨_,?_,fun w' _=>yW F b _ w'⟩;simp only[rep];exact⟨h1,b,n,c,M,by rw[Nat.add_assoc]⟩
  ·exact h.elim
 ·exact h.elim
def dU{t:TypeId}{e sz u:Nat}(h:bM P t=some (e,sz,u)):
  ∃i z,P.underlying t=some (.slice e)/\P.info? e=some i/\i.size=sz/\i.bytes=u/\0<sz/\0<u/\i.zero=some z/\z.cells.size=sz:=by
 unfold bM at h;cases J:P.underlying t with
 | none=>simp[J]at h
 | some d=>
  cases d <;> simp only[J]at h <;> try (simp at h;done)
  rename_i M;cases hi:P.info? M with
  | none=>simp[hi]at h
  | some i=>
   simp only[hi]at h;split at h
   ·simp at h
   ·rename_i L;simp at h;obtain⟨rfl,rfl,rfl⟩:=h;simp only[not_or,ne_eq,Decidable.not_not]at L;obtain⟨h1,O,F⟩:=L;cases E:i.zero with
    | none=>simp[E]at F
    | some z=>simp[E]at F;exact⟨i,z,rfl,hi,rfl,rfl,by omega,by omega,E,F⟩
def DJ{t:TypeId}{n s:Nat}{l:Option Nat}(h:Ao P t=some (n,s,l)):
  ∃e i,P.underlying t=some (.array n e)/\P.info? e=some i/\i.size=s/\s≠0/\ldT P e=some l:=by
 unfold Ao at h;cases E:P.underlying t with
 | none=>simp[E]at h
 | some d=>
  cases d <;> simp only[E]at h <;> try (simp at h;done)
  rename_i m e;cases hi:P.info? e with
  | none=>simp[hi]at h
  | some i=>
   simp only[hi]at h;split at h
   ·simp at h
   ·rename_i F;cases u:ldT P e with
    | none=>simp[u]at h
    | some l'=>simp[u]at h;obtain⟨rfl,rfl,rfl⟩:=h;exact⟨e,i,rfl,hi,rfl,F,u⟩
def mS{t:TypeId}{e sz u:Nat}(h:bM P t=some (e,sz,u))(b o len cap:Nat)(k:IntKind)(i:Int)(h0:0<=i)(h1:i<len)(w:World):
  (Instr.indexAt t (.slice (some ⟨b,o,none⟩) len cap) (.int k i)).run P w=.ok (.pointer (some ⟨b,o+i.toNat*sz,none⟩)) w:=by
 obtain⟨F,z,E,hi,rfl,_⟩:=dU h;simp[Instr.indexAt,run_underlying E,asIntOf,h0,h1,sizeOf,typeInfo,hi,Addr.add_lit]
def rV{t:TypeId}{n s:Nat}{l:Option Nat}(h:Ao P t=some (n,s,l))(b o:Nat)(k:IntKind)(i:Int)(h0:0<=i)(h1:i<n)(w:World):
  (Instr.indexAt t (.pointer (some ⟨b,o,none⟩)) (.int k i)).run P w=.ok (.pointer (some ⟨b,o+i.toNat*s,none⟩)) w:=by
 obtain⟨e,E,u,hi,rfl,_⟩:=DJ h;simp[Instr.indexAt,run_underlying u,asIntOf,h0,h1,Instr.sureAddr,sizeOf,typeInfo,hi,Addr.add_lit]
def xS{t:TypeId}{x i:AV}(hH:oU S w H)(h:dY P G H t x i K):
  ∃z,K z/\(gt G->∀u v,rep S w x u->rep S w i v->pC P S H w z (Instr.indexAt t u v)):=by
 unfold dY at h;split at h
 ·rename_i es k n;split at h
  ·rename_i e sz M he;refine⟨_,h.2,fun O u v L J=>?_⟩;obtain⟨⟨h0,h1⟩,h2⟩:=h.1 O;simp only[rep]at L J;subst J;obtain⟨ad,m,c,rfl,e1,_,_,e2⟩:=L;rcases e2 with rfl|⟨b,o,ae,rfl,hb,_,aa⟩
   ·simp at h1;omega
   ·have F:n.toNat<es.length:=by omega
    obtain⟨e3,e4⟩:=mE es o n.toNat aa F;have af:ae=sz:=by rw[<-e3,h2]
    subst af;refine⟨_,?_,fun w' _=>mS he b o m c k n h0 (by omega) w'⟩;simp only[rep];exact⟨b,_,by rw[Nat.add_zero],hb,e4⟩
  ·exact h.elim
 ·rename_i k ik n;split at h
  ·rename_i r e sz M hk he;refine⟨_,h.2,fun O u v L J=>?_⟩;obtain⟨⟨h0,h1⟩,h2⟩:=h.1 O;have hr:=hH k r hk;have ac:r.es≠[]:=fun e=>by rw[e]at h1;simp at h1;omega
   simp only[rep]at L J;subst J;obtain⟨F,rfl,_,_,_,Z⟩:=L;obtain⟨g,m,c,E,_,hm⟩:=hr.els Z ac;rw[E];refine⟨_,?_,fun w' _=>mS he g 0 m c ik n h0 (by omega) w'⟩;simp only[rep];exact⟨F,g,m,c,E,by rw[<-hr.sz,h2];simp⟩
  ·exact h.elim
 ·rename_i k a b ik n;split at h
  ·rename_i r e sz M hk he;refine⟨_,h.2,fun O u v L J=>?_⟩;obtain⟨⟨h0,h1⟩,h2⟩:=h.1 O;have hr:=hH k r hk;simp only[rep]at L J;subst J;obtain⟨F,ad,m,c,ag,cc,E,rfl,ai,aj,ab,_,ah,_⟩:=L;obtain⟨g,rfl,rfl⟩:=ab (by omega);refine⟨_,?_,fun w' _=>mS he g (a*S.sz k) (b-a) cc ik n h0 (by omega) w'⟩;simp only[rep];exact⟨F,g,m,c,E,by rw[<-h2,hr.sz,Nat.add_mul,Nat.add_zero]⟩
  ·exact h.elim
 ·rename_i cs off k n;split at h
  ·rename_i m s l ha;refine⟨_,h.2,fun O u v L J=>?_⟩;obtain⟨h0,h1⟩:=h.1 O;simp only[rep]at L J;subst J;obtain⟨b,o,rfl,hb,hc⟩:=L;refine⟨_,?_,fun w' _=>rV ha b (o+off) k n h0 h1 w'⟩;simp only[rep];exact⟨b,o,by rw[Nat.add_assoc],hb,hc⟩
  ·exact h.elim
 ·rename_i k j f ik n;split at h
  ·rename_i m s l ha;refine⟨_,h.2,fun O u v L J=>?_⟩;obtain⟨h0,h1⟩:=h.1 O;simp only[rep]at L J;subst J;obtain⟨F,g,n',c,E,rfl⟩:=L;refine⟨_,?_,fun w' _=>rV ha g _ ik n h0 h1 w'⟩;simp only[rep];exact⟨F,g,n',c,E,by rw[Nat.add_assoc]⟩
  ·exact h.elim
 ·exact h.elim
def oE{t:TypeId}(h:cL P t=true):∃e,P.underlying t=some (.slice e):=by
 unfold cL at h;split at h
 ·rename_i e u;exact⟨e,u⟩
 ·simp at h
def dX{t:TypeId}(h:dI P t=true):P.underlying t=some .string:=by
 unfold dI at h;split at h
 ·rename_i u;exact u
 ·simp at h
def Oc{t:TypeId}(h:Lo P t=true):∃e,P.underlying t=some (.pointer e):=by
 unfold Lo at h;split at h
 ·rename_i e u;exact⟨e,u⟩
 ·simp at h
def Kx{t:TypeId}(h:tO P t=true):P.underlying t=some .bool:=by
 unfold tO at h;split at h
 ·rename_i u;exact u
 ·simp at h
def AG{t ty:TypeId}{x:AV}(hH:oU S w H)(h:Bc P H t x K):
  ∃z,K z/\(gt G->∀u,rep S w x u->pC P S H w z (Builtin.len_ #[t] ty #[u])):=by
 unfold Bc at h;split at h
 ·rename_i es;split at h
  ·rename_i F;obtain⟨e,L⟩:=oE F;refine⟨_,h,fun _ u E=>?_⟩;simp only[rep]at E;obtain⟨ad,m,c,rfl,Z,_⟩:=E;refine⟨_,gM,fun w' _=>?_⟩;simp[Builtin.len_,run_underlying L,goInt,Z]
  ·exact h.elim
 ·rename_i k;split at h
  ·rename_i r hk;split at h
   ·rename_i F;obtain⟨e,L⟩:=oE F;refine⟨_,h,fun _ u E=>?_⟩;simp only[rep]at E;obtain⟨_,rfl,_,_,_,J⟩:=E;obtain⟨xs,ho,_⟩:=(hH k r hk).sl J;refine⟨_,gM,fun w' _=>?_⟩;rcases ho.2 with⟨M,O⟩|⟨g,cap,cur,M,_⟩
    ·simp[Builtin.len_,run_underlying L,goInt,M,O]
    ·simp[Builtin.len_,run_underlying L,goInt,M]
   ·exact h.elim
  ·exact h.elim
 ·split at h
  ·rename_i F;obtain⟨e,L⟩:=oE F;refine⟨_,h,fun _ u E=>?_⟩;simp only[rep]at E;obtain⟨_,ad,n,c,aa,cc,_,rfl,_⟩:=E;refine⟨_,gM,fun w' _=>?_⟩;simp[Builtin.len_,run_underlying L,goInt]
  ·exact h.elim
 ·rename_i s;split at h
  ·rename_i F;refine⟨_,h,fun _ u E=>?_⟩;simp only[rep]at E;subst E;refine⟨_,gM,fun w' _=>?_⟩;simp[Builtin.len_,run_underlying (dX F),goInt]
  ·exact h.elim
 ·exact h.elim
def BZ{x y:AV}{tys:Array TypeId}{ty:TypeId}(h:Ku x y K):
  ∃z,K z/\(gt G->∀u v,rep S w x u->rep S w y v->pC P S H w z (Builtin.max_ tys ty #[u,v])):=by
 unfold Ku at h;split at h
 ·refine⟨_,h,fun _ u v E F=>?_⟩;simp only[rep]at E F;subst E;subst F;exact⟨_,gM,fun w' _=>by simp[Builtin.max_,Builtin.max2,rY]⟩
 ·exact h.elim
def AZ{x y:AV}{tys:Array TypeId}{ty:TypeId}(h:JS x y K):
  ∃z,K z/\(gt G->∀u v,rep S w x u->rep S w y v->pC P S H w z (Builtin.min_ tys ty #[u,v])):=by
 unfold JS at h;split at h
 ·refine⟨_,h,fun _ u v E F=>?_⟩;simp only[rep]at E F;subst E;subst F;exact⟨_,gM,fun w' _=>by simp[Builtin.min_,Builtin.min2,O0]⟩
 ·exact h.elim
end
end Go.Aw
end
section
namespace Go.Aw
open Go.RowKit
section
variable{P:Program}{S:Sg}{H:aD}{w:World}{G:Option Bool}{K:AV->Prop}
def eP{z:AV}{e:Sem Value}{v:Value}(u:rep S w z v)(h:∀w',e.run P w'=.ok v w'):pC P S H w z e:=⟨v,u,fun w' _=>h w'⟩
def gX{t:TypeId}{c:Nat}(h:nW P t=some c):(c=0/\∃k,P.underlying t=some (.int k))\/(c=1/\P.underlying t=some .string)\/(c=2/\P.underlying t=some .bool):=by unfold nW at h;split at h <;> simp_all
def Ls{t:TypeId}{c:Nat}(h:nW P t=some c)(hi:(P.info? t).isSome=true):ldT P t=some none:=by obtain⟨i,hi⟩:=Option.isSome_iff_exists.1 hi;unfold ldT;rw[hi];rcases gX h with⟨_,k,hk⟩|⟨_,hk⟩|⟨_,hk⟩ <;> rw[hk]
def pR{t:TypeId}{c:Nat}{x y:AV}{u v:Value}{b:Bool}{d:Nat}(L:nW P t=some c)(h:rF c x y=some b)(F:rep S w x u)(J:rep S w y v)(w':World):
  (Op.equalIn (d+1) t u v).run P w'=.ok b w':=by
 unfold rF at h;split at h
 ·split at h
  ·simp only[rep]at F J;subst F J;rename_i M;subst M;simp at h;rcases gX L with⟨_,k',E⟩|⟨h0,_⟩|⟨h0,_⟩
   ·rw[run_equalIn_int w' d t _ k' _ _ E,h]
   ·simp at h0
   ·simp at h0
  ·simp at h
 ·simp only[rep]at F J;subst F J;rcases gX L with⟨h0,_⟩|⟨_,E⟩|⟨h0,_⟩
  ·simp at h0
  ·rw[run_equalIn_string w' d t _ _ E];injection h with h;rw[h]
  ·simp at h0
 ·simp only[rep]at F J;subst F J;rcases gX L with⟨h0,_⟩|⟨h0,_⟩|⟨_,E⟩
  ·simp at h0
  ·simp at h0
  ·rw[run_equalIn_bool' w' d t _ _ E];injection h with h;rw[h]
 ·simp at h
def nY:∀(fs:List Field) (l:List Nat) (xs ys:List AV) (o:Nat) (us vs pu pv:List Value) (b:Bool) (d:Nat),
  kU P o fs=some l->fT l xs ys=some b->aR S w xs us->aR S w ys vs->pu.length=o->pv.length=o->∀w':World,
  (Op.eqFields (d+1) (pu++us).toArray (pv++vs).toArray fs).run P w'=.ok b w'
 | [],l,xs,ys,o,us,vs,pu,pv,b,d,E,he,_,_,_,_,w'=>by simp only[kU]at E;injection E with E;subst E;cases xs <;> cases ys <;> simp[fT]at he;subst he;simp[Op.eqFields]
 | f::fs,l,xs,ys,o,us,vs,pu,pv,b,d,E,he,hx,hy,e1,e2,w'=>by
  simp only[kU]at E;split at E
  ·rename_i hc;simp only[Bool.and_eq_true,bne_iff_ne,ne_eq,beq_iff_eq]at hc;obtain⟨⟨hn,ho⟩,hi⟩:=hc;cases L:nW P f.type with
   | none=>simp[L]at E
   | some c=>
    cases hr:kU P (o+1) fs with
    | none=>simp[L,hr]at E
    | some l'=>
     simp[L,hr]at E;subst E;cases xs with
     | nil=>simp[fT]at he
     | cons x xs=>
      cases ys with
      | nil=>simp[fT]at he
      | cons y ys=>
       simp only[fT]at he;cases F:rF c x y with
       | none=>simp[F,I9]at he
       | some b1=>
        cases J:fT l' xs ys with
        | none=>simp[F,J,I9]at he
        | some b2=>
         simp[F,J,I9]at he;simp only[aR]at hx hy;obtain⟨u,O,rfl,hu,ab⟩:=hx;obtain⟨v,Z,rfl,hv,aa⟩:=hy;have M:=Ls L hi;have p1:∀w':World,(part f.type (pu++u::O).toArray f.offset).run P w'=.ok u w':=fun w'=>jI (w:=w') M (by rw[ho,<-e1];simp)
         have p2:∀w':World,(part f.type (pv++v::Z).toArray f.offset).run P w'=.ok v w':=fun w'=>jI (w:=w') M (by rw[ho,<-e2];simp)
         have q:=pR (d:=d) L F hu hv;have ih:=nY fs l' xs ys (o+1) O Z (pu++[u]) (pv++[v]) b2 d hr J ab aa (by simp[e1]) (by simp[e2]) w';simp only[List.append_assoc,List.singleton_append]at ih;simp only[Op.eqFields,hn,ne_eq,not_false_eq_true,if_true,Sem.run_bind,p1,p2,q,Result.andThen_ok,Sem.run_ite];subst he;cases b1
         ·simp
         ·simp only[Bool.not_true,Bool.false_eq_true,if_false,Bool.true_and];exact ih
  ·simp at E
def wD{e:TypeId}{c:Nat}(O:nW P e=some c)(hi:(P.info? e).isSome=true){d:Nat}:∀(m i:Nat) (xs ys:List AV) (us vs pu pv:List Value) (b:Bool),
   fT (List.replicate m c) xs ys=some b->aR S w xs us->aR S w ys vs->pu.length=i->pv.length=i->∀w':World,
   ((forIn (m := Sem) (List.range' i m) ((none, ()) : Option Bool × Unit) (fun i _ => do
         if !(<-Op.equalIn (d+1) e (<-part e (pu++us).toArray (i*1)) (<-part e (pv++vs).toArray (i*1)))then pure (ForInStep.done (some false,()))
         else pure (ForInStep.yield (none,())))).run P w').andThen (fun r w'=>Sem.run P (match r.1 with
       | some x=>pure x
       | none=>pure true:Sem Bool) w')=.ok b w'
 | 0,i,xs,ys,us,vs,pu,pv,b,he,_,_,_,_,w'=>by cases xs <;> cases ys <;> simp[fT]at he;subst he;simp
 | m+1,i,xs,ys,us,vs,pu,pv,b,he,hx,hy,e1,e2,w'=>by
   rw[List.replicate_succ]at he;cases xs with
   | nil=>simp[fT]at he
   | cons x xs=>
     cases ys with
     | nil=>simp[fT]at he
     | cons y ys=>
       simp only[fT]at he;cases E:rF c x y with
       | none=>simp[E,I9]at he
       | some b1=>
         cases F:fT (List.replicate m c) xs ys with
         | none=>simp[E,F,I9]at he
         | some b2=>
           simp[E,F,I9]at he;simp only[aR]at hx hy;obtain⟨u,L,rfl,hu,aa⟩:=hx;obtain⟨v,M,rfl,hv,Z⟩:=hy;have J:=Ls O hi;have p1:∀w':World,(part e (pu++u::L).toArray (i*1)).run P w'=.ok u w':=fun w'=>jI (w:=w') J (by rw[Nat.mul_one,<-e1];simp)
           have p2:∀w':World,(part e (pv++v::M).toArray (i*1)).run P w'=.ok v w':=fun w'=>jI (w:=w') J (by rw[Nat.mul_one,<-e2];simp)
           have q:=pR (d:=d) O E hu hv;have ih:=wD O hi (d:=d) m (i+1) xs ys L M (pu++[u]) (pv++[v]) b2 F aa Z (by simp[e1]) (by simp[e2]) w';simp only[List.append_assoc,List.singleton_append]at ih;simp only[List.range'_succ,List.forIn_cons,Sem.run_bind,p1,p2,q,Result.andThen_ok,Sem.run_ite,bind_assoc];subst he;cases b1
           . simp
           . simp only[Bool.not_true,Bool.false_eq_true,if_false,Bool.true_and,Sem.run_pure,Result.andThen_ok];exact ih
def xX{t:TypeId}{l:List Nat}(h:It P t=some l){xs J:List AV}{b:Bool}(O:fT l xs J=some b){us vs:List Value}
  (hx:aR S w xs us) (hy:aR S w J vs) (d:Nat) (w':World):(Op.equalIn (d+2) t (.agg us.toArray) (.agg vs.toArray)).run P w'=.ok b w':=by
 unfold It at h;split at h
 ·rename_i fs E;split at h
  ·rename_i F;have Z:P.fieldsOf t=fs:=by unfold Program.fieldsOf;rw[E]
   rw[run_equalIn_struct w' (d+1) t _ _ (by rw[Z];exact E) F.1,Z];simpa using nY fs.toList l xs J 0 us vs [] [] b d h O hx hy rfl rfl w'
  ·simp at h
 ·rename_i n e E;split at h
  ·rename_i F;cases L:nW P e with
   | none=>simp[L]at h
   | some c=>
    simp[L]at h;subst h;cases hi:P.info? e with
    | none=>simp[hi]at F
    | some i=>
     have M:i.size=1:=by simpa[hi]using F.1
     have u:=wD (P:=P) (S:=S) (w:=w) L (by simp[hi]) (d:=d) n 0 xs J us vs [] [] b O hx hy rfl rfl w';simp only[List.nil_append]at u;rw[Op.equalIn];simp only[Sem.run_bind,run_underlying E,Result.andThen_ok,sizeOf,typeInfo,run_program,hi,Sem.run_pure,M];rw[Std.Legacy.Range.forIn_eq_forIn_range'];simp only[Std.Legacy.Range.size,Nat.sub_zero,Nat.add_one_sub_one,Nat.div_one];have e:∀(r:Result (Option Bool×Unit)) (f g:Option Bool×Unit->World->Result Bool),(∀a w,f a w=g a w)->r.andThen f=r.andThen g:=fun r f g h=>by cases r <;> simp[Result.andThen,h]
     exact(e _ _ _ (fun a w=>by rcases a with⟨a,_⟩;cases a <;> rfl)).trans u
  ·simp at h
 ·simp at h
def eO(op:BinOp)(t:TypeId)(x y:Operand)(a b:Value)(h1:a≠.nilIface)(u:∀cs,a≠.agg cs)(w':World):(eqGuard op t x y a b).run P w'=.ok () w':=by cases op <;> simp only[eqGuard] <;> (try rfl) <;> cases a <;> first|rfl|(exact absurd rfl h1)|(exact absurd rfl (u _))
def J8{t:TypeId}{l:List Nat}(h:It P t=some l):P.eqGuardType P.depth t=false:=by
 unfold It at h;split at h
 ·split at h
  ·rename_i u;exact u.2
  ·simp at h
 ·split at h
  ·rename_i u;exact u.2
  ·simp at h
 ·simp at h
def JO{op:BinOp}{t:TypeId}{x y:AV}(h:eX P G op t x y K):
   ∃z,K z/\(gt G->∀u v,rep S w x u->rep S w y v->∀L J,pC P S H w z (do eqGuard op t L J u v;binOp op t u v)):=by
 unfold eX at h;split at h
 . rename_i k a k' b;split at h
   . rename_i ab;refine⟨_,h.2,fun O u v E F L J=>?_⟩;have M:=h.1 O;simp only[rep]at E F;subst E F;refine eP gM fun w'=>?_
     simp only[Sem.run_bind,eO op t L J (.int k a) (.int k' b) (by simp) (by simp) w',Result.andThen_ok];have ac:¬b<0:=by omega
     cases op <;> simp only[rE,Bool.false_eq_true]at ab <;> simp[binOp,Op.shift,ac,shV]
   split at h
   . rename_i hk;subst hk;have base:∀(z:Value),(∀w',(binOp op t (.int k a) (.int k b)).run P w'=.ok z w')->∀u v,rep S w (.v (.int k a)) u->rep S w (.v (.int k b)) v->∀L J,pC P S H w (.v z) (do eqGuard op t L J u v;binOp op t u v):=by
       intro z hz u v E F L J;simp only[rep]at E F;subst E F;refine eP gM fun w'=>?_
       simp only[Sem.run_bind,eO op t L J (.int k a) (.int k b) (by simp) (by simp) w',Result.andThen_ok,hz]
     cases op <;> simp only at h <;> first
       | exact h.elim
       | (refine ⟨_, h, fun _ => base _ (fun w' => ?_)⟩
          first
            | (simp[binOp,Op.intArith,Op.intCmp];done)
            | (simp[binOp];rfl))
       | exact⟨_,h.2,fun O=>base _ (fun w'=>by simp[binOp,Op.intDiv,h.1 O])⟩
   . exact h.elim
 . rename_i a b;have base:∀(z:Value),(∀w',(binOp op t (.string a) (.string b)).run P w'=.ok z w')->∀u v,rep S w (.v (.string a)) u->rep S w (.v (.string b)) v->∀L J,pC P S H w (.v z) (do eqGuard op t L J u v;binOp op t u v):=by
     intro z hz u v E F L J;simp only[rep]at E F;subst E F;refine eP gM fun w'=>?_
     simp only[Sem.run_bind,eO op t L J (.string a) (.string b) (by simp) (by simp) w',Result.andThen_ok,hz]
   cases op <;> simp only at h <;> first
     | exact h.elim
     | exact⟨_,h,fun _=>base _ (fun w'=>by simp[binOp,Op.stringOp])⟩
     | exact ⟨_, h.2, fun O => base _ (fun w' => by
         have:=h.1 O;have h2:¬((a.size+b.size:Nat):Int)>IntKind.i64.max:=by omega
         simp only[binOp,Op.stringOp];rw[if_neg h2];rfl)⟩
 . rename_i a b;split at h
   . rename_i M;have Z:=Kx M;cases op <;> simp only at h <;> first
       | exact h.elim
       | (refine ⟨_, h, fun _ u v E F L J => ?_⟩
          simp only[rep]at E F;subst E F;refine eP gM fun w'=>?_
          simp only[Sem.run_bind,eO _ t L J (.bool a) (.bool b) (by simp) (by simp) w',Result.andThen_ok];simp[binOp,run_equal_bool w' t a b Z])
   . exact h.elim
 . rename_i xs ys;split at h
   . rename_i l hl;split at h
     . rename_i b M;cases op <;> simp only at h <;> first
         | exact h.elim
         | (refine ⟨_, h, fun _ u v E F L J => ?_⟩
            simp only[rep]at E F;obtain⟨us,rfl,ae,_⟩:=E;obtain⟨vs,rfl,aa,_⟩:=F;refine eP gM fun w'=>?_
            have q:=xX hl M ae aa 9998 w';simp only[Sem.run_bind,run_eqGuard_agg _ _ _ _ _ _ _ (J8 hl),Result.andThen_ok]
            first
              | (rw[run_eql_struct,q];rfl)
              | (rw[run_neq_struct,q];rfl))
     . exact h.elim
   . exact h.elim
 . skip
   split at h
   . rename_i b M;split at h
     . rename_i hp;obtain⟨e,Z⟩:=Oc hp;have hq:∀u,rep S w x u->∃a,u=.pointer a/\a.isNone=b:=by
         intro u E;unfold Kt at M;split at M
         . simp only[rep]at E;exact⟨_,E,by simpa using M⟩
         . simp only[rep]at E;obtain⟨g,o,e,_⟩:=E;exact⟨_,e,by simpa using M⟩
         . simp only[rep]at E;obtain⟨_,g,n,c,_,e⟩:=E;exact⟨_,e,by simpa using M⟩
         . cases M
       have he:∀(a:Option Addr) w',(Op.equal t (.pointer a) (.pointer none)).run P w'=.ok a.isNone w':=by intro a w';have e0:Op.equal t (.pointer a) (.pointer none)=Op.equalIn (9999+1) t (.pointer a) (.pointer none):=rfl;rw[e0];unfold Op.equalIn;cases a <;> simp[run_underlying Z]
       cases op <;> simp only at h <;> first
         | exact h.elim
         | (refine ⟨_, h, fun _ u v E F L J => ?_⟩
            obtain⟨a,rfl,rfl⟩:=hq u E;simp only[rep]at F;subst F;refine eP gM fun w'=>?_
            simp only[Sem.run_bind,eO _ t L J (.pointer a) (.pointer none) (by simp) (by simp) w',Result.andThen_ok];simp[binOp,he])
     . exact h.elim
   . exact⟨_,h.2,fun O=>(h.1 O).elim⟩
 . exact⟨_,h.2,fun O=>(h.1 O).elim⟩
end
end Go.Aw
end
