import Derived.StillTail
import Derived.WalkKit
import Derived.Deep.Quiet
import Derived.Deep.QuietTactic
import Derived.Maps.AppendAt
import Derived.Laws.BytesArg
set_option linter.unusedSimpArgs false
set_option linter.unusedVariables false
set_option linter.defProp false
set_option maxRecDepth 100000
section
namespace Go.Aw
open Go.RowKit
inductive AV where
 | v (x:Value)
 | any
 | sl (es:List (List AV))
 | rp (cs:List AV) (off:Nat)
 | agg (cs:List AV)
 | tup (vs:List AV)
 | os (k:Nat)
 | op (k i f:Nat)
 | gd (g:Bool) (x:AV)
 | fn (f:FuncId) (cap:List AV)
 | oz (k a b:Nat)
 | nf (x:AV)
 | om (k:Nat)
 | cl (es:List (List AV))
 deriving Inhabited
structure Row where
 e:TypeId
 sz:Nat
 es:List (List AV)
abbrev Env:=Nat->AV
abbrev aM:=Nat->Option Row
inductive Ex where
 | normal
 | exit (id:Nat)
 | ret
def upd(ρ:Env)(d:Option Nat)(x:AV):Env:=
 match d with
 | some d=>fun t=>if t=d then x else ρ t
 | none=>ρ
def aI(H:aM)(k:Nat)(r:Option Row):aM:=fun j=>if j=k then r else H j
def aAa(ρ:Env)(d:Nat)(x:AV)(t:Nat):upd ρ (some d) x t=if t=d then x else ρ t:=rfl
def ajT(ρ:Env)(x:AV):upd ρ none x=ρ:=rfl
theorem aB(H:aM)(k:Nat)(r:Option Row):aI H k r k=r:=by simp[aI]
theorem aF(H:aM)(k:Nat)(r:Option Row)(j:Nat)(h:j≠k):aI H k r j=H j:=by simp[aI,h]
def ldT(P:Program)(t:TypeId):Option (Option Nat):=
 match P.underlying t,P.info? t with
 | some (.struct _),some i=>some (some i.size)
 | some (.array _ _),some i=>some (some i.size)
 | some _,some _=>some none
 | _,_=>none
def aR(P:Program)(t:TypeId)(f:Nat):Option (Nat×Option Nat):=
 match P.underlying t with
 | some (.struct fs)=>match fs[f]? with
   | some fd=>match P.info? fd.type with
     | some i=>if i.size=0 then none else(ldT P fd.type).map fun l=>(fd.offset,l)
     | none=>none
   | none=>none
 | _=>none
def cK(P:Program)(t:TypeId):Option (TypeId×Nat×Nat):=
 match P.underlying t with
 | some (.slice e)=>match P.info? e with
   | some i=>if i.size=0\/i.bytes=0\/i.zero.map (·.cells.size)≠some i.size then none else some (e,i.size,i.bytes)
   | none=>none
 | _=>none
def HA(P:Program)(t:TypeId):Option (Nat×Nat×Option Nat):=
 match P.underlying t with
 | some (.array n e)=>match P.info? e with
   | some i=>if i.size=0 then none else(ldT P e).map fun l=>(n,i.size,l)
   | none=>none
 | _=>none
def uT:Value->AV
 | .slice none 0 0=>.sl []
 | x=>.v x
def dX(P:Program)(t:TypeId):Option (List AV):=
 match P.info? t with
 | some i=>match i.zero with
   | some z=>if z.cells.size=i.size/\i.size≠0/\z.cells.toList.all (·.oneCell')=true then some (z.cells.toList.map uT)else none
   | none=>none
 | none=>none
def Qd(P:Program):Nat->TypeId->Nat->List (Nat×TypeId×Nat)
 | 0,_,_=>[]
 | n+1,t,o=>match P.underlying t with
   | some (.slice _)=>match cK P t with
     | some (e,sz,_)=>[(o,e,sz)]
     | none=>[]
   | some (.struct fs)=>fs.toList.flatMap fun f=>Qd P n f.type (o+f.offset)
   | some (.array m e)=>(List.range m).flatMap fun j=>Qd P n e (o+j*((P.info? e).map (·.size)).getD 0)
   | _=>[]
def anJ:Option Value->Bool
 | some (.slice none 0 0)=>true
 | _=>false
def uG(P:Program)(t:TypeId):Option (List (Nat×TypeId×Nat)):=
 match P.info? t with
 | some i=>match i.zero with
   | some z=>if(Qd P 8 t 0).all (fun x=>anJ z.cells.toList[x.1]?&&decide (0<x.2.2))=true then some (Qd P 8 t 0)else none
   | none=>none
 | none=>none
def eH(P:Program)(t:TypeId):Option (List (Nat×Nat)):=
 match P.underlying t with
 | some (.struct fs)=>fs.toList.mapM fun f=>(P.info? f.type).map fun i=>(f.offset,i.size)
 | some (.array n e)=>(P.info? e).map fun i=>(List.range n).map fun j=>(j*i.size,i.size)
 | _=>none
def fW(P:Program)(t:TypeId):Bool:=match P.underlying t with|some .string=>true|_=>false
def cR(P:Program)(t:TypeId):Bool:=match P.underlying t with|some (.slice _)=>true|_=>false
def D6(P:Program)(t:TypeId):Bool:=match P.underlying t with|some .bool=>true|_=>false
def WP(P:Program)(t:TypeId):Bool:=match P.underlying t with|some (.pointer _)=>true|_=>false
def YF:AV->Option Bool
 | .v (.pointer none)=>some true
 | .rp ..=>some false
 | .op ..=>some false
 | _=>none
def aev(ρ:Env):Operand->AV
 | .tmp t=>ρ t
 | .const v=>uT v
 | .global _=>.any
 | .func f=>.v (.func (.func f) #[] #[])
def Q5(ρ:Env):Operand->AV
 | .const v=>.v v
 | x=>aev ρ x
def gt:Option Bool->Prop
 | none=>True
 | some b=>b=true
def gok:Option Bool->Bool->Prop
 | none,g=>g=true
 | some b,g=>b=true->g=true
def wr:Option Bool->AV->AV
 | none,x=>x
 | some b,x=>.gd b x
def cE(G:Option Bool)(x:AV)(k:AV->Prop):Prop:=
 match x with
 | .gd g y=>gok G g/\k y
 | x=>k x
def pT(x:AV)(K:List AV->Prop):Prop:=
 match x with
 | .agg cs=>K cs
 | .v y=>y.oneCell'=true/\K [.v y]
 | .sl es=>K [.sl es]
 | .rp cs o=>K [.rp cs o]
 | .os k=>K [.os k]
 | .op k i f=>K [.op k i f]
 | _=>False
def yR(P:Program)(t:TypeId):Option Nat:=match P.underlying t with|some (.int _)=>some 0|some .string=>some 1|some .bool=>some 2|_=>none
def Dj(c:Nat)(x y:AV):Option Bool:=
 match c,x,y with
 | 0,.v (.int k a),.v (.int k' b)=>if k=k' then some (a == b)else none
 | 1,.v (.string a),.v (.string b)=>some (a.toList == b.toList)
 | 2,.v (.bool a),.v (.bool b)=>some (a == b)
 | _,_,_=>none
def Sa:Option Bool->Option Bool->Option Bool
 | some a,some b=>some (a&&b)
 | _,_=>none
def lA:List Nat->List AV->List AV->Option Bool
 | [],[],[]=>some true
 | c::l,x::r,y::s=>Sa (Dj c x y) (lA l r s)
 | _,_,_=>none
def sY(P:Program):Nat->List Field->Option (List Nat)
 | _,[]=>some []
 | o,f::r=>if f.name != "_" && f.offset == o&&(P.info? f.type).isSome then match yR P f.type,sY P (o+1) r with
   | some c,some l=>some (c::l)
   | _,_=>none
   else none
def En(P:Program)(t:TypeId):Option (List Nat):=
 match P.underlying t with
 | some (.struct fs)=>if P.stoodInHeld t=false/\P.eqGuardType P.depth t=false then sY P 0 fs.toList else none
 | some (.array n e)=>if(P.info? e).map (·.size)=some 1/\P.eqGuardType P.depth t=false then(yR P e).map (List.replicate n)else none
 | _=>none
def Eg:BinOp->Bool
 | .shl=>true
 | .shr=>true
 | _=>false
def shV(op:BinOp)(k:IntKind)(a b:Int):Int:=match op with
 | .shl=>k.wrap (a*2^min b.toNat k.bits)
 | _=>a.fdiv (2^min b.toNat k.bits)
def vY(op:BinOp)(k:IntKind)(a b:Int):Int:=match op with
 | .and=>k.wrap ((BitVec.ofInt k.bits a &&& BitVec.ofInt k.bits b).toNat:Nat)
 | .or=>k.wrap ((BitVec.ofInt k.bits a ||| BitVec.ofInt k.bits b).toNat:Nat)
 | .xor=>k.wrap ((BitVec.ofInt k.bits a ^^^ BitVec.ofInt k.bits b).toNat:Nat)
 | _=>k.wrap ((BitVec.ofInt k.bits a &&& ~~~(BitVec.ofInt k.bits b)).toNat:Nat)
def kV(P:Program)(G:Option Bool)(op:BinOp)(t:TypeId)(x y:AV)(K:AV->Prop):Prop:=
 match x,y with
 | .v (.int k a),.v (.int k' b)=>
   if Eg op=true then(gt G->0<=b)/\K (.v (.int k (shV op k a b)))
   else if k=k' then
     match op with
     | .and=>K (.v (.int k (vY .and k a b)))
     | .or=>K (.v (.int k (vY .or k a b)))
     | .xor=>K (.v (.int k (vY .xor k a b)))
     | .andNot=>K (.v (.int k (vY .andNot k a b)))
     | .add=>K (.v (.int k (k.wrap (a+b))))
     | .sub=>K (.v (.int k (k.wrap (a-b))))
     | .mul=>K (.v (.int k (k.wrap (a*b))))
     | .quo=>(gt G->b≠0)/\K (.v (.int k (k.wrap (a.tdiv b))))
     | .rem=>(gt G->b≠0)/\K (.v (.int k (a.tmod b)))
     | .eql=>K (.v (.bool (a == b)))
     | .neq=>K (.v (.bool (a != b)))
     | .lss=>K (.v (.bool (decide (a<b))))
     | .leq=>K (.v (.bool (decide (a<=b))))
     | .gtr=>K (.v (.bool (decide (a>b))))
     | .geq=>K (.v (.bool (decide (a>=b))))
     | _=>False
   else False
 | .v (.string a),.v (.string b)=>
   match op with
   | .add=>(gt G->((a.size+b.size:Nat):Int)<=IntKind.i64.max)/\K (.v (.string (a++b)))
   | .eql=>K (.v (.bool (a.toList == b.toList)))
   | .neq=>K (.v (.bool !(a.toList == b.toList)))
   | .lss=>K (.v (.bool (Op.bytesLess a.toList b.toList)))
   | _=>False
 | .v (.bool a),.v (.bool b)=>
   if D6 P t then
     match op with
     | .eql=>K (.v (.bool (a == b)))
     | .neq=>K (.v (.bool !(a == b)))
     | _=>False
   else False
 | .agg xs,.agg ys=>match En P t with
   | some l=>match lA l xs ys with
     | some b=>match op with
       | .eql=>K (.v (.bool b))
       | .neq=>K (.v (.bool !b))
       | _=>False
     | none=>False
   | none=>False
 | x,.v (.pointer none)=>match YF x with
   | some b => if WP P t then
       match op with
       | .eql=>K (.v (.bool b))
       | .neq=>K (.v (.bool !b))
       | _=>False
     else False
   | none=>(gt G->False)/\K .any
 | _,_=>(gt G->False)/\K .any
def Xa(P:Program)(t:TypeId):Option (TypeId×TypeId):=match P.underlying t with|some (.map k e)=>some (k,e)|_=>none
def NS(P:Program)(t:TypeId):Option AV:=
 match P.info? t with
 | some i=>match i.zero with
   | some (.agg cs)=>if cs.toList.all (·.oneCell')=true then some (.agg (cs.toList.map uT))else none
   | some v=>if v.oneCell'=true then some (uT v)else none
   | none=>none
 | none=>none
def AT(P:Program)(kt:TypeId)(x y:AV):Option Bool:=
 match x,y with
 | .v a,.v b=>match yR P kt with
   | some c=>Dj c (.v a) (.v b)
   | none=>none
 | _,_=>none
def uU(P:Program)(kt:TypeId):AV->Bool
 | .v (.int _ _)=>yR P kt == some 0
 | .v (.string _)=>yR P kt == some 1
 | .v (.bool _)=>yR P kt == some 2
 | _=>false
def yH(eq:AV->Option Bool):List (List AV)->Nat->Option (Option Nat)
 | [],_=>some none
 | e::r,i=>match eq (e.getD 0 .any)with
   | some true=>some (some i)
   | some false=>yH eq r (i+1)
   | none=>none
def Qs(ok:Bool)(z:AV)(es:List (List AV))(oi:Option Nat):AV:=
 match oi with
 | some i=>if ok=true then .tup [(es.getD i []).getD 1 .any,.v (.bool true)]else(es.getD i []).getD 1 .any
 | none=>if ok=true then .tup [z,.v (.bool false)]else z
def ahN(es:List (List AV))(oi:Option Nat)(k v:AV):List (List AV):=
 match oi with
 | some i=>es.set i [k,v]
 | none=>es++[[k,v]]
def Ij(P:Program)(H:aM)(t:TypeId)(x key:AV)(K:Nat->Row->TypeId×TypeId->Option Nat->Prop):Prop:=
 match x with
 | .om j=>match H j,Xa P t with
   | some r,some kt=>match yH (AT P kt.1 key) r.es 0 with
     | some oi=>uU P kt.1 key=true/\K j r kt oi
     | none=>False
   | _,_=>False
 | _=>False
def zB(P:Program)(H:aM)(t:TypeId)(x key:AV)(ok:Bool)(K:AV->Prop):Prop:=
 Ij P H t x key fun _ r kt oi=>match NS P kt.2 with
   | some z=>K (Qs ok z r.es oi)
   | none=>False
def yN(c:Bool):AV->AV->AV
 | .v (.bool true),.v (.bool b)=>.v (.bool (c||b))
 | .v (.bool a),.v (.bool false)=>.v (.bool (c&&a))
 | .v (.bool a),.v (.bool b)=>.v (.bool (bif c then a else b))
 | x,y=>bif c then x else y
def EC(G:Option Bool)(c:Bool)(x y:AV)(K:AV->Prop):Prop:=
 match x,y with
 | .gd g x,.gd g' y=>(gt G->c=true->g=true)/\(gt G->c=false->g'=true)/\K (yN c x y)
 | .gd g x,y=>(gt G->c=true->g=true)/\K (yN c x y)
 | x,.gd g' y=>(gt G->c=false->g'=true)/\K (yN c x y)
 | x,y=>K (yN c x y)
def sM(G:Option Bool)(H:aM)(l:Option Nat)(x:AV)(K:AV->Prop):Prop:=
 match x with
 | .rp cs off=>match l with
   | none=>(gt G->off<cs.length)/\K (cs.getD off .any)
   | some n=>(gt G->off+n<=cs.length)/\K (.agg ((cs.drop off).take n))
 | .op k i f=>match H k with
   | some r=>match l with
     | none=>(gt G->i<r.es.length/\f<r.sz)/\K ((r.es.getD i []).getD f .any)
     | some n=>(gt G->i<r.es.length/\f+n<=r.sz)/\K (.agg (((r.es.getD i []).drop f).take n))
   | none=>False
 | _=>False
def apart(G:Option Bool)(off:Nat)(l:Option Nat)(x:AV)(K:AV->Prop):Prop:=
 match x with
 | .agg cs=>match l with
   | none=>(gt G->off<cs.length)/\K (cs.getD off .any)
   | some n=>(gt G->off+n<=cs.length)/\K (.agg ((cs.drop off).take n))
 | _=>False
def LJ(P:Program)(H:aM)(t:TypeId)(x:AV)(K:AV->Prop):Prop:=
 match x with
 | .sl es=>if cR P t then K (.v (.int .i64 es.length))else False
 | .os k=>match H k with
   | some r=>if cR P t then K (.v (.int .i64 r.es.length))else False
   | none=>False
 | .oz _ a b=>if cR P t then K (.v (.int .i64 (b-a:Nat)))else False
 | .v (.string s)=>if fW P t then K (.v (.int .i64 s.size))else False
 | _=>False
def fX(a b:Int):Int:=if b>a then b else a
def aAg(a b:Int):Int:=if b<a then b else a
def YL(x y:AV)(K:AV->Prop):Prop:=
 match x,y with
 | .v (.int k a),.v (.int _ b)=>K (.v (.int k (fX a b)))
 | _,_=>False
def Xn(x y:AV)(K:AV->Prop):Prop:=
 match x,y with
 | .v (.int k a),.v (.int _ b)=>K (.v (.int k (aAg a b)))
 | _,_=>False
def gL(P:Program)(G:Option Bool)(H:aM)(t:TypeId)(x i:AV)(K:AV->Prop):Prop:=
 match x,i with
 | .sl es,.v (.int _ n)=>match cK P t with
   | some (_,sz,_)=>(gt G->(0<=n/\n<es.length)/\(es.getD n.toNat []).length=sz)/\K (.rp (es.getD n.toNat []) 0)
   | none=>False
 | .os k,.v (.int _ n)=>match H k,cK P t with
   | some r,some (_,sz,_)=>(gt G->(0<=n/\n<r.es.length)/\r.sz=sz)/\K (.op k n.toNat 0)
   | _,_=>False
 | .oz k a b,.v (.int _ n)=>match H k,cK P t with
   | some r,some (_,sz,_)=>(gt G->(0<=n/\n<(b-a:Nat))/\r.sz=sz)/\K (.op k (a+n.toNat) 0)
   | _,_=>False
 | .rp cs off,.v (.int _ n)=>match HA P t with
   | some (m,s,_)=>(gt G->0<=n/\n<m)/\K (.rp cs (off+n.toNat*s))
   | none=>False
 | .op k j f,.v (.int _ n)=>match HA P t with
   | some (m,s,_)=>(gt G->0<=n/\n<m)/\K (.op k j (f+n.toNat*s))
   | none=>False
 | _,_=>False
def lU(P:Program)(t:TypeId)(f:Nat)(x:AV)(K:AV->Prop):Prop:=
 match x with
 | .rp cs off=>match aR P t f with
   | some (o,_)=>K (.rp cs (off+o))
   | none=>False
 | .op k i g=>match aR P t f with
   | some (o,_)=>K (.op k i (g+o))
   | none=>False
 | _=>False
def xU(places:List (Nat×Nat)):List AV->List (Nat×List AV)->Option (List AV)
 | cs,[]=>some cs
 | cs,(i,x)::rest=>match places[i]? with
   | some (off,n)=>if x.length=n/\off+n<=cs.length then xU places (cs.take off++x++cs.drop (off+n)) rest else none
   | none=>none
def tV(G:Option Bool)(ρ:Env):List (Nat×Operand)->(List (Nat×List AV)->Prop)->Prop
 | [],K=>K []
 | (i,x)::rest,K=>cE G (aev ρ x) fun y=>pT y fun cs=>tV G ρ rest fun l=>K ((i,cs)::l)
def Ek(G:Option Bool)(ρ:Env):List Operand->(List AV->Prop)->Prop
 | [],K=>K []
 | x::rest,K=>cE G (aev ρ x) fun y=>Ek G ρ rest fun l=>K (y::l)
def Cw(P:Program)(t:TypeId)(parts:List (Nat×List AV))(K:AV->Prop):Prop:=
 match dX P t,eH P t with
 | some z,some pl=>match xU pl z parts with
   | some cs=>K (.agg cs)
   | none=>False
 | _,_=>False
def Qb:Nat->Nat->List Nat
 | _,0=>[]
 | i,n+1=>i::Qb (i+1) n
def cT(n:Nat):List (List AV)->Prop
 | []=>True
 | cs::r=>cs.length=n/\cT n r
def pV(P:Program)(G:Option Bool)(t:TypeId)(x:AV)(lo hi:Option AV)(K:AV->Prop):Prop:=
 match x,lo,hi with
 | .sl es,some (.v (.int _ a)),some (.v (.int _ b))=>match cK P t with
   | some (_,sz,_)=>(gt G->(0<=a/\a<=b/\b<=es.length)/\cT sz es)/\K (.sl ((es.take b.toNat).drop a.toNat))
   | none=>False
 | .sl es,some (.v (.int _ a)),none=>match cK P t with
   | some (_,sz,_)=>(gt G->(0<=a/\a<=es.length)/\cT sz es)/\K (.sl (es.drop a.toNat))
   | none=>False
 | .sl es,none,some (.v (.int _ b))=>match cK P t with
   | some _=>(gt G->0<=b/\b<=es.length)/\K (.sl (es.take b.toNat))
   | none=>False
 | .v (.string s),some (.v (.int _ a)),some (.v (.int _ b))=>
   if fW P t then(gt G->0<=a/\a<=b/\b<=s.size)/\K (.v (.string (s.extract a.toNat b.toNat)))else False
 | .v (.string s),some (.v (.int _ a)),none=>
   if fW P t then(gt G->0<=a/\a<=s.size)/\K (.v (.string (s.extract a.toNat s.size)))else False
 | .v (.string s),none,some (.v (.int _ b))=>
   if fW P t then(gt G->0<=b/\b<=s.size)/\K (.v (.string (s.extract 0 b.toNat)))else False
 | _,_,_=>False
def asl(P:Program)(G:Option Bool)(H:aM)(t:TypeId)(x:AV)(lo hi:Option AV)(K:AV->Prop):Prop:=
 match x with
 | .os k=>match H k,cK P t with
   | some r,some (_,sz,_)=>match lo,hi with
     | some (.v (.int _ a)),some (.v (.int _ b))=>(gt G->(0<=a/\a<=b/\b<=r.es.length)/\r.sz=sz)/\K (.oz k a.toNat b.toNat)
     | some (.v (.int _ a)),none=>(gt G->(0<=a/\a<=r.es.length)/\r.sz=sz)/\K (.oz k a.toNat r.es.length)
     | none,some (.v (.int _ b))=>(gt G->(0<=b/\b<=r.es.length)/\r.sz=sz)/\K (.oz k 0 b.toNat)
     | _,_=>False
   | _,_=>False
 | .oz k a b=>match H k,cK P t with
   | some r,some (_,sz,_)=>match lo,hi with
     | some (.v (.int _ l)),none=>(gt G->(0<=l/\l<=(b-a:Nat))/\r.sz=sz)/\K (.oz k (a+l.toNat) b)
     | _,_=>False
   | _,_=>False
 | x=>pV P G t x lo hi K
def Ie(P:Program)(G:Option Bool)(t:TypeId)(x a b:AV)(K:AV->Prop):Prop:=
 match x,a,b with
 | .sl es,.v (.int _ a),.v (.int _ b)=>match cK P t with
   | some _=>(gt G->a=es.length/\b=es.length)/\K (.cl es)
   | none=>False
 | _,_,_=>False
def Bc(P:Program)(G:Option Bool)(t:TypeId)(x i:AV)(K:AV->Prop):Prop:=
 match x,i with
 | .v (.string s),.v (.int _ n)=>
   if fW P t then(gt G->0<=n/\n<s.size)/\K (.v (.int .u8 ((s.data.getD n.toNat 0).toNat:Int)))else False
 | .agg cs,.v (.int _ n)=>match HA P t with
   | some (m,s,l)=>(gt G->0<=n/\n<m)/\apart G (n.toNat*s) l (.agg cs) K
   | none=>False
 | _,_=>False
def aun(op:UnOp)(x:AV)(K:AV->Prop):Prop:=
 match op,x with
 | .not,.v (.bool b)=>K (.v (.bool !b))
 | .neg,.v (.int k n)=>K (.v (.int k (k.wrap (0-n))))
 | _,_=>False
def wZ:List (List AV)->Option (List Int)
 | []=>some []
 | [.v (.int .u8 n)]::r=>(wZ r).map (n::·)
 | _=>none
def Lo(P:Program)(t:TypeId):Bool:=
 match P.underlying t with
 | some (.slice e)=>match P.underlying e with
   | some (.int .u8)=>true
   | _=>false
 | _=>false
def Ms(P:Program)(t:TypeId):Option IntKind:=match P.underlying t with|some (.int k)=>some k|_=>none
def Dr(P:Program)(src dst:TypeId)(x:AV)(K:AV->Prop):Prop:=
 match x with
 | .v (.int _ n)=>match Ms P dst,Ms P src with
   | some k,some _=>K (.v (.int k (k.wrap n)))
   | _,_=>False
 | .v (.string s)=>if fW P src/\fW P dst then K (.v (.string s))else False
 | .sl es => if Lo P src /\ fW P dst then
     match wZ es with
     | some ns=>K (.v (.string (strOfNums ns)))
     | none=>False
   else False
 | _=>False
def yC:Operand->Bool
 | .const (.slice none 0 0)=>true
 | _=>false
def vC(op:BinOp)(x:AV)(K:AV->Prop):Prop:=
 match op,x with
 | .eql,.sl es=>(es=[]->K (.v (.bool true)))/\K (.v (.bool false))
 | .neq,.sl es=>(es=[]->K (.v (.bool false)))/\K (.v (.bool true))
 | .eql,.os _=>K (.v (.bool true))/\K (.v (.bool false))
 | .neq,.os _=>K (.v (.bool false))/\K (.v (.bool true))
 | .eql,.v (.slice none 0 0)=>K (.v (.bool true))
 | .neq,.v (.slice none 0 0)=>K (.v (.bool false))
 | _,_=>False
def jV(P:Program)(G:Option Bool)(ρ:Env)(H:aM)(op:Op)(K:AV->Prop):Prop:=
 match op with
 | .move x| .assign x=>cE G (aev ρ x) K
 | .pick c a b=>cE G (aev ρ c) fun
   | .v (.bool c)=>EC G c (aev ρ a) (aev ρ b) K
   | _=>False
 | .build t parts=>tV G ρ parts.toList fun l=>Cw P t l K
 | .load t a=>match ldT P t with
   | some l=>cE G (aev ρ a) fun a=>sM G H l a K
   | none=>False
 | .nilCheck x=>cE G (aev ρ x) fun
   | .rp cs off=>K (.rp cs off)
   | .op k i f=>K (.op k i f)
   | .v (.pointer none)=>(gt G->False)/\∃cs off,K (.rp cs off)
   | _=>False
 | .binOp op t x y _=>if yC y=true then cE G (aev ρ x) fun x=>cR P t=true/\vC op x K else cE G (aev ρ x) fun x=>cE G (aev ρ y) fun y=>kV P G op t x y K
 | .unOp op _ x=>cE G (aev ρ x) fun x=>aun op x K
 | .convert src dst x=>cE G (aev ρ x) fun x=>Dr P src dst x K
 | .slice t x lo hi none=>cE G (aev ρ x) fun x=>match lo,hi with
   | some lo,some hi=>cE G (aev ρ lo) fun lo=>cE G (aev ρ hi) fun hi=>asl P G H t x (some lo) (some hi) K
   | some lo,none=>cE G (aev ρ lo) fun lo=>asl P G H t x (some lo) none K
   | none,some hi=>cE G (aev ρ hi) fun hi=>asl P G H t x none (some hi) K
   | none,none=>False
 | .slice t x none (some hi) (some m)=>cE G (aev ρ x) fun x=>cE G (aev ρ hi) fun hi=>cE G (aev ρ m) fun m=>Ie P G t x hi m K
 | .fieldAddr t x f=>cE G (aev ρ x) fun x=>lU P t f x K
 | .field t x f=>match aR P t f with
   | some (o,l)=>cE G (aev ρ x) fun x=>apart G o l x K
   | none=>False
 | .indexAddr t x i=>cE G (aev ρ x) fun x=>cE G (aev ρ i) fun i=>gL P G H t x i K
 | .index t x i=>cE G (aev ρ x) fun x=>cE G (aev ρ i) fun i=>Bc P G t x i K
 | .extract x i=>cE G (aev ρ x) fun
   | .tup vs=>(gt G->i<vs.length)/\K (vs.getD i .any)
   | _=>False
 | .lookup t x i ok=>cE G (aev ρ x) fun x=>cE G (aev ρ i) fun i=>zB P H t x i ok K
 | .makeFunc f first cap=>match f with
   | .func f=>first=#[]/\Ek G ρ cap.toList fun l=>K (.fn f l)
   | _=>False
 | _=>False
def dF(ops:Array Oper)(ρ:Env)(g:Option (Nat×Bool))(K:Option Bool->Prop):Prop:=
 match g with
 | none=>K none
 | some (j,want)=>match (ops[j]?).bind (·.dst)with
   | some t=>match ρ t with
     | .v (.bool b)=>K (some (b == want))
     | .gd g (.v (.bool b))=>K (some (g&&(b == want)))
     | _=>False
   | none=>False
def vQ(mt:Nat->Bool):Option Nat->Bool
 | some d=>mt d
 | none=>false
def sO(H:aM)(r:Row)(K:Nat->aM->Prop):Prop:=∀k,H k=none->K k (aI H k (some r))
def qF(cs:List AV)(f:Nat)(xs:List AV):List AV:=cs.take f++xs++cs.drop (f+xs.length)
def mD:List (Nat×TypeId×Nat)->List AV->aM->(List AV->aM->Prop)->Prop
 | [],cs,H,K=>K cs H
 | x::r,cs,H,K=>sO H ⟨x.2.1,x.2.2,[]⟩ fun k H'=>mD r (cs.set x.1 (.os k)) H' K
def Gz(P:Program)(mt:Nat->Bool)(quiet:Bool)(G:Option Bool)(o:Oper)(x:Operand)(ρ:Env)(H:aM)(K:Env->aM->Prop):Prop:=
 if vQ mt o.dst=true/\G=none/\quiet=false/\yC x=true then
   match cK P o.type with
   | some (e,sz,_)=>sO H ⟨e,sz,[]⟩ fun k H'=>K (upd ρ o.dst (.os k)) H'
   | none=>False
 else cE G (aev ρ x) fun y=>K (upd ρ o.dst (wr G y)) H
def avT(mt:Nat->Bool)(o:Oper)(t:TypeId)(cs:List AV)(ρ:Env)(H:aM)(K:Env->aM->Prop):Prop:=
 if vQ mt o.dst=true then
   0<cs.length/\sO H ⟨t,cs.length,[cs]⟩ fun k H'=>K (upd ρ o.dst (.op k 0 0)) H'
 else K (upd ρ o.dst (.rp cs 0)) H
def rD(P:Program)(mt:Nat->Bool)(G:Option Bool)(o:Oper)(t:TypeId)(n:Nat)(parts:List (Nat×List AV))(ρ:Env)(H:aM)(K:Env->aM->Prop):Prop:=
 match cK P t with
 | some (e,sz,_)=>
   (parts.map (·.1)=Qb 0 n/\cT sz (parts.map (·.2))/\n*sz<=16777216) /\
   (if vQ mt o.dst=true/\G=none then sO H ⟨e,sz,parts.map (·.2)⟩ fun k H'=>K (upd ρ o.dst (.os k)) H'
    else K (upd ρ o.dst (wr G (.sl (parts.map (·.2))))) H)
 | none=>False
def Ds(P:Program)(o:Oper)(t:TypeId)(a:AV)(cs:List AV)(ρ:Env)(H:aM)(K:Env->aM->Prop):Prop:=
 match a with
 | .op k i f=>match H k,ldT P t with
   | some r, some l => (i < r.es.length /\ cs.length = l.getD 1 /\ f + cs.length <= r.sz /\ (l = none -> ∃ i, P.info? t = some i /\ i.size = 1)) /\
       K (upd ρ o.dst .any) (aI H k (some { r with es:=r.es.set i (qF (r.es.getD i []) f cs) }))
   | _,_=>False
 | _=>False
def yL(P:Program)(o:Oper)(t:TypeId)(a:AV)(cs:List AV)(ρ:Env)(H:aM)(K:Env->aM->Prop):Prop:=
 Ds P o t a cs ρ H K\/((ldT P t).isSome=true/\∃nl:List (Nat×TypeId×Nat),(∀x∈nl,cs[x.1]?=some (.v (.slice none 0 0))/\0<x.2.2)/\mD nl cs H fun cs H=>Ds P o t a cs ρ H K)
def DT(x:Operand)(ρ:Env)(d:Option Nat)(H:aM)(K:Env->aM->Prop):Prop:=
 match x with
 | .tmp t=>match ρ t with
   | .os j=>match H j with
     | some r=>∀Hr:aM,Hr j=none->(∀k,k≠j->Hr k=H k)->K (upd (upd ρ (some t) (.sl r.es)) d (.sl r.es)) Hr
     | none=>False
   | _=>False
 | _=>False
def Dz{t j:Nat}{r:Row}{ρ:Env}{d:Option Nat}{H:aM}{K:Env->aM->Prop}(F:ρ t=.os j)(E:H j=some r)(h:∀A:aM,A j=none->(∀k,k≠j->A k=H k)->K (upd (upd ρ (some t) (.sl r.es)) d (.sl r.es)) A):DT (.tmp t) ρ d H K:=by grind[DT]
def LD(l:List Nat)(H:aM):List AV->List AV->Prop
 | [],[]=>True
 | x::xs,y::ys=>(x=y\/∃j r,j∈l/\x=.os j/\H j=some r/\y=.sl r.es)/\LD l H xs ys
 | _,_=>False
def Lu(x:AV)(ρ:Env)(d:Option Nat)(H:aM)(K:Env->aM->Prop):Prop:=
 match x with
 | .agg cs=>∃(l:List Nat) (ys:List AV),LD l H cs ys/\∀Hr:aM,(∀k,k∈l->Hr k=none)->(∀k,¬k∈l->Hr k=H k)->K (upd ρ d (.agg ys)) Hr
 | _=>False
def atM{cs:List AV}{ρ:Env}{d:Option Nat}{H:aM}{K:Env->aM->Prop}(l:List Nat)(A:List AV)(F:LD l H cs A)(h:∀E:aM,(∀k,k∈l->E k=none)->(∀k,¬k∈l->E k=H k)->K (upd ρ d (.agg A)) E):Lu (.agg cs) ρ d H K:=⟨l,A,F,h⟩
def zV(H:aM)(x:AV)(K:List (List AV)->Prop):Prop:=
 match x with
 | .sl es=>K es
 | .os k=>match H k with
   | some r=>K r.es
   | none=>False
 | .oz k a b=>match H k with
   | some r=>K ((r.es.take b).drop a)
   | none=>False
 | _=>False
def apU(H:aM)(x:AV)(K:Nat->Nat->Nat->Row->Prop):Prop:=
 match x with
 | .os k=>match H k with
   | some r=>K k 0 r.es.length r
   | none=>False
 | .oz k a b=>match H k with
   | some r=>K k a (b-a) r
   | none=>False
 | _=>False
def Z5(P:Program)(o:Oper)(t:TypeId)(x y:AV)(ρ:Env)(H:aM)(K:Env->aM->Prop):Prop:=
 apU H x fun k a n r=>zV H y fun news=>match cK P t with
   | some (_,sz,_)=>(r.sz=sz/\cT sz news)/\K (upd ρ o.dst (.v (.int .i64 (min news.length n:Nat)))) (aI H k (some { r with es:=r.es.take a++news.take (min news.length n)++r.es.drop (a+min news.length n) }))
   | none=>False
def YS(P:Program)(o:Oper)(t:TypeId)(x:AV)(ρ:Env)(H:aM)(K:Env->aM->Prop):Prop:=
 apU H x fun k a n r=>match cK P t with
   | some (e,sz,_)=>match dX P e with
     | some zs=>r.sz=sz/\K (upd ρ o.dst .any) (aI H k (some { r with es:=r.es.take a++List.replicate n zs++r.es.drop (a+n) }))
     | none=>False
   | none=>False
def vU(P:Program)(o:Oper)(t:TypeId)(s x:AV)(ρ:Env)(H:aM)(K:Env->aM->Prop):Prop:=
 match s,cK P t with
 | .os k,some (e,sz,bytes)=>match H k with
   | some r => zV H x fun news =>
       (r.e=e/\r.sz=sz/\cT sz news/\(r.es.length+news.length)*bytes<=140737488355328) /\
       ∀k',H k'=none->K (upd ρ o.dst (.os k')) (aI (aI H k none) k' (some ⟨e,sz,r.es++news⟩))
   | none=>False
 | .cl es, some (e, sz, bytes) => zV H x fun news =>
     (news≠[]/\cT sz es/\cT sz news/\(es.length+news.length)*bytes<=140737488355328) /\
     ∀k',H k'=none->K (upd ρ o.dst (.os k')) (aI H k' (some ⟨e,sz,es++news⟩))
 | .oz k a b,some (e,sz,bytes)=>match H k with
   | some r => zV H x fun news =>
       (r.e=e/\r.sz=sz/\news≠[]/\cT sz news/\b=r.es.length/\(r.es.length+news.length)*bytes<=140737488355328) /\
       ∀(k':Nat) (pre:List (List AV)),pre.length<=a->H k'=none->K (upd ρ o.dst (.oz k' pre.length (pre.length+(b-a)+news.length))) (aI (aI H k none) k' (some ⟨e,sz,pre++(r.es.drop a++news)⟩))
   | none=>False
 | .v (.slice none 0 0), some (e, sz, bytes) => zV H x fun news =>
     (news=[]/\K (upd ρ o.dst (.v (.slice none 0 0))) H) \/
     (news≠[]/\cT sz ([]:List (List AV))/\cT sz news/\(([]:List (List AV)).length+news.length)*bytes<=140737488355328) /\
     ∀k',H k'=none->K (upd ρ o.dst (.os k')) (aI H k' (some ⟨e,sz,[]++news⟩))
 | .sl es,some _=>zV H x fun news=>news=[]/\K (upd ρ o.dst (.sl es)) H
 | _,_=>False
def Ni:List (Nat×TypeId×Nat)->List AV->List AV
 | [],z=>z
 | x::r,z=>Ni r (z.set x.1 (.v (.slice none 0 0)))
def DS(P:Program)(o:Oper)(t:TypeId)(parts:List (Nat×Operand))(ρ:Env)(H:aM)(K:Env->aM->Prop):Prop:=
 tV none ρ parts fun l=>match dX P t,eH P t,uG P t with
   | some z,some pl,some nl=>match xU pl (Ni nl z) l with
     | some cs=>K (upd ρ o.dst (.agg cs)) H
     | none=>False
   | _,_,_=>False
def FF(P:Program)(o:Oper)(t:TypeId)(parts:List (Nat×Operand))(ρ:Env)(H:aM)(K:Env->aM->Prop):Prop:=
 tV none ρ parts fun l=>match dX P t,eH P t,uG P t with
   | some z,some pl,some nl=>mD nl z H fun z H=>match xU pl z l with
     | some cs=>K (upd ρ o.dst (.agg cs)) H
     | none=>False
   | _,_,_=>False
def oZ(P:Program)(o:Oper)(t:TypeId)(m x v:AV)(ρ:Env)(H:aM)(K:Env->aM->Prop):Prop:=
 Ij P H t m x fun j r _ oi=>K (upd ρ o.dst .any) (aI H j (some { r with es:=ahN r.es oi x v }))
def DQ(P:Program)(o:Oper)(t:TypeId)(m x:AV)(ρ:Env)(H:aM)(K:Env->aM->Prop):Prop:=
 Ij P H t m x fun j r kt oi=>match oi with
   | some i=>K (upd ρ o.dst (.tup [(r.es.getD i []).getD 1 .any,.v (.int .i64 i)])) H
   | none=>match NS P kt.2 with
     | some z=>K (upd ρ o.dst (.tup [z,.v (.int .i64 r.es.length)])) (aI H j (some { r with es:=r.es++[[x,z]] }))
     | none=>False
def yU(o:Oper)(m s v:AV)(ρ:Env)(H:aM)(K:Env->aM->Prop):Prop:=
 match m,s with
 | .om j,.v (.int _ i)=>match H j with
   | some r=>(0<=i/\i<r.es.length)/\K (upd ρ o.dst .any) (aI H j (some { r with es:=r.es.set i.toNat [(r.es.getD i.toNat []).getD 0 .any,v] }))
   | none=>False
 | _,_=>False
def wW(P:Program)(o:Oper)(t:TypeId)(l c:AV)(ρ:Env)(H:aM)(K:Env->aM->Prop):Prop:=
 match l,c with
 | .v (.int _ a),.v (.int _ b)=>match cK P t with
   | some (e,sz,bytes)=>match dX P e with
     | some z=>((0<=a/\a<=b)/\(bytes:Int)*b<=140737488355328)/\sO H ⟨e,sz,List.replicate a.toNat z⟩ fun k H'=>K (upd ρ o.dst (.os k)) H'
     | none=>False
   | none=>False
 | _,_=>False
def M3:AV->Option (FuncId×List AV×List AV)
 | .v (.func (.func f) first captured)=>some (f,first.toList.map .v,captured.toList.map .v)
 | .fn f cap=>some (f,[],cap)
 | _=>none
def aE(P:Program)(f:FuncId):Bool:=match P.funcs[f]? with|some fn=>fn.name != "runtime.NumGoroutine" && fn.body.isSome|none=>false
abbrev nP:=FuncId->List AV->aM->(AV->aM->Prop)->Prop
def nfq(quiet:Bool)(r:AV)(K:AV->Prop):Prop:=match quiet,r with
 | true,.nf _=>False
 | false,.nf x=>K x
 | _,r=>K r
def Gj(P:Program)(C:nP)(PC:FuncId->List AV->aM->AV->Prop)(nl quiet:Bool)(G:Option Bool)(o:Oper)(c:Call)(ρ:Env)(H:aM)(K:Env->aM->Prop):Prop:=
 match c.callee with
 | .builtin b=>Ek G ρ c.args.toList fun l=>match b,l,c.argTypes.toList with
   | .len,[x],[t]=>LJ P H t x fun y=>K (upd ρ o.dst (wr G y)) H
   | .append,[s,x],[t,t']=>if t=t'/\G=none/\quiet=false then vU P o t s x ρ H K else False
   | .copy,[x,y],[t,_]=>if G=none/\quiet=false then Z5 P o t x y ρ H K else False
   | .clear,[x],[t]=>if G=none/\quiet=false then YS P o t x ρ H K else False
   | .max,[x,y],[_,_]=>YL x y fun z=>K (upd ρ o.dst (wr G z)) H
   | .min,[x,y],[_,_]=>Xn x y fun z=>K (upd ρ o.dst (wr G z)) H
   | _,_,_=>False
 | .value f=>cE G (aev ρ f) fun x=>match M3 x with
   | some (f,first,captured)=>if nl=true then gt G/\quiet=false/\aE P f=true/\C f (first++c.args.toList.map (Q5 ρ)++captured) H fun r H'=>K (upd ρ o.dst r) H' else Ek G ρ c.args.toList fun l=>
     aE P f=true/\if G=none/\quiet=false then C f (first++l++captured) H fun r H'=>K (upd ρ o.dst r) H'
     else ∃r,(gt G->PC f (first++l++captured) H r)/\nfq quiet r fun r=>K (upd ρ o.dst (wr G r)) H
   | none=>False
 | .invoke _ _=>False
def aop(P:Program)(C:nP)(PC:FuncId->List AV->aM->AV->Prop)(mt:Nat->Bool)(quiet:Bool)(ops:Array Oper)(o:Oper)(ρ:Env)(H:aM)(K:Env->aM->Prop):Prop:=
 dF ops ρ o.guard fun G=>
 match o.op with
 | .assign x=>Gz P mt quiet G o x ρ H K
 | .alloc t=>match dX P t with
   | some z => G = none /\ quiet = false /\ (if vQ mt o.dst = true then match uG P t with
       | some nl=>mD nl z H fun z H=>sO H ⟨t,z.length,[z]⟩ fun k H'=>K (upd ρ o.dst (.op k 0 0)) H'
       | none=>False
     else sO H ⟨t,z.length,[z]⟩ fun k H'=>K (upd ρ o.dst (.op k 0 0)) H')
   | none=>False
 | .box t x=>G=none/\quiet=false/\cE G (aev ρ x) fun x=>pT x fun cs=>avT mt o t cs ρ H K
 | .buildSlice t n parts=>quiet=false/\tV G ρ parts.toList fun l=>rD P mt G o t n l ρ H K
 | .store t a x => G = none /\ quiet = false /\ (if yC x = true then cE G (aev ρ a) fun a => match cK P t with
       | some (e,sz,_)=>sO H ⟨e,sz,[]⟩ fun k H=>yL P o t a [.os k] ρ H K
       | none=>False
     else cE G (aev ρ a) fun a=>cE G (aev ρ x) fun x=>pT x fun cs=>yL P o t a cs ρ H K)
 | .call c=>Gj P C PC (vQ mt o.dst) quiet G o c ρ H K
 | .move x=>if vQ mt o.dst=true then G=none/\quiet=false/\DT x ρ o.dst H K else jV P G ρ H (.move x) fun x=>K (upd ρ o.dst (wr G x)) H
 | .pick c a b=>jV P G ρ H (.pick c a b) fun x=>K (upd ρ o.dst (wr G x)) H
 | .build t parts=>if vQ mt o.dst=true then G=none/\(if quiet=true then DS P o t parts.toList ρ H K else FF P o t parts.toList ρ H K)else jV P G ρ H (.build t parts) fun x=>K (upd ρ o.dst (wr G x)) H
 | .load t a=>if vQ mt o.dst=true then G=none/\quiet=false/\jV P none ρ H (.load t a) fun x=>Lu x ρ o.dst H K else jV P G ρ H (.load t a) fun x=>K (upd ρ o.dst (wr G x)) H
 | .nilCheck x=>jV P G ρ H (.nilCheck x) fun x=>K (upd ρ o.dst (wr G x)) H
 | .binOp op t x y t'=>jV P G ρ H (.binOp op t x y t') fun x=>K (upd ρ o.dst (wr G x)) H
 | .unOp op t x=>jV P G ρ H (.unOp op t x) fun x=>K (upd ρ o.dst (wr G x)) H
 | .convert s d x=>jV P G ρ H (.convert s d x) fun x=>K (upd ρ o.dst (wr G x)) H
 | .slice t x lo hi m=>jV P G ρ H (.slice t x lo hi m) fun x=>K (upd ρ o.dst (wr G x)) H
 | .fieldAddr t x f=>jV P G ρ H (.fieldAddr t x f) fun x=>K (upd ρ o.dst (wr G x)) H
 | .field t x f=>jV P G ρ H (.field t x f) fun x=>K (upd ρ o.dst (wr G x)) H
 | .indexAddr t x i=>jV P G ρ H (.indexAddr t x i) fun x=>K (upd ρ o.dst (wr G x)) H
 | .index t x i=>jV P G ρ H (.index t x i) fun x=>K (upd ρ o.dst (wr G x)) H
 | .extract x i=>jV P G ρ H (.extract x i) fun x=>K (upd ρ o.dst (wr G x)) H
 | .makeFunc f a b=>jV P G ρ H (.makeFunc f a b) fun x=>K (upd ρ o.dst (wr G x)) H
 | .makeSlice t l c=>G=none/\quiet=false/\cE G (aev ρ l) fun l=>cE G (aev ρ c) fun c=>wW P o t l c ρ H K
 | .lookup t x i ok=>jV P G ρ H (.lookup t x i ok) fun x=>K (upd ρ o.dst (wr G x)) H
 | .makeMap _ none=>G=none/\quiet=false/\sO H ⟨0,2,[]⟩ fun k H'=>K (upd ρ o.dst (.om k)) H'
 | .mapUpdate t m x v=>G=none/\quiet=false/\cE G (aev ρ m) fun m=>cE G (aev ρ x) fun x=>cE G (aev ρ v) fun v=>oZ P o t m x v ρ H K
 | .insert t m x v=>G=none/\quiet=false/\cE G (aev ρ m) fun m=>cE G (aev ρ x) fun x=>cE G (aev ρ v) fun v=>oZ P o t m x v ρ H K
 | .mapEntry t m x=>G=none/\quiet=false/\cE G (aev ρ m) fun m=>cE G (aev ρ x) fun x=>DQ P o t m x ρ H K
 | .entryStore _ m s v=>G=none/\quiet=false/\cE G (aev ρ m) fun m=>cE G (aev ρ s) fun s=>cE G (aev ρ v) fun v=>yU o m s v ρ H K
 | _=>False
def AA(P:Program)(C:nP)(PC:FuncId->List AV->aM->AV->Prop)(mt:Nat->Bool)(quiet:Bool)(ops:Array Oper)(K:Env->aM->Prop):List Oper->Env->aM->Prop
 | [],ρ,H=>K ρ H
 | o::rest,ρ,H=>aop P C PC mt quiet ops o ρ H (AA P C PC mt quiet ops K rest)
def Ex.seq(K:Env->aM->Prop)(Q:Ex->Env->aM->Prop):Ex->Env->aM->Prop
 | .normal,ρ,H=>K ρ H
 | e,ρ,H=>Q e ρ H
def Ex.blk(id:Nat)(Q:Ex->Env->aM->Prop):Ex->Env->aM->Prop
 | .exit i,ρ,H=>if i=id then Q .normal ρ H else Q (.exit i) ρ H
 | e,ρ,H=>Q e ρ H
def SK(W:(Ex->Env->aM->Prop)->Env->aM->Prop)(Q:Ex->Env->aM->Prop)(ρ:Env)(H:aM):Prop:=
 ∃(I:Env->aM->Prop) (μ:Env->aM->Nat),I ρ H/\∀ρ' H',I ρ' H'->W (Ex.seq (fun ρ'' H''=>I ρ'' H''/\μ ρ'' H''<μ ρ' H') Q) ρ' H'
def azB(mt:Nat->Bool)(o:Oper):Bool:=match o.op with
 | .alloc _=>true
 | .buildSlice ..=>true
 | .store ..=>true
 | .makeSlice ..=>true
 | .makeMap ..=>true
 | .mapUpdate ..=>true
 | .insert ..=>true
 | .mapEntry ..=>true
 | .entryStore ..=>true
 | .call ⟨.builtin .append,_,_⟩=>true
 | .call ⟨.builtin .copy,_,_⟩=>true
 | .call ⟨.builtin .clear,_,_⟩=>true
 | _=>vQ mt o.dst
def ZQ(mt:Nat->Bool):List Oper->Nat
 | []=>0
 | o::r=>if azB mt o=true then 0 else ZQ mt r+1
def aaA(ops:Array Oper)(n:Nat):Bool:=Region.noSelect ops&&decide (n<=ops.size)&&Region.lexHead .any ops (ops.size-n) n 0 (Array.replicate ops.size false)
def qH(o:Oper)(H:aM):aM:=match o.op with
 | .slice ..=>H
 | _=>fun _=>none
def Db(P:Program)(C:nP)(PC:FuncId->List AV->aM->AV->Prop)(mt:Nat->Bool)(ops:Array Oper)(K:Env->aM->Prop):List (Nat×Bool)->Env->aM->Prop
 | [],ρ,H=>K ρ H
 | (k,b)::f,ρ,H=>match ops[k]? with
   | some o=>if b=true then aop P C PC mt true ops o ρ (qH o H) fun ρ' _=>Db P C PC mt ops K f ρ' H
     else aop P C PC mt false ops o ρ H (Db P C PC mt ops K f)
   | none=>False
def BZ(P:Program)(C:nP)(PC:FuncId->List AV->aM->AV->Prop)(mt:Nat->Bool)(ops:Array Oper)(K:Env->aM->Prop)(Hp:aM):List (Nat×Bool)->Env->aM->Prop
 | [],ρ,H=>K ρ H
 | (k,b)::f,ρ,H=>match ops[k]? with
   | some o=>if b=true then aop P C PC mt true ops o ρ Hp fun ρ' _=>BZ P C PC mt ops K Hp f ρ' H
     else aop P C PC mt false ops o ρ H (BZ P C PC mt ops K Hp f)
   | none=>False
def tK(l:List Nat)(H:aM)(K:Env->aM->Prop)(ρ':Env)(H':aM):Prop:=
 (∀k,k∈l->H' k=none)->∀Hm:aM,(∀k,k∈l->Hm k=H k)->(∀k,k∉l->Hm k=H' k)->K ρ' Hm
def dO{l:List Nat}{H:aM}{K:Env->aM->Prop}{A:Env}{H':aM}(h:(∀k,k∈l->H' k=none)->∀E:aM,(∀k,k∈l->E k=H k)->(∀k,k∉l->E k=H' k)->K A E):tK l H K A H':=h
def tX(ops:Array Oper):List (Nat×Bool)->Array Bool->Bool
 | [],listed=>(Region.ready .any ops listed).isEmpty
 | (k,true)::f,listed=>(Region.ready .any ops listed).contains k&&Region.free .any ops listed k&&tX ops f (listed.setIfInBounds k true)
 | (k,false)::f,listed=>decide (Region.ready .any ops listed=[k])&&tX ops f (listed.setIfInBounds k true)
def Yh(ops:Array Oper)(f:List (Nat×Bool)):Bool:=Region.noSelect ops&&decide (f.length=ops.size)&&tX ops f (Array.replicate ops.size false)
inductive Mx where
 | nil
 | q (k:Nat) (t:Mx)
 | a1 (k:Nat) (t:Mx)
 | a2 (k:Nat) (t:Mx) (k':Nat) (t':Mx)
 | a3 (k:Nat) (t:Mx) (k':Nat) (t':Mx) (k'':Nat) (t'':Mx)
def BI(P:Program)(C:nP)(PC:FuncId->List AV->aM->AV->Prop)(mt:Nat->Bool)(quiet:Bool)(ops:Array Oper)(k:Nat)(ρ:Env)(H:aM)(K:Env->aM->Prop):Prop:=
 match ops[k]? with
 | some o=>aop P C PC mt quiet ops o ρ H K
 | none=>False
def mL(P:Program)(C:nP)(PC:FuncId->List AV->aM->AV->Prop)(mt:Nat->Bool)(ops:Array Oper)(K:Env->aM->Prop)(Hp:aM):Mx->Env->aM->Prop
 | .nil,ρ,H=>K ρ H
 | .q k t,ρ,H=>BI P C PC mt true ops k ρ Hp fun ρ' _=>mL P C PC mt ops K Hp t ρ' H
 | .a1 k t,ρ,H=>BI P C PC mt false ops k ρ H (mL P C PC mt ops K Hp t)
 | .a2 k t k' t',ρ,H=>BI P C PC mt false ops k ρ H (mL P C PC mt ops K Hp t)/\BI P C PC mt false ops k' ρ H (mL P C PC mt ops K Hp t')
 | .a3 k t k' t' k'' t'',ρ,H=>BI P C PC mt false ops k ρ H (mL P C PC mt ops K Hp t)/\BI P C PC mt false ops k' ρ H (mL P C PC mt ops K Hp t')/\BI P C PC mt false ops k'' ρ H (mL P C PC mt ops K Hp t'')
def gJ(ops:Array Oper):Mx->Nat->Array Bool->Bool
 | .nil,0,listed=>(Region.ready .any ops listed).isEmpty
 | .q k t,n+1,listed=>(Region.ready .any ops listed).contains k&&Region.free .any ops listed k&&gJ ops t n (listed.setIfInBounds k true)
 | .a1 k t,n+1,listed=>decide (Region.ready .any ops listed=[k])&&gJ ops t n (listed.setIfInBounds k true)
 | .a2 k t k' t',n+1,listed=>decide (Region.ready .any ops listed=[k,k'])&&gJ ops t n (listed.setIfInBounds k true)&&gJ ops t' n (listed.setIfInBounds k' true)
 | .a3 k t k' t' k'' t'',n+1,listed=>decide (Region.ready .any ops listed=[k,k',k''])&&gJ ops t n (listed.setIfInBounds k true)&&gJ ops t' n (listed.setIfInBounds k' true)&&gJ ops t'' n (listed.setIfInBounds k'' true)
 | _,_,_=>false
def Ix(ops:Array Oper)(t:Mx):Bool:=Region.noSelect ops&&gJ ops t ops.size (Array.replicate ops.size false)
def wS(P:Program)(C:nP)(PC:FuncId->List AV->aM->AV->Prop)(mt:Nat->Bool)(ops:Array Oper)(K:Env->aM->Prop)(m:Nat)(ρ:Env)(H:aM):Prop:=
 (m=ops.size/\Region.lexB .any ops=true/\AA P C PC mt true ops K ops.toList ρ H) \/
 (aaA ops m=true/\AA P C PC mt true ops (fun ρ' _=>AA P C PC mt false ops K (ops.toList.drop m) ρ' H) (ops.toList.take m) ρ fun _=>none) \/
 (∃f,Yh ops f=true/\Db P C PC mt ops K f ρ H) \/
 ∃l t,(∀k,k∈l->(H k).isSome=true)/\Ix ops t=true/\∀Hp Hr:aM,(∀k,k∈l->Hp k=H k)->(∀k,k∉l->Hr k=H k)->(∀k,k∉l->Hp k=none)->(∀k,k∈l->Hr k=none)->mL P C PC mt ops (tK l H K) Hp t ρ Hr
def jD{P:Program}{C:nP}{PC:FuncId->List AV->aM->AV->Prop}{mt:Nat->Bool}{l:List Oper}{K:Env->aM->Prop}{m:Nat}{ρ:Env}{H:aM}(E:(m == l.length)=true)(A:Region.lexB .any l.toArray=true)
 (h:AA P C PC mt true l.toArray K l ρ H):wS P C PC mt l.toArray K m ρ H:=.inl ⟨by grind,A,h⟩
def JM{P:Program}{C:nP}{PC:FuncId->List AV->aM->AV->Prop}{mt:Nat->Bool}{l:List Oper}{K:Env->aM->Prop}{m:Nat}{ρ:Env}{H:aM}(E:aaA l.toArray m=true)
 (h:AA P C PC mt true l.toArray (fun A _=>AA P C PC mt false l.toArray K (l.drop m) A H) (l.take m) ρ fun _=>none):wS P C PC mt l.toArray K m ρ H:=.inr (.inl ⟨E,h⟩)
def jK{P:Program}{C:nP}{PC:FuncId->List AV->aM->AV->Prop}{mt:Nat->Bool}{l:List Oper}{K:Env->aM->Prop}{m:Nat}{ρ:Env}{H:aM}(f:List (Nat×Bool))(A:Yh l.toArray f=true)
 (h:Db P C PC mt l.toArray K f ρ H):wS P C PC mt l.toArray K m ρ H:=.inr (.inr (.inl ⟨f,A,h⟩))
def uB{P:Program}{C:nP}{PC:FuncId->List AV->aM->AV->Prop}{mt:Nat->Bool}{ops:List Oper}{K:Env->aM->Prop}{m:Nat}{ρ:Env}{H:aM}(l:List Nat)(t:Mx)(E:∀k,k∈l->(H k).isSome=true)(F:Ix ops.toArray t=true)
 (h:∀Hp A:aM,(∀k,k∈l->Hp k=H k)->(∀k,k∉l->A k=H k)->(∀k,k∉l->Hp k=none)->(∀k,k∈l->A k=none)->mL P C PC mt ops.toArray (tK l H K) Hp t ρ A):wS P C PC mt ops.toArray K m ρ H:=.inr (.inr (.inr ⟨l,t,E,F,h⟩))
def mxL:List (Nat×Bool)->Mx
 | []=>.nil
 | (k,true)::f=>.q k (mxL f)
 | (k,false)::f=>.a1 k (mxL f)
def alD{P:Program}{C:nP}{PC:FuncId->List AV->aM->AV->Prop}{mt:Nat->Bool}{ops:Array Oper}{K:Env->aM->Prop}(Hp:aM):∀f,BZ P C PC mt ops K Hp f=mL P C PC mt ops K Hp (mxL f)
 | []=>by rfl
 | (k,b)::f=>by funext ρ H;cases b <;> simp[BZ,mxL,mL,BI,alD Hp f]
def aBW{ops:Array Oper}{f:List (Nat×Bool)}(h:Yh ops f=true):Ix ops (mxL f)=true:=by
 have A:∀(f:List (Nat×Bool)) (l:Array Bool),tX ops f l=true->gJ ops (mxL f) f.length l=true:=by
  intro f;induction f with
  | nil=>grind[tX,mxL,gJ]
  | cons x f ih=>
   intro l h;obtain⟨k,b⟩:=x;cases b <;> simp only[tX,Bool.and_eq_true]at h <;> simp only[mxL,gJ,List.length_cons,Bool.and_eq_true]
   all_goals grind
 simp only[Yh,Bool.and_eq_true,decide_eq_true_eq]at h;simp only[Ix,Bool.and_eq_true]
 grind
def gS{P:Program}{C:nP}{PC:FuncId->List AV->aM->AV->Prop}{mt:Nat->Bool}{ops:List Oper}{K:Env->aM->Prop}{m:Nat}{ρ:Env}{H:aM}(l:List Nat)(f:List (Nat×Bool))(E:∀k,k∈l->(H k).isSome=true)(F:Yh ops.toArray f=true)
 (h:∀Hp A:aM,(∀k,k∈l->Hp k=H k)->(∀k,k∉l->A k=H k)->(∀k,k∉l->Hp k=none)->(∀k,k∈l->A k=none)->BZ P C PC mt ops.toArray (tK l H K) Hp f ρ A):wS P C PC mt ops.toArray K m ρ H:=uB l (mxL f) E (aBW F) fun Hp A h1 O I J=>by simp_all[alD]
def awp(P:Program)(C:nP)(PC:FuncId->List AV->aM->AV->Prop)(mt:Nat->Bool):Code->(Ex->Env->aM->Prop)->Env->aM->Prop
 | .skip,Q,ρ,H=>Q .normal ρ H
 | .region _ ops draw,Q,ρ,H=>if draw=true then wS P C PC mt ops (Q .normal) (ZQ mt ops.toList) ρ H else AA P C PC mt false ops (Q .normal) ops.toList ρ H
 | .seq a b,Q,ρ,H=>awp P C PC mt a (Ex.seq (awp P C PC mt b Q) Q) ρ H
 | .cond c a b,Q,ρ,H=>match aev ρ c with
   | .v (.bool t)=>(t=true->awp P C PC mt a Q ρ H)/\(t=false->awp P C PC mt b Q ρ H)
   | _=>False
 | .block id c,Q,ρ,H=>awp P C PC mt c (Ex.blk id Q) ρ H
 | .loop c,Q,ρ,H=>SK (awp P C PC mt c) Q ρ H
 | .scope c,Q,ρ,H=>awp P C PC mt c Q ρ H
 | .label _,Q,ρ,H=>Q .normal ρ H
 | .exit id,Q,ρ,H=>Q (.exit id) ρ H
 | .ret,Q,ρ,H=>Q .ret ρ H
 | _,_,_,_=>False
def B5(x:AV)(A B:Env->aM->Prop)(ρ:Env)(H:aM):Prop:=
 match x with
 | .v (.bool t)=>(t=true->A ρ H)/\(t=false->B ρ H)
 | _=>False
section
variable{P:Program}{C:nP}{PC:FuncId->List AV->aM->AV->Prop}{mt:Nat->Bool}{Q:Ex->Env->aM->Prop}{K:Env->aM->Prop}{ρ:Env}{H:aM}{a b c:Code}{id:Nat}{ops:Array Oper}{draw:Bool}
def arW:awp P C PC mt .skip Q ρ H=Q .normal ρ H:=(rfl)
def KW:awp P C PC mt (.region id ops false) Q ρ H=AA P C PC mt false ops (Q .normal) ops.toList ρ H:=by simp[awp]
def Tv:awp P C PC mt (.region id ops true) Q ρ H=wS P C PC mt ops (Q .normal) (ZQ mt ops.toList) ρ H:=by simp[awp]
@[congr] theorem adraw_c {m m':Nat} (h:m=m'):wS P C PC mt ops K m ρ H=wS P C PC mt ops K m' ρ H:=h▸rfl
def Z9:awp P C PC mt (.seq a b) Q ρ H=awp P C PC mt a (Ex.seq (awp P C PC mt b Q) Q) ρ H:=(rfl)
def VI{x:Operand}:awp P C PC mt (.cond x a b) Q ρ H=B5 (aev ρ x) (awp P C PC mt a Q) (awp P C PC mt b Q) ρ H:=(rfl)
def O7:awp P C PC mt (.block id c) Q ρ H=awp P C PC mt c (Ex.blk id Q) ρ H:=(rfl)
def Ut:awp P C PC mt (.loop c) Q ρ H=SK (awp P C PC mt c) Q ρ H:=(rfl)
def Nv:awp P C PC mt (.scope c) Q ρ H=awp P C PC mt c Q ρ H:=(rfl)
def afI{l:Nat}:awp P C PC mt (.label l) Q ρ H=Q .normal ρ H:=(rfl)
def ajJ:awp P C PC mt (.exit id) Q ρ H=Q (.exit id) ρ H:=(rfl)
def avQ:awp P C PC mt .ret Q ρ H=Q .ret ρ H:=(rfl)
def alM:AA P C PC mt draw ops K [] ρ H=K ρ H:=(rfl)
def agN{o:Oper}{r:List Oper}:AA P C PC mt draw ops K (o::r) ρ H=aop P C PC mt draw ops o ρ H (AA P C PC mt draw ops K r):=(rfl)
def W0:Ex.seq K Q .normal ρ H=K ρ H:=(rfl)
def amO:Ex.seq K Q (.exit id) ρ H=Q (.exit id) ρ H:=(rfl)
def ayK:Ex.seq K Q .ret ρ H=Q .ret ρ H:=(rfl)
def XZ:Ex.blk id Q .normal ρ H=Q .normal ρ H:=(rfl)
theorem ZA:Ex.blk id Q .ret ρ H=Q .ret ρ H:=(rfl)
theorem SO:Ex.blk id Q (.exit id) ρ H=Q .normal ρ H:=by simp[Ex.blk]
def ahJ{i:Nat}(h:(i == id)=false):Ex.blk id Q (.exit i) ρ H=Q (.exit i) ρ H:=by grind[Ex.blk]
end
@[congr] theorem wopd_c {G x x' k} (h:x=x'):cE G x k=cE G x' k:=h▸rfl
@[congr] theorem abin_c {P G op t x x' y y' k} (h:x=x') (h':y=y'):kV P G op t x y k=kV P G op t x' y' k:=h▸h'▸rfl
@[congr] theorem apick_c {G c c' x x' y y' k} (h0:c=c') (h:x=x') (h':y=y'):EC G c x y k=EC G c' x' y' k:=h0▸h▸h'▸rfl
@[congr] theorem aload_c {G H l l' x x' k} (h:l=l') (h':x=x'):sM G H l x k=sM G H l' x' k:=h▸h'▸rfl
@[congr] theorem apart_c {G o o' l l' x x' k} (h0:o=o') (h:l=l') (h':x=x'):apart G o l x k=apart G o' l' x' k:=h0▸h▸h'▸rfl
@[congr] theorem alen_c {P H t x x' k} (h':x=x'):LJ P H t x k=LJ P H t x' k:=h'▸rfl
@[congr] theorem aindexAddr_c {P G H t x x' y y' k} (h:x=x') (h':y=y'):gL P G H t x y k=gL P G H t x' y' k:=h▸h'▸rfl
@[congr] theorem aindex_c {P G t x x' y y' k} (h:x=x') (h':y=y'):Bc P G t x y k=Bc P G t x' y' k:=h▸h'▸rfl
@[congr] theorem afieldAddr_c {P t f x x' k} (h':x=x'):lU P t f x k=lU P t f x' k:=h'▸rfl
@[congr] theorem abuild_c {P t l l' k} (h':l=l'):Cw P t l k=Cw P t l' k:=h'▸rfl
@[congr] theorem aslice_c {P G t x x' lo lo' hi hi' k} (h:x=x') (h1:lo=lo') (h2:hi=hi'):pV P G t x lo hi k=pV P G t x' lo' hi' k:=h▸h1▸h2▸rfl
@[congr] theorem aun_c {op x x' k} (h':x=x'):aun op x k=aun op x' k:=h'▸rfl
@[congr] theorem aconv_c {P s t x x' k} (h':x=x'):Dr P s t x k=Dr P s t x' k:=h'▸rfl
@[congr] theorem wcells_c {x x' K} (h:x=x'):pT x K=pT x' K:=h▸rfl
@[congr] theorem acond_c {x x' A B ρ H} (h':x=x'):B5 x A B ρ H=B5 x' A B ρ H:=h'▸rfl
@[congr] theorem abox_c {mt o t x x' ρ H K} (h:x=x'):avT mt o t x ρ H K=avT mt o t x' ρ H K:=h▸rfl
@[congr] theorem abuildSlice_c {P mt G o t n x x' ρ H K} (h:x=x'):rD P mt G o t n x ρ H K=rD P mt G o t n x' ρ H K:=h▸rfl
@[congr] theorem astore_c {P o t a a' x x' ρ H K} (h:a=a') (h':x=x'):Ds P o t a x ρ H K=Ds P o t a' x' ρ H K:=h▸h'▸rfl
@[congr] theorem aappend_c {P o t a a' x x' ρ H K} (h:a=a') (h':x=x'):vU P o t a x ρ H K=vU P o t a' x' ρ H K:=h▸h'▸rfl
@[congr] theorem asrc_c {H x x' K} (h:x=x'):zV H x K=zV H x' K:=h▸rfl
@[congr] theorem anew_c {H r r' K} (h:r=r'):sO H r K=sO H r' K:=h▸rfl
def aA{t:Bool}{A B:Env->aM->Prop}{ρ:Env}{H:aM}(h1:t=true->A ρ H)(E:t=false->B ρ H):B5 (.v (.bool t)) A B ρ H:=⟨h1,E⟩
def Ho(args:List AV):Env:=fun t=>args.getD t .any
def aT:AV->Nat
 | .v (.int _ n)=>n.toNat
 | _=>0
theorem aJ{k n}:aT (.v (.int k n))=n.toNat:=(rfl)
section
variable{G:Option Bool}{k:AV->Prop}
def amV{x}:cE G (.v x) k=k (.v x):=(rfl)
def UP:cE G .any k=k .any:=(rfl)
def aaV{x}:cE G (.sl x) k=k (.sl x):=(rfl)
def acO{x o}:cE G (.rp x o) k=k (.rp x o):=(rfl)
def RY{x}:cE G (.agg x) k=k (.agg x):=(rfl)
def Tj{x}:cE G (.tup x) k=k (.tup x):=(rfl)
def aaT{x}:cE G (.os x) k=k (.os x):=(rfl)
def acG{x i f}:cE G (.op x i f) k=k (.op x i f):=(rfl)
def ZW{f l}:cE G (.fn f l) k=k (.fn f l):=(rfl)
def abA{j a b}:cE G (.oz j a b) k=k (.oz j a b):=(rfl)
def ZV{es}:cE G (.cl es) k=k (.cl es):=(rfl)
def Z6{j}:cE G (.om j) k=k (.om j):=(rfl)
def ZC{g x}:cE G (.gd g x) k=(gok G g/\k x):=(rfl)
end
def acF(K:Env->aM->Prop)(ρ:Env)(d:Option Tmp)(j:Nat)(H:aM):Prop:=K (upd ρ d (.os j)) H
def ZR(K:Env->aM->Prop)(ρ:Env)(d:Option Tmp)(j:Nat)(H:aM):Prop:=K (upd ρ d (.op j 0 0)) H
def UU(K:Env->aM->Prop)(ρ:Env)(d:Option Tmp)(r:AV)(H:aM):Prop:=K (upd ρ d r) H
def Uu{K ρ d j H}:acF K ρ d j H=K (upd ρ d (.os j)) H:=(rfl)
def TN{K ρ d j H}:ZR K ρ d j H=K (upd ρ d (.op j 0 0)) H:=(rfl)
def Vb{K ρ d r H}:UU K ρ d r H=K (upd ρ d r) H:=(rfl)
def wpick(G:Option Bool)(c x y:AV)(k:AV->Prop):Prop:=match c with
 | .v (.bool c)=>EC G c x y k
 | _=>False
@[congr] theorem wpick_c {G c c' x y k} (h:c=c'):wpick G c x y k=wpick G c' x y k:=h▸rfl
def Zj{G c x y k}:wpick G (.v (.bool c)) x y k=EC G c x y k:=(rfl)
def aeE(G:Option Bool)(x:AV)(k:AV->Prop):Prop:=match x with
 | .rp cs off=>k (.rp cs off)
 | .op j i f=>k (.op j i f)
 | .v (.pointer none)=>(gt G->False)/\∃cs off,k (.rp cs off)
 | _=>False
@[congr] theorem wptr_c {G x x' k} (h:x=x'):aeE G x k=aeE G x' k:=h▸rfl
def aaW{G cs o k}:aeE G (.rp cs o) k=k (.rp cs o):=(rfl)
def abM{G j i f k}:aeE G (.op j i f) k=k (.op j i f):=(rfl)
def VD{G k}:aeE G (.v (.pointer none)) k=((gt G->False)/\∃cs off,k (.rp cs off)):=(rfl)
def auG(G:Option Bool)(x:AV)(i:Nat)(k:AV->Prop):Prop:=match x with
 | .tup vs=>(gt G->i<vs.length)/\k (vs.getD i .any)
 | _=>False
@[congr] theorem wtup_c {G x x' i k} (h:x=x'):auG G x i k=auG G x' i k:=h▸rfl
def acA{G vs i k}:auG G (.tup vs) i k=((gt G->i<vs.length)/\k (vs.getD i .any)):=(rfl)
def adH(P:Program)(d:Option Tmp)(t:TypeId)(a:AV)(cs:List AV)(ρ:Env)(H:aM)(K:Env->aM->Prop):Prop:=yL P ⟨d,.move (.tmp 0),0,"",#[],none⟩ t a cs ρ H K
@[congr] theorem wput_c {P d t a a' cs cs' ρ H K} (h:a=a') (h':cs=cs'):adH P d t a cs ρ H K=adH P d t a' cs' ρ H K:=h▸h'▸rfl
def Kp(P:Program)(d:Option Tmp)(t:TypeId)(s x:AV)(ρ:Env)(H:aM)(K:Env->aM->Prop):Prop:=vU P ⟨d,.move (.tmp 0),0,"",#[],none⟩ t s x ρ H K
@[congr] theorem wapp_c {P d t s s' x x' ρ H K} (h:s=s') (h':x=x'):Kp P d t s x ρ H K=Kp P d t s' x' ρ H K:=h▸h'▸rfl
def Sh(P:Program)(d:Option Tmp)(t:TypeId)(l c:AV)(ρ:Env)(H:aM)(K:Env->aM->Prop):Prop:=wW P ⟨d,.move (.tmp 0),0,"",#[],none⟩ t l c ρ H K
@[congr] theorem wmake_c {P d t s s' x x' ρ H K} (h:s=s') (h':x=x'):Sh P d t s x ρ H K=Sh P d t s' x' ρ H K:=h▸h'▸rfl
def VM(P:Program)(d:Option Tmp)(t:TypeId)(x y:AV)(ρ:Env)(H:aM)(K:Env->aM->Prop):Prop:=Z5 P ⟨d,.move (.tmp 0),0,"",#[],none⟩ t x y ρ H K
@[congr] theorem wcopy_c {P d t s s' x x' ρ H K} (h:s=s') (h':x=x'):VM P d t s x ρ H K=VM P d t s' x' ρ H K:=h▸h'▸rfl
def ZX{P:Program}{d:Option Tmp}{t:TypeId}{x y:AV}{ρ:Env}{H:aM}{K:Env->aM->Prop}{e:TypeId}{sz A j a n:Nat}{r:Row}{news:List (List AV)}(I:cK P t=some (e,sz,A))(J:H j=some r)
 (E:(x=.os j/\a=0/\n=r.es.length)\/∃b,x=.oz j a b/\n=b-a) (F:y=.sl news\/(∃i r',y=.os i/\H i=some r'/\r'.es=news)\/∃i r' p q,y=.oz i p q/\H i=some r'/\(r'.es.take q).drop p=news)
 (h1:r.sz=sz) (O:cT sz news) (h:K (upd ρ d (.v (.int .i64 (min news.length n:Nat)))) (aI H j (some { r with es:=r.es.take a++news.take (min news.length n)++r.es.drop (a+min news.length n) }))):VM P d t x y ρ H K:=by grind[VM,Z5,zV,apU]
def Xi(P:Program)(d:Option Tmp)(t:TypeId)(x:AV)(ρ:Env)(H:aM)(K:Env->aM->Prop):Prop:=YS P ⟨d,.move (.tmp 0),0,"",#[],none⟩ t x ρ H K
@[congr] theorem wclear_c {P d t s s' ρ H K} (h:s=s'):Xi P d t s ρ H K=Xi P d t s' ρ H K:=h▸rfl
def aaS{P:Program}{d:Option Tmp}{t:TypeId}{es:List (List AV)}{x:AV}{ρ:Env}{H:aM}{K:Env->aM->Prop}{e:TypeId}{sz A:Nat}{news:List (List AV)}(F:cK P t=some (e,sz,A))
  (E:x=.sl news\/∃i r',x=.os i/\H i=some r'/\r'.es=news) (h0:news≠[]) (h1:cT sz es) (J:cT sz news) (I:(es.length+news.length)*A<=140737488355328)
  (h:∀j',H j'=none->K (upd ρ d (.os j')) (aI H j' (some ⟨e,sz,es++news⟩))):Kp P d t (.cl es) x ρ H K:=by
 unfold Kp vU
 grind[zV]
def arF{P:Program}{d:Option Tmp}{t:TypeId}{x:AV}{ρ:Env}{H:aM}{K:Env->aM->Prop}{e:TypeId}{sz A:Nat}{news:List (List AV)}(J:cK P t=some (e,sz,A))
  (I:x=.sl news\/∃i r',x=.os i/\H i=some r'/\r'.es=news) (h0:news≠[]) (F:cT sz news) (E:news.length*A<=140737488355328)
  (h:∀j',H j'=none->K (upd ρ d (.os j')) (aI H j' (some ⟨e,sz,news⟩))):Kp P d t (.v (.slice none 0 0)) x ρ H K:=by
 unfold Kp vU;simp only[J];rcases I with rfl|⟨i,r',rfl,O,rfl⟩
 ·exact .inr ⟨⟨h0,trivial,F,by simpa using E⟩,h⟩
 ·simp only[zV,O];exact .inr ⟨⟨h0,trivial,F,by simpa using E⟩,h⟩
def aH{H:aM}{r:Row}{F:Nat->aM->Prop}(h:∀j,H j=none->F j (aI H j (some r))):sO H r F:=h
def cA{α:Type}(o:Option α)(f:α->Prop):Prop:=match o with|some x=>f x|none=>False
def Ki{α:Type}{x:α}{f:α->Prop}:cA (some x) f=f x:=(rfl)
@[congr] theorem withO_c {α:Type} {o o':Option α} {f:α->Prop} (h:o=o'):cA o f=cA o' f:=h▸rfl
section
variable{P:Program}{C:nP}{PC:FuncId->List AV->aM->AV->Prop}{mt:Nat->Bool}{q:Bool}{ops:Array Oper}{d:Option Tmp}{ty:TypeId}{pos:String}{aft:Array Edge}{ρ:Env}{H:aM}{K:Env->aM->Prop}{G:Option Bool}{k:AV->Prop}
def ZE{t}:aev ρ (.tmp t)=ρ t:=(rfl)
def NI{v}:aev ρ (.const v)=uT v:=(rfl)
def Tz{f}:aev ρ (.func f)=.v (.func (.func f) #[] #[]):=(rfl)
def RJ{t n a b}:kV P G .add t (.v (.int n a)) (.v (.int n b)) k=k (.v (.int n (n.wrap (a+b)))):=by simp[kV,Eg]
def Td{t n a b}:kV P G .sub t (.v (.int n a)) (.v (.int n b)) k=k (.v (.int n (n.wrap (a-b)))):=by simp[kV,Eg]
def Vw{t n a b}:kV P G .mul t (.v (.int n a)) (.v (.int n b)) k=k (.v (.int n (n.wrap (a*b)))):=by simp[kV,Eg]
def Uy{t n a b}:kV P G .quo t (.v (.int n a)) (.v (.int n b)) k=((gt G->b≠0)/\k (.v (.int n (n.wrap (a.tdiv b))))):=by simp[kV,Eg]
def RL{t n a b}:kV P G .rem t (.v (.int n a)) (.v (.int n b)) k=((gt G->b≠0)/\k (.v (.int n (a.tmod b)))):=by simp[kV,Eg]
def TG{t n a b}:kV P G .eql t (.v (.int n a)) (.v (.int n b)) k=k (.v (.bool (a == b))):=by simp[kV,Eg]
def VJ{t n a b}:kV P G .neq t (.v (.int n a)) (.v (.int n b)) k=k (.v (.bool (a != b))):=by simp[kV,Eg]
def Uk{t n a b}:kV P G .lss t (.v (.int n a)) (.v (.int n b)) k=k (.v (.bool (decide (a<b)))):=by simp[kV,Eg]
def T3{t n a b}:kV P G .leq t (.v (.int n a)) (.v (.int n b)) k=k (.v (.bool (decide (a<=b)))):=by simp[kV,Eg]
def UL{t n a b}:kV P G .gtr t (.v (.int n a)) (.v (.int n b)) k=k (.v (.bool (decide (a>b)))):=by simp[kV,Eg]
def UV{t n a b}:kV P G .geq t (.v (.int n a)) (.v (.int n b)) k=k (.v (.bool (decide (a>=b)))):=by simp[kV,Eg]
def U7{t n m a b}:kV P G .shl t (.v (.int n a)) (.v (.int m b)) k=((gt G->0<=b)/\k (.v (.int n (shV .shl n a b)))):=by rfl
def T9{t n m a b}:kV P G .shr t (.v (.int n a)) (.v (.int m b)) k=((gt G->0<=b)/\k (.v (.int n (shV .shr n a b)))):=by rfl
def TL{t n a b}:kV P G .and t (.v (.int n a)) (.v (.int n b)) k=k (.v (.int n (vY .and n a b))):=by simp[kV,Eg]
def acY{t n a b}:kV P G .or t (.v (.int n a)) (.v (.int n b)) k=k (.v (.int n (vY .or n a b))):=by simp[kV,Eg]
def Jf{t n a b}:kV P G .andNot t (.v (.int n a)) (.v (.int n b)) k=k (.v (.int n (vY .andNot n a b))):=by simp[kV,Eg]
def OS{op t x}:kV P G op t .any (.v x) k=((gt G->False)/\k .any):=by cases x with
 | pointer a=>cases a <;> rfl
 | _=>rfl
def OQ{x}:yN false .any (.v x)=.v x:=by rfl
def Kk{x}:yN true (.v x) .any=.v x:=by cases x with
 | bool b=>cases b <;> rfl
 | _=>rfl
def Oh{t a b}:kV P G .add t (.v (.string a)) (.v (.string b)) k=((gt G->((a.size+b.size:Nat):Int)<=IntKind.i64.max)/\k (.v (.string (a++b)))):=(rfl)
def ND{t a b}:kV P G .eql t (.v (.string a)) (.v (.string b)) k=k (.v (.bool (a.toList == b.toList))):=(rfl)
def NT{t a b}:kV P G .neq t (.v (.string a)) (.v (.string b)) k=k (.v (.bool !(a.toList == b.toList))):=(rfl)
def OJ{t a b}:kV P G .eql t (.v (.bool a)) (.v (.bool b)) k=if D6 P t then k (.v (.bool (a == b)))else False:=(rfl)
def Nm{t a b}:kV P G .neq t (.v (.bool a)) (.v (.bool b)) k=if D6 P t then k (.v (.bool !(a == b)))else False:=(rfl)
def Nn{t x y}:kV P G .eql t (.agg x) (.agg y) k=cA (En P t) fun l=>cA (lA l x y) fun b=>k (.v (.bool b)):=by grind[kV,cA]
def Oc{t x y}:kV P G .neq t (.agg x) (.agg y) k=cA (En P t) fun l=>cA (lA l x y) fun b=>k (.v (.bool !b)):=by grind[kV,cA]
def Vj{c x y}:EC G c (.v x) (.v y) k=k (yN c (.v x) (.v y)):=(rfl)
def Uv{c x g y}:EC G c (.v x) (.gd g y) k=((gt G->c=false->g=true)/\k (yN c (.v x) y)):=(rfl)
def TY{c g x y}:EC G c (.gd g x) (.v y) k=((gt G->c=true->g=true)/\k (yN c x (.v y))):=(rfl)
def ZK{c b}:yN c (.v (.bool true)) (.v (.bool b))=.v (.bool (c||b)):=(rfl)
def abI{c a}:yN c (.v (.bool a)) (.v (.bool false))=.v (.bool (c&&a)):=by cases a <;> cases c <;> rfl
def Nz{cs o}:sM G H none (.rp cs o) k=((gt G->o<cs.length)/\k (cs.getD o .any)):=(rfl)
def NV{cs o n}:sM G H (some n) (.rp cs o) k=((gt G->o+n<=cs.length)/\k (.agg ((cs.drop o).take n))):=(rfl)
def OI{j i f}:sM G H none (.op j i f) k=cA (H j) fun r=>(gt G->i<r.es.length/\f<r.sz)/\k ((r.es.getD i []).getD f .any):=by grind[sM,cA]
def NF{j i f n}:sM G H (some n) (.op j i f) k=cA (H j) fun r=>(gt G->i<r.es.length/\f+n<=r.sz)/\k (.agg (((r.es.getD i []).drop f).take n)):=by grind[sM,cA]
def ZN{o cs}:apart G o none (.agg cs) k=((gt G->o<cs.length)/\k (cs.getD o .any)):=(rfl)
def abV{o n cs}:apart G o (some n) (.agg cs) k=((gt G->o+n<=cs.length)/\k (.agg ((cs.drop o).take n))):=(rfl)
def aaQ{t es}:LJ P H t (.sl es) k=if cR P t then k (.v (.int .i64 es.length))else False:=(rfl)
def aaI{t j}:LJ P H t (.os j) k=cA (H j) fun r=>if cR P t then k (.v (.int .i64 r.es.length))else False:=by grind[LJ,cA]
def ZD{t j a b}:LJ P H t (.oz j a b) k=if cR P t then k (.v (.int .i64 (b-a:Nat)))else False:=(rfl)
def aaM{t s}:LJ P H t (.v (.string s)) k=if fW P t then k (.v (.int .i64 s.size))else False:=(rfl)
def Ej{t es n i}:gL P G H t (.sl es) (.v (.int n i)) k=cA (cK P t) fun e=>(gt G->(0<=i/\i<es.length)/\(es.getD i.toNat []).length=e.2.1)/\k (.rp (es.getD i.toNat []) 0):=by grind[gL,cA]
def Ep{t j n i}:gL P G H t (.os j) (.v (.int n i)) k=cA (H j) fun r=>cA (cK P t) fun e=>(gt G->(0<=i/\i<r.es.length)/\r.sz=e.2.1)/\k (.op j i.toNat 0):=by cases h1:H j <;> cases A:cK P t <;> simp[gL,cA,h1,A]
def Ez{t j a b n i}:gL P G H t (.oz j a b) (.v (.int n i)) k=cA (H j) fun r=>cA (cK P t) fun e=>(gt G->(0<=i/\i<(b-a:Nat))/\r.sz=e.2.1)/\k (.op j (a+i.toNat) 0):=by cases h1:H j <;> cases A:cK P t <;> simp[gL,cA,h1,A]
def Ei{t cs o n i}:gL P G H t (.rp cs o) (.v (.int n i)) k=cA (HA P t) fun e=>(gt G->0<=i/\i<e.1)/\k (.rp cs (o+i.toNat*e.2.1)):=by grind[gL,cA]
def Eo{t j a o n i}:gL P G H t (.op j a o) (.v (.int n i)) k=cA (HA P t) fun e=>(gt G->0<=i/\i<e.1)/\k (.op j a (o+i.toNat*e.2.1)):=by grind[gL,cA]
def Ey{t f cs o}:lU P t f (.rp cs o) k=cA (aR P t f) fun e=>k (.rp cs (o+e.1)):=by grind[lU,cA]
def Em{t f j i o}:lU P t f (.op j i o) k=cA (aR P t f) fun e=>k (.op j i (o+e.1)):=by grind[lU,cA]
def abT{b}:aun .not (.v (.bool b)) k=k (.v (.bool !b)):=(rfl)
def acB{n i}:aun .neg (.v (.int n i)) k=k (.v (.int n (n.wrap (0-i)))):=(rfl)
def OT{s t n i}:Dr P s t (.v (.int n i)) k=cA (Ms P t) fun m=>cA (Ms P s) fun _=>k (.v (.int m (m.wrap i))):=by grind[Ms,Dr,cA]
def Nq{s t x}:Dr P s t (.v (.string x)) k=if fW P s/\fW P t then k (.v (.string x))else False:=(rfl)
def Ux{s t es}:Dr P s t (.sl es) k=if Lo P s/\fW P t then cA (wZ es) fun ns=>k (.v (.string (strOfNums ns)))else False:=by grind[Dr,cA]
def NN{t es n a m b}:pV P G t (.sl es) (some (.v (.int n a))) (some (.v (.int m b))) k=cA (cK P t) fun e=>(gt G->(0<=a/\a<=b/\b<=es.length)/\cT e.2.1 es)/\k (.sl ((es.take b.toNat).drop a.toNat)):=by grind[pV,cA]
def Sp{t es n a}:pV P G t (.sl es) (some (.v (.int n a))) none k=cA (cK P t) fun e=>(gt G->(0<=a/\a<=es.length)/\cT e.2.1 es)/\k (.sl (es.drop a.toNat)):=by grind[pV,cA]
def VQ{t es m b}:pV P G t (.sl es) none (some (.v (.int m b))) k=cA (cK P t) fun _=>(gt G->0<=b/\b<=es.length)/\k (.sl (es.take b.toNat)):=by grind[pV,cA]
def KH{t s n a m b}:pV P G t (.v (.string s)) (some (.v (.int n a))) (some (.v (.int m b))) k=if fW P t then(gt G->0<=a/\a<=b/\b<=s.size)/\k (.v (.string (s.extract a.toNat b.toNat)))else False:=(rfl)
def N5{t s n a}:pV P G t (.v (.string s)) (some (.v (.int n a))) none k=if fW P t then(gt G->0<=a/\a<=s.size)/\k (.v (.string (s.extract a.toNat s.size)))else False:=(rfl)
def Og{t s m b}:pV P G t (.v (.string s)) none (some (.v (.int m b))) k=if fW P t then(gt G->0<=b/\b<=s.size)/\k (.v (.string (s.extract 0 b.toNat)))else False:=(rfl)
def TE{P:Program}{t es n m}{a b:Int}:Ie P G t (.sl es) (.v (.int n a)) (.v (.int m b)) k=cA (cK P t) fun _=>(gt G->a=es.length/\b=es.length)/\k (.cl es):=by grind[Ie,cA]
@[congr] theorem aclip_c {P:Program} {t x x' a a' b b'} (h:x=x') (h1:a=a') (h2:b=b'):Ie P G t x a b k=Ie P G t x' a' b' k:=h▸h1▸h2▸rfl
def Ol{t s n i}:Bc P G t (.v (.string s)) (.v (.int n i)) k=if fW P t then(gt G->0<=i/\i<s.size)/\k (.v (.int .u8 ((s.data.getD i.toNat 0).toNat:Int)))else False:=(rfl)
def Pi{t cs n i}:Bc P G t (.agg cs) (.v (.int n i)) k=cA (HA P t) fun e=>(gt G->0<=i/\i<e.1)/\apart G (i.toNat*e.2.1) e.2.2 (.agg cs) k:=by grind[Bc,cA]
def KD{cs}{k:List AV->Prop}:pT (.agg cs) k=k cs:=(rfl)
def SJ{v}{k:List AV->Prop}:pT (.v v) k=(v.oneCell'=true/\k [.v v]):=(rfl)
def Nc{es}{k:List AV->Prop}:pT (.sl es) k=k [.sl es]:=(rfl)
def Nr{cs o}{k:List AV->Prop}:pT (.rp cs o) k=k [.rp cs o]:=(rfl)
def O5{j}{k:List AV->Prop}:pT (.os j) k=k [.os j]:=(rfl)
def NW{j i f}{k:List AV->Prop}:pT (.op j i f) k=k [.op j i f]:=(rfl)
def Pl{t l}:Cw P t l k=cA (dX P t) fun z=>cA (eH P t) fun A=>cA (xU A z l) fun cs=>k (.agg cs):=by
 cases h1:dX P t with
 | none=>grind[Cw,cA]
 | some z=>cases E:eH P t<;>grind[Cw,cA]
def wgd(x:AV)(w:Bool)(F:Option Bool->Prop):Prop:=match x with
 | .v (.bool b)=>F (some (b == w))
 | .gd g (.v (.bool b))=>F (some (g&&(b == w)))
 | _=>False
@[congr] theorem wgd_c {x x' w F} (h:x=x'):wgd x w F=wgd x' w F:=h▸rfl
def azT{b w F}:wgd (.v (.bool b)) w F=F (some (b == w)):=(rfl)
def azU{g b w F}:wgd (.gd g (.v (.bool b))) w F=F (some (g&&(b == w))):=(rfl)
def Jc{F}:dF ops ρ none F=F none:=(rfl)
def ID{j w F}:dF ops ρ (some (j,w)) F=cA ((ops[j]?).bind (·.dst)) fun t=>wgd (ρ t) w F:=by grind[dF,cA,wgd]
def pZ(K:Env->aM->Prop)(ρ:Env)(d:Option Tmp)(G:Option Bool)(H:aM)(x:AV):Prop:=K (upd ρ d (wr G x)) H
def Pd{x}:pZ K ρ d none H x=K (upd ρ d x) H:=(rfl)
def Ng{b x}:pZ K ρ d (some b) H x=K (upd ρ d (.gd b x)) H:=(rfl)
end
section
variable{P:Program}{C:nP}{PC:FuncId->List AV->aM->AV->Prop}{mt:Nat->Bool}{q:Bool}{ops:Array Oper}{d:Option Tmp}{ty:TypeId}{pos:String}{aft:Array Edge}{gd:Option (Nat×Bool)}{ρ:Env}{H:aM}{K:Env->aM->Prop}
def amJ{x}:aop P C PC mt q ops ⟨d,.move x,ty,pos,aft,gd⟩ ρ H K=dF ops ρ gd fun G=>if vQ mt d=true then G=none/\q=false/\DT x ρ d H K else cE G (aev ρ x) (pZ K ρ d G H):=(rfl)
def ajM{c a b}:aop P C PC mt q ops ⟨d,.pick c a b,ty,pos,aft,gd⟩ ρ H K=dF ops ρ gd fun G=>cE G (aev ρ c) fun x=>wpick G x (aev ρ a) (aev ρ b) (pZ K ρ d G H):=(rfl)
def aeX{t l}: aop P C PC mt q ops ⟨d, .build t l, ty, pos, aft, gd⟩ ρ H K = dF ops ρ gd fun G => if vQ mt d = true then G = none /\ (if q = true then tV none ρ l.toList (fun l => cA (dX P t) fun z => cA (eH P t) fun A => cA (uG P t) fun nl => cA (xU A (Ni nl z) l) fun cs => pZ K ρ d none H (.agg cs)) else
   tV none ρ l.toList (fun l=>cA (dX P t) fun z=>cA (eH P t) fun A=>cA (uG P t) fun nl=>mD nl z H fun z H=>cA (xU A z l) fun cs=>pZ K ρ d none H (.agg cs)))
  else tV G ρ l.toList fun l=>Cw P t l (pZ K ρ d G H):=by
 show dF ops ρ gd (fun G=>if vQ mt d=true then G=none/\(if q=true then DS P ⟨d,.build t l,ty,pos,aft,gd⟩ t l.toList ρ H K else FF P ⟨d,.build t l,ty,pos,aft,gd⟩ t l.toList ρ H K)else _)=_
 congr 1;funext G;congr 3
 ·unfold DS
  congr 1;funext l
  cases h1:dX P t with
  | none=>rfl
  | some z=>cases I:eH P t with
   | none=>rfl
   | some A=>cases E:uG P t with
    | none=>rfl
    | some nl=>simp only[cA];cases F:xU A (Ni nl z) l <;> rfl
 unfold FF
 congr 1;funext l
 cases h1:dX P t with
 | none=>rfl
 | some z=>cases I:eH P t with
  | none=>rfl
  | some A=>cases E:uG P t with
   | none=>rfl
   | some nl=>simp only[cA];congr 1;funext z H;cases F:xU A z l <;> rfl
def arC{t x}:aop P C PC mt q ops ⟨d,.load t x,ty,pos,aft,gd⟩ ρ H K=dF ops ρ gd fun G=>if vQ mt d=true then G=none/\q=false/\cA (ldT P t) fun l=>cE none (aev ρ x) fun y=>sM none H l y fun z=>Lu z ρ d H K else cA (ldT P t) fun l=>cE G (aev ρ x) fun y=>sM G H l y (pZ K ρ d G H):=by
 show dF ops ρ gd (fun G=>if vQ mt d=true then G=none/\q=false/\jV P none ρ H (.load t x) fun z=>Lu z ρ d H K else jV P G ρ H (.load t x) (pZ K ρ d G H))=_
 grind[jV,cA]
def Qq{x}:aop P C PC mt q ops ⟨d,.nilCheck x,ty,pos,aft,gd⟩ ρ H K=dF ops ρ gd fun G=>cE G (aev ρ x) fun y=>aeE G y (pZ K ρ d G H):=(rfl)
def auW{op t x y t'}:aop P C PC mt q ops ⟨d,.binOp op t x y t',ty,pos,aft,gd⟩ ρ H K=dF ops ρ gd fun G=>if yC y=true then cE G (aev ρ x) fun x=>cR P t=true/\vC op x (pZ K ρ d G H)else cE G (aev ρ x) fun x=>cE G (aev ρ y) fun y=>kV P G op t x y (pZ K ρ d G H):=(rfl)
def aAZ{op t x}:aop P C PC mt q ops ⟨d,.unOp op t x,ty,pos,aft,gd⟩ ρ H K=dF ops ρ gd fun G=>cE G (aev ρ x) fun x=>aun op x (pZ K ρ d G H):=(rfl)
def anQ{s t x}:aop P C PC mt q ops ⟨d,.convert s t x,ty,pos,aft,gd⟩ ρ H K=dF ops ρ gd fun G=>cE G (aev ρ x) fun x=>Dr P s t x (pZ K ρ d G H):=(rfl)
def Qk{t x lo A}:aop P C PC mt q ops ⟨d,.slice t x (some lo) (some A) none,ty,pos,aft,gd⟩ ρ H K=dF ops ρ gd fun G=>cE G (aev ρ x) fun x=>cE G (aev ρ lo) fun lo=>cE G (aev ρ A) fun A=>asl P G H t x (some lo) (some A) (pZ K ρ d G H):=(rfl)
def Ud{t x A m}:aop P C PC mt q ops ⟨d,.slice t x none (some A) (some m),ty,pos,aft,gd⟩ ρ H K=dF ops ρ gd fun G=>cE G (aev ρ x) fun x=>cE G (aev ρ A) fun A=>cE G (aev ρ m) fun m=>Ie P G t x A m (pZ K ρ d G H):=(rfl)
def Um{t x lo}:aop P C PC mt q ops ⟨d,.slice t x (some lo) none none,ty,pos,aft,gd⟩ ρ H K=dF ops ρ gd fun G=>cE G (aev ρ x) fun x=>cE G (aev ρ lo) fun lo=>asl P G H t x (some lo) none (pZ K ρ d G H):=(rfl)
def RG{t x A}:aop P C PC mt q ops ⟨d,.slice t x none (some A) none,ty,pos,aft,gd⟩ ρ H K=dF ops ρ gd fun G=>cE G (aev ρ x) fun x=>cE G (aev ρ A) fun A=>asl P G H t x none (some A) (pZ K ρ d G H):=(rfl)
def MQ{t x f}:aop P C PC mt q ops ⟨d,.fieldAddr t x f,ty,pos,aft,gd⟩ ρ H K=dF ops ρ gd fun G=>cE G (aev ρ x) fun x=>lU P t f x (pZ K ρ d G H):=(rfl)
def MV{t x i}:aop P C PC mt q ops ⟨d,.indexAddr t x i,ty,pos,aft,gd⟩ ρ H K=dF ops ρ gd fun G=>cE G (aev ρ x) fun x=>cE G (aev ρ i) fun i=>gL P G H t x i (pZ K ρ d G H):=(rfl)
def agX{t x i}:aop P C PC mt q ops ⟨d,.index t x i,ty,pos,aft,gd⟩ ρ H K=dF ops ρ gd fun G=>cE G (aev ρ x) fun x=>cE G (aev ρ i) fun i=>Bc P G t x i (pZ K ρ d G H):=(rfl)
def Sf{x i}:aop P C PC mt q ops ⟨d,.extract x i,ty,pos,aft,gd⟩ ρ H K=dF ops ρ gd fun G=>cE G (aev ρ x) fun x=>auG G x i (pZ K ρ d G H):=(rfl)
def Yd{x}:aop P C PC mt q ops ⟨d,.assign x,ty,pos,aft,gd⟩ ρ H K=dF ops ρ gd fun G=>if vQ mt d=true/\G=none/\q=false/\yC x=true then cA (cK P ty) fun e=>sO H ⟨e.1,e.2.1,[]⟩ (acF K ρ d)else cE G (aev ρ x) (pZ K ρ d G H):=by
 show dF ops ρ gd (fun G=>Gz P mt q G ⟨d,.assign x,ty,pos,aft,gd⟩ x ρ H K)=_
 congr 1;funext G
 unfold Gz;cases h1:cK P ty <;> rfl
def aiT{t}:aop P C PC mt q ops ⟨d,.alloc t,ty,pos,aft,gd⟩ ρ H K=dF ops ρ gd fun G=>cA (dX P t) fun z=>G=none/\q=false/\(if vQ mt d=true then cA (uG P t) fun nl=>mD nl z H fun z H=>sO H ⟨t,z.length,[z]⟩ (ZR K ρ d)else sO H ⟨t,z.length,[z]⟩ (ZR K ρ d)):=by
 show dF ops ρ gd (fun G=>match dX P t with
   | some z => G = none /\ q = false /\ (if vQ mt d = true then match uG P t with
       | some nl=>mD nl z H fun z H=>sO H ⟨t,z.length,[z]⟩ fun k H'=>K (upd ρ d (.op k 0 0)) H'
       | none=>False
     else sO H ⟨t,z.length,[z]⟩ fun k H'=>K (upd ρ d (.op k 0 0)) H')
   | none=>False)=_
 congr 1;funext G;cases h1:dX P t <;> cases A:uG P t <;> rfl
def awC{t x}:aop P C PC mt q ops ⟨d,.box t x,ty,pos,aft,gd⟩ ρ H K=dF ops ρ gd fun G=>G=none/\q=false/\cE G (aev ρ x) fun x=>pT x fun cs=>if vQ mt d=true then 0<cs.length/\sO H ⟨t,cs.length,[cs]⟩ (ZR K ρ d)else K (upd ρ d (.rp cs 0)) H:=(rfl)
def Mb{t n l}:aop P C PC mt q ops ⟨d,.buildSlice t n l,ty,pos,aft,gd⟩ ρ H K=dF ops ρ gd fun G=>q=false/\tV G ρ l.toList fun l=>cA (cK P t) fun e=>(l.map (·.1)=Qb 0 n/\cT e.2.1 (l.map (·.2))/\n*e.2.1<=16777216)/\(if vQ mt d=true/\G=none then sO H ⟨e.1,e.2.1,l.map (·.2)⟩ (acF K ρ d)else pZ K ρ d G H (.sl (l.map (·.2)))):=by
 show dF ops ρ gd (fun G=>q=false/\tV G ρ l.toList fun l'=>rD P mt G ⟨d,.buildSlice t n l,ty,pos,aft,gd⟩ t n l' ρ H K)=_
 congr 1;funext G;congr 2;funext l;unfold rD;cases h1:cK P t <;> rfl
def aiC{t x y}:aop P C PC mt q ops ⟨d,.store t x y,ty,pos,aft,gd⟩ ρ H K=dF ops ρ gd fun G=>G=none/\q=false/\(if yC y=true then cE G (aev ρ x) fun x=>cA (cK P t) fun e=>sO H ⟨e.1,e.2.1,[]⟩ (fun j H=>adH P d t x [.os j] ρ H K)else cE G (aev ρ x) fun x=>cE G (aev ρ y) fun y=>pT y fun cs=>adH P d t x cs ρ H K):=by
 show dF ops ρ gd (fun G => G = none /\ q = false /\ (if yC y = true then cE G (aev ρ x) fun a => match cK P t with
       | some (e,sz,_)=>sO H ⟨e,sz,[]⟩ fun k H=>yL P _ t a [.os k] ρ H K
       | none=>False
     else cE G (aev ρ x) fun a=>cE G (aev ρ y) fun x=>pT x fun cs=>yL P _ t a cs ρ H K))=_
 congr 1;funext G;congr 4;funext a
 cases h1:cK P t <;> rfl
def atI:Db P C PC mt ops K [] ρ H=K ρ H:=(rfl)
def aAE{k f}:Db P C PC mt ops K ((k,true)::f) ρ H=cA ops[k]? fun o=>aop P C PC mt true ops o ρ (qH o H) fun A _=>Db P C PC mt ops K f A H:=by grind[Db,cA]
def aAC{k f}:Db P C PC mt ops K ((k,false)::f) ρ H=cA ops[k]? fun o=>aop P C PC mt false ops o ρ H (Db P C PC mt ops K f):=by grind[Db,cA]
def aeD{Hp}:BZ P C PC mt ops K Hp [] ρ H=K ρ H:=(rfl)
def avG{Hp k f}:BZ P C PC mt ops K Hp ((k,true)::f) ρ H=cA ops[k]? fun o=>aop P C PC mt true ops o ρ Hp fun A _=>BZ P C PC mt ops K Hp f A H:=by grind[BZ,cA]
def ayU{Hp k f}:BZ P C PC mt ops K Hp ((k,false)::f) ρ H=cA ops[k]? fun o=>aop P C PC mt false ops o ρ H (BZ P C PC mt ops K Hp f):=by grind[BZ,cA]
def aBs{k}:BI P C PC mt q ops k ρ H K=cA ops[k]? fun o=>aop P C PC mt q ops o ρ H K:=by grind[BI,cA]
def ahS{Hp}:mL P C PC mt ops K Hp .nil ρ H=K ρ H:=(rfl)
def ayV{Hp k t}:mL P C PC mt ops K Hp (.q k t) ρ H=BI P C PC mt true ops k ρ Hp fun A _=>mL P C PC mt ops K Hp t A H:=(rfl)
def awA{Hp k t}:mL P C PC mt ops K Hp (.a1 k t) ρ H=BI P C PC mt false ops k ρ H (mL P C PC mt ops K Hp t):=(rfl)
def jG{Hp k t k' t'}(h:BI P C PC mt false ops k ρ H (mL P C PC mt ops K Hp t))(A:BI P C PC mt false ops k' ρ H (mL P C PC mt ops K Hp t')):mL P C PC mt ops K Hp (.a2 k t k' t') ρ H:=⟨h,A⟩
def ajY{Hp k t k' t' k'' t''}(h:BI P C PC mt false ops k ρ H (mL P C PC mt ops K Hp t))(E:BI P C PC mt false ops k' ρ H (mL P C PC mt ops K Hp t'))(A:BI P C PC mt false ops k'' ρ H (mL P C PC mt ops K Hp t'')):mL P C PC mt ops K Hp (.a3 k t k' t' k'' t'') ρ H:=⟨h,E,A⟩
def QY{f cap}:aop P C PC mt q ops ⟨d,.makeFunc (.func f) #[] cap,ty,pos,aft,gd⟩ ρ H K=dF ops ρ gd fun G=>Ek G ρ cap.toList fun l=>pZ K ρ d G H (.fn f l):=by
 show dF ops ρ gd (fun G=>jV P G ρ H (.makeFunc (.func f) #[] cap) (pZ K ρ d G H))=_
 grind[jV]
def ayZ(K:Env->aM->Prop)(ρ:Env)(d:Option Tmp)(j:Nat)(H:aM):Prop:=K (upd ρ d (.om j)) H
def Ub{j}:ayZ K ρ d j H=K (upd ρ d (.om j)) H:=(rfl)
def Wa{t x i ok}:aop P C PC mt q ops ⟨d,.lookup t x i ok,ty,pos,aft,gd⟩ ρ H K=dF ops ρ gd fun G=>cE G (aev ρ x) fun x=>cE G (aev ρ i) fun i=>zB P H t x i ok (pZ K ρ d G H):=(rfl)
def SS{t}:aop P C PC mt q ops ⟨d,.makeMap t none,ty,pos,aft,gd⟩ ρ H K=dF ops ρ gd fun G=>G=none/\q=false/\sO H ⟨0,2,[]⟩ (ayZ K ρ d):=(rfl)
def OE(P:Program)(d:Option Tmp)(t:TypeId)(m x v:AV)(ρ:Env)(H:aM)(K:Env->aM->Prop):Prop:=oZ P ⟨d,.move (.tmp 0),0,"",#[],none⟩ t m x v ρ H K
@[congr] theorem wmapU_c {P d t m m' x x' v v' ρ H K} (h0:m=m') (h1:x=x') (h2:v=v'):OE P d t m x v ρ H K=OE P d t m' x' v' ρ H K:=h0▸h1▸h2▸rfl
def aoP(P:Program)(d:Option Tmp)(t:TypeId)(m x:AV)(ρ:Env)(H:aM)(K:Env->aM->Prop):Prop:=DQ P ⟨d,.move (.tmp 0),0,"",#[],none⟩ t m x ρ H K
@[congr] theorem wmapE_c {P d t m m' x x' ρ H K} (h0:m=m') (h1:x=x'):aoP P d t m x ρ H K=aoP P d t m' x' ρ H K:=h0▸h1▸rfl
def apX(d:Option Tmp)(m s v:AV)(ρ:Env)(H:aM)(K:Env->aM->Prop):Prop:=yU ⟨d,.move (.tmp 0),0,"",#[],none⟩ m s v ρ H K
@[congr] theorem wmapS_c {d m m' x x' v v' ρ H K} (h0:m=m') (h1:x=x') (h2:v=v'):apX d m x v ρ H K=apX d m' x' v' ρ H K:=h0▸h1▸h2▸rfl
@[congr] theorem alookup_c {P H t x x' i i' ok k} (h0:x=x') (h1:i=i'):zB P H t x i ok k=zB P H t x' i' ok k:=h0▸h1▸rfl
def M6{t m x v}:aop P C PC mt q ops ⟨d,.mapUpdate t m x v,ty,pos,aft,gd⟩ ρ H K=dF ops ρ gd fun G=>G=none/\q=false/\cE G (aev ρ m) fun m=>cE G (aev ρ x) fun x=>cE G (aev ρ v) fun v=>OE P d t m x v ρ H K:=(rfl)
def X1{t m x v}:aop P C PC mt q ops ⟨d,.insert t m x v,ty,pos,aft,gd⟩ ρ H K=dF ops ρ gd fun G=>G=none/\q=false/\cE G (aev ρ m) fun m=>cE G (aev ρ x) fun x=>cE G (aev ρ v) fun v=>OE P d t m x v ρ H K:=(rfl)
def QT{t m x}:aop P C PC mt q ops ⟨d,.mapEntry t m x,ty,pos,aft,gd⟩ ρ H K=dF ops ρ gd fun G=>G=none/\q=false/\cE G (aev ρ m) fun m=>cE G (aev ρ x) fun x=>aoP P d t m x ρ H K:=(rfl)
def L1{t m s v}:aop P C PC mt q ops ⟨d,.entryStore t m s v,ty,pos,aft,gd⟩ ρ H K=dF ops ρ gd fun G=>G=none/\q=false/\cE G (aev ρ m) fun m=>cE G (aev ρ s) fun s=>cE G (aev ρ v) fun v=>apX d m s v ρ H K:=(rfl)
def AO{t j key ok k r kt oi z}(J:H j=some r)(E:Xa P t=some kt)(F:uU P kt.1 key=true)(A:yH (AT P kt.1 key) r.es 0=some oi)(I:NS P kt.2=some z)(h:k (Qs ok z r.es oi)):zB P H t (.om j) key ok k:=by grind[zB,Ij]
def JL{t j key v r kt oi}(I:H j=some r)(E:Xa P t=some kt)(F:uU P kt.1 key=true)(A:yH (AT P kt.1 key) r.es 0=some oi)(h:K (upd ρ d .any) (aI H j (some { r with es:=ahN r.es oi key v }))):OE P d t (.om j) key v ρ H K:=by grind[OE,oZ,Ij]
def Nb{t l c}:aop P C PC mt q ops ⟨d,.makeSlice t l c,ty,pos,aft,gd⟩ ρ H K=dF ops ρ gd fun G=>G=none/\q=false/\cE G (aev ρ l) fun l=>cE G (aev ρ c) fun c=>Sh P d t l c ρ H K:=(rfl)
def aiG{t args tys}:aop P C PC mt q ops ⟨d,.call ⟨.value (.tmp t),args,tys⟩,ty,pos,aft,gd⟩ ρ H K=dF ops ρ gd fun G=>cE G (ρ t) fun x=>cA (M3 x) fun y=>if vQ mt d=true then gt G/\q=false/\aE P y.1=true/\C y.1 (y.2.1++args.toList.map (Q5 ρ)++y.2.2) H (UU K ρ d)else Ek G ρ args.toList fun l=>aE P y.1=true/\(if G=none/\q=false then C y.1 (y.2.1++l++y.2.2) H (UU K ρ d)else ∃r,(gt G->PC y.1 (y.2.1++l++y.2.2) H r)/\nfq q r (pZ K ρ d G H)):=by
 show dF ops ρ gd (fun G=>Gj P C PC (vQ mt d) q G ⟨d,.call ⟨.value (.tmp t),args,tys⟩,ty,pos,aft,gd⟩ ⟨.value (.tmp t),args,tys⟩ ρ H K)=_
 congr 1;funext G
 simp only[Gj,aev]
 congr 1;funext x
 cases h:M3 x with
 | none=>rfl
 | some y=>rfl
def amQ{f args tys}:aop P C PC mt q ops ⟨d,.call ⟨.value (.func f),args,tys⟩,ty,pos,aft,gd⟩ ρ H K=dF ops ρ gd fun G=>if vQ mt d=true then gt G/\q=false/\aE P f=true/\C f (args.toList.map (Q5 ρ)) H (UU K ρ d)else Ek G ρ args.toList fun l=>aE P f=true/\(if G=none/\q=false then C f l H (UU K ρ d)else ∃r,(gt G->PC f l H r)/\nfq q r (pZ K ρ d G H)):=by
 show dF ops ρ gd (fun G=>Gj P C PC (vQ mt d) q G ⟨d,.call ⟨.value (.func f),args,tys⟩,ty,pos,aft,gd⟩ ⟨.value (.func f),args,tys⟩ ρ H K)=_
 congr 1;funext G
 simp only[Gj,aev,cE,M3,List.map_nil,List.nil_append,List.append_nil];rfl
def Tx{t}:Q5 ρ (.tmp t)=ρ t:=(rfl)
def Lk{v}:Q5 ρ (.const v)=.v v:=(rfl)
def OF{f}:Q5 ρ (.func f)=.v (.func (.func f) #[] #[]):=(rfl)
def atW{x t}:aop P C PC mt q ops ⟨d,.call ⟨.builtin .len,#[x],#[t]⟩,ty,pos,aft,gd⟩ ρ H K=dF ops ρ gd fun G=>cE G (aev ρ x) fun x=>LJ P H t x (pZ K ρ d G H):=(rfl)
def auM{x y t t'}:aop P C PC mt q ops ⟨d,.call ⟨.builtin .max,#[x,y],#[t,t']⟩,ty,pos,aft,gd⟩ ρ H K=dF ops ρ gd fun G=>cE G (aev ρ x) fun x=>cE G (aev ρ y) fun y=>YL x y (pZ K ρ d G H):=(rfl)
def avI{x y t t'}:aop P C PC mt q ops ⟨d,.call ⟨.builtin .min,#[x,y],#[t,t']⟩,ty,pos,aft,gd⟩ ρ H K=dF ops ρ gd fun G=>cE G (aev ρ x) fun x=>cE G (aev ρ y) fun y=>Xn x y (pZ K ρ d G H):=(rfl)
def aqR{n m a b}{k:AV->Prop}:YL (.v (.int n a)) (.v (.int m b)) k=k (.v (.int n (fX a b))):=(rfl)
def asS{n m a b}{k:AV->Prop}:Xn (.v (.int n a)) (.v (.int m b)) k=k (.v (.int n (aAg a b))):=(rfl)
def anI{x y t t'}:aop P C PC mt q ops ⟨d,.call ⟨.builtin .copy,#[x,y],#[t,t']⟩,ty,pos,aft,gd⟩ ρ H K=dF ops ρ gd fun G=>cE G (aev ρ x) fun x=>cE G (aev ρ y) fun y=>if G=none/\q=false then VM P d t x y ρ H K else False:=(rfl)
def ahE{x t}:aop P C PC mt q ops ⟨d,.call ⟨.builtin .clear,#[x],#[t]⟩,ty,pos,aft,gd⟩ ρ H K=dF ops ρ gd fun G=>cE G (aev ρ x) fun x=>if G=none/\q=false then Xi P d t x ρ H K else False:=(rfl)
def akR{G:Option Bool}{k:AV->Prop}{t es lo hi}:asl P G H t (.sl es) lo hi k=pV P G t (.sl es) lo hi k:=(rfl)
def azL{G:Option Bool}{k:AV->Prop}{t v lo hi}:asl P G H t (.v v) lo hi k=pV P G t (.v v) lo hi k:=(rfl)
def ayY{G:Option Bool}{k:AV->Prop}{t j n a}:asl P G H t (.os j) (some (.v (.int n a))) none k=cA (H j) fun r=>cA (cK P t) fun e=>(gt G->(0<=a/\a<=r.es.length)/\r.sz=e.2.1)/\k (.oz j a.toNat r.es.length):=by cases h1:H j <;> cases A:cK P t <;> simp[asl,cA,h1,A]
def abR{G:Option Bool}{k:AV->Prop}{t j a b n l}:asl P G H t (.oz j a b) (some (.v (.int n l))) none k=cA (H j) fun r=>cA (cK P t) fun e=>(gt G->(0<=l/\l<=(b-a:Nat))/\r.sz=e.2.1)/\k (.oz j (a+l.toNat) b):=by cases h1:H j <;> cases A:cK P t <;> simp[asl,cA,h1,A]
def UE{k:AV->Prop}{es}:vC .eql (.sl es) k=((es=[]->k (.v (.bool true)))/\k (.v (.bool false))):=(rfl)
def Ur{k:AV->Prop}{es}:vC .neq (.sl es) k=((es=[]->k (.v (.bool false)))/\k (.v (.bool true))):=(rfl)
def NO{k:AV->Prop}{j}:vC .eql (.os j) k=(k (.v (.bool true))/\k (.v (.bool false))):=(rfl)
def Pa{k:AV->Prop}:vC .eql (.v (.slice none 0 0)) k=k (.v (.bool true)):=(rfl)
def Np{k:AV->Prop}:vC .neq (.v (.slice none 0 0)) k=k (.v (.bool false)):=(rfl)
def O1{k:AV->Prop}{j}:vC .neq (.os j) k=(k (.v (.bool false))/\k (.v (.bool true))):=(rfl)
def We{s x t t'}:aop P C PC mt q ops ⟨d,.call ⟨.builtin .append,#[s,x],#[t,t']⟩,ty,pos,aft,gd⟩ ρ H K=dF ops ρ gd fun G=>cE G (aev ρ s) fun s=>cE G (aev ρ x) fun x=>if t=t'/\G=none/\q=false then Kp P d t s x ρ H K else False:=(rfl)
end
section
variable{P:Program}{d:Option Tmp}{ρ:Env}{H:aM}{K:Env->aM->Prop}
def Zs{t n a m b}:Sh P d t (.v (.int n a)) (.v (.int m b)) ρ H K=cA (cK P t) fun e=>cA (dX P e.1) fun z=>((0<=a/\a<=b)/\(e.2.2:Int)*b<=140737488355328)/\sO H ⟨e.1,e.2.1,List.replicate a.toNat z⟩ (acF K ρ d):=by
 unfold Sh wW;cases h1:cK P t with
 | none=>rfl
 | some e=>obtain⟨x,y,z⟩:=e;cases A:dX P x <;> simp[cA,A] <;> intros <;> rfl
def aBf{f first captured}:M3 (.v (.func (.func f) first captured))=some (f,first.toList.map .v,captured.toList.map .v):=(rfl)
def azA{q x}{k:AV->Prop}:nfq q (.v x) k=k (.v x):=by cases q <;> rfl
def Zl{q x}{k:AV->Prop}:nfq q (.agg x) k=k (.agg x):=by cases q <;> rfl
def aaJ{q x}{k:AV->Prop}:nfq q (.tup x) k=k (.tup x):=by cases q <;> rfl
def amL{x}{k:AV->Prop}:nfq false (.nf x) k=k x:=(rfl)
def avD{f l}:M3 (.fn f l)=some (f,[],l):=(rfl)
end
attribute [go_sem ↓] OS OQ Kk
attribute [go_sem] OS OQ Kk
@[congr] theorem asl_c {P G H t x x' lo lo' hi hi' k} (h:x=x') (h1:lo=lo') (h2:hi=hi'):asl P G H t x lo hi k=asl P G H t x' lo' hi' k:=h▸h1▸h2▸rfl
@[congr] theorem aeqNil_c {op x x' k} (h:x=x'):vC op x k=vC op x' k:=h▸rfl
def Qw{α:Type}{a:α}{l r:List α}:List.append (a::l) r=a::List.append l r:=(rfl)
def Tf{α:Type}{r:List α}:List.append [] r=r:=(rfl)
attribute [go_sem] Qw Tf
attribute [go_sem] qH
@[congr] theorem amax_c {x x' y y' K} (h:x=x') (h':y=y'):YL x y K=YL x' y' K:=h▸h'▸rfl
@[congr] theorem amin_c {x x' y y' K} (h:x=x') (h':y=y'):Xn x y K=Xn x' y' K:=h▸h'▸rfl
attribute [go_sem ↓] auM avI aqR asS
attribute [go_sem] aqR asS
@[congr] theorem pinEnd_c {l l' H K ρ H'} (h:l=l'):tK l H K ρ H'=tK l' H K ρ H':=h▸rfl
attribute [go_sem] Ni List.set_cons_zero List.set_cons_succ
attribute [go_sem ↓] ahS ayV awA aBs
attribute [go_sem ↓] aeD avG ayU
attribute [go_sem ↓] atI aAE aAC anI ahE akR azL ayY UE Ur NO O1 Pa Np
attribute [go_sem ↓] abR ZD Ez
attribute [go_sem] abR ZD Ez
attribute [go_sem] akR azL ayY UE Ur NO O1 Pa Np
attribute [go_sem ↓] azA Zl aaJ amL
attribute [go_sem ↓] Wa SS M6 X1 QT L1 Z6 Ub
attribute [go_sem] Z6 Ub
attribute [go_sem] azA Zl aaJ amL
attribute [go_sem ↓] QY Nb aiG Zs U7 T9 TL acY Jf ZW abA ZV TE Ud
attribute [go_sem] Zs U7 T9 TL acY Jf ZW abA ZV TE aBf avD
attribute [go_sem] ZQ azB
@[congr] theorem ownNils_c {l l' z z' H K} (h:l=l') (h':z=z'):mD l z H K=mD l' z' H K:=h▸h'▸rfl
def SY{z H K}:mD [] z H K=K z H:=(rfl)
def QX{o e sz r z H K}:mD ((o,e,sz)::r) z H K=sO H ⟨e,sz,[]⟩ fun k H'=>mD r (z.set o (.os k)) H' K:=(rfl)
attribute [go_sem ↓] SY QX
attribute [go_sem ↓] arW KW Tv Z9 VI O7 Nv afI Ut ajJ avQ alM agN W0 amO ayK XZ ZA SO ahJ
attribute [go_sem ↓] Ek tV amJ ajM aeX arC Qq auW aAZ anQ Qk Um RG MQ MV agX Sf Yd aiT awC Mb aiC amQ atW We
attribute [go_sem ↓] Zj aaW abM VD acA RJ Td Vw Uy RL TG VJ Uk T3 UL UV Oh ND NT OJ Nm Nn Oc Vj Uv TY ZK abI Nz NV OI NF ZN abV aaQ aaI aaM Ej Ep Ei Eo Ey Em abT acB OT Nq Ux NN Sp VQ KH N5 Og Ol Pi KD SJ Nc Nr O5 NW Pl azT azU Jc ID amV UP aaV acO RY Tj aaT acG ZC Ki Pd Ng Uu TN Vb ZE NI Tz Tx Lk OF
attribute [go_sem] YF Zj aaW abM VD acA RJ Td Vw Uy RL TG VJ Uk T3 UL UV Oh ND NT OJ Nm Nn Oc Vj Uv TY ZK abI Nz NV OI NF ZN abV aaQ aaI aaM Ej Ep Ei Eo Ey Em abT acB OT Nq Ux NN Sp VQ KH N5 Og Ol Pi KD SJ Nc Nr O5 NW Pl azT azU Jc ID amV UP aaV acO RY Tj aaT acG ZC Ki Pd Ng Uu TN Vb ZE NI Tz Tx Lk OF
attribute [go_sem] aAa ajT vQ yC uT Ho gt gok wr Dj lA Sa Value.oneCell' Qb cT wZ Option.map_some xU qF aB
attribute [go_sem] Bool.false_eq_true if_false if_true reduceCtorEq true_and and_true false_and and_false false_implies true_implies implies_true forall_const and_self imp_self ne_eq not_true_eq_false not_false_eq_true
attribute [go_sem] List.getD_cons_zero List.getD_cons_succ List.getD_nil List.length_cons List.length_nil List.drop_zero List.drop_succ_cons List.take_succ_cons List.take_zero Option.getD_some Option.getD_none Nat.zero_add Nat.add_zero List.map_cons List.map_nil List.cons_append List.nil_append List.append_nil
attribute [go_sem] Option.bind_some List.getElem?_toArray List.getElem?_cons_zero List.getElem?_cons_succ
attribute [go_sem ↓] reduceIte
attribute [go_sem] Nat.reduceEqDiff Nat.reduceAdd Nat.reduceMul Nat.reduceSub Nat.reduceLT Nat.reduceLeDiff Nat.reduceBEq
end Go.Aw
end
section
namespace Go.Aw
open Go.RowKit
structure Sg where
 ro:Nat->Prop
 fz:Nat->Prop
 loc:Nat->Value
 sz:Nat->Nat
 N:Nat
mutual
def rep(S:Sg)(w:World):AV->Value->Prop
 | .v x,y=>y=x
 | .any,_=>True
 | .sl es,y=>∃ad n c,y=.slice ad n c/\es.length=n/\n<=c/\c<=maxLen/\(es=[]\/∃b o sz,ad=some ⟨b,o,none⟩/\S.ro b/\0<sz/\jX S w b sz o es)
 | .rp cs off,y=>∃b o,y=.pointer (some ⟨b,o+off,none⟩)/\S.ro b/\dS S w b o cs
 | .agg cs,y=>∃l:List Value,y=.agg l.toArray/\bR S w cs l/\∀u∈l,u.oneCell'=true
 | .tup vs,y=>∃l:List Value,y=.tuple l.toArray/\bR S w vs l
 | .os k,y=>k<S.N/\y=S.loc k/\∃a n c,y=.slice a n c
 | .op k i f,y=>k<S.N/\∃g n c,S.loc k=.slice (some ⟨g,0,none⟩) n c/\y=.pointer (some ⟨g,i*S.sz k+f,none⟩)
 | .gd g x,y=>(g=true->rep S w x y)/\(g=false->y=undef)
 | .nf x,y=>rep S w x y
 | .fn f cap,y=>∃l:List Value,y=.func (.func f) #[] l.toArray/\bR S w cap l
 | .om k,y=>k<S.N/\y=S.loc k/\∃g,y=.map (some g)
 | .cl es,y=>∃ad n,y=.slice ad n n/\es.length=n/\n<=maxLen/\(es=[]\/∃b o sz,ad=some ⟨b,o,none⟩/\S.ro b/\0<sz/\jX S w b sz o es)
 | .oz k a b,y=>k<S.N/\∃ad n c ad' cc,S.loc k=.slice ad n c/\y=.slice ad' (b-a) cc/\a<=b/\b<=n/\(a<c->∃g,ad=some ⟨g,0,none⟩/\ad'=some ⟨g,a*S.sz k,none⟩)/\(a=0->ad'=ad/\cc=c)/\n<=c/\cc=c-a
def bR(S:Sg)(w:World):List AV->List Value->Prop
 | [],l=>l=[]
 | x::r,l=>∃u t,l=u::t/\rep S w x u/\bR S w r t
def dS(S:Sg)(w:World)(b:Nat):Nat->List AV->Prop
 | _,[]=>True
 | o,x::r=>(∃u,w.cell? ⟨b,o,none⟩=some u/\u.oneCell'=true/\rep S w x u)/\dS S w b (o+1) r
def jX(S:Sg)(w:World)(b sz:Nat):Nat->List (List AV)->Prop
 | _,[]=>True
 | o,cs::r=>cs.length=sz/\dS S w b o cs/\jX S w b sz (o+sz) r
end
structure Sg.le(S S':Sg):Prop where
 ro:∀k,S.ro k->S'.ro k
 N:S.N<=S'.N
 loc:∀k,k<S.N->S'.loc k=S.loc k
 sz:∀k,k<S.N->S'.sz k=S.sz k
def Sg.le_refl(S:Sg):S.le S:=⟨fun _ h=>h,Nat.le_refl _,fun _ _=>rfl,fun _ _=>rfl⟩
def Sg.le_trans{S S' E:Sg}(h:S.le S')(F:S'.le E):S.le E:=
 ⟨fun k A=>F.ro k (h.ro k A),Nat.le_trans h.N F.N,fun k A=>(F.loc k (Nat.lt_of_lt_of_le A h.N)).trans (h.loc k A),
  fun k A=>(F.sz k (Nat.lt_of_lt_of_le A h.N)).trans (h.sz k A)⟩
def blk:Value->Option Nat
 | .slice (some a) _ _=>some a.block
 | .map (some g)=>some g
 | _=>none
def iT(S:Sg)(w w':World):Prop:=∀k,S.ro k->w'.heap[k]?=w.heap[k]?
theorem iT.refl(S:Sg)(w:World):iT S w w:=fun _ _=>rfl
section
variable{S S':Sg}{w w':World}
def iT.cell(h:iT S w w'){b o:Nat}(A:S.ro b):w'.cell? ⟨b,o,none⟩=w.cell? ⟨b,o,none⟩:=World.cell?_of_block (a:=⟨b,o,none⟩) (h b A)
mutual
theorem oY(A:S.le S')(E:iT S w w'):∀(x:AV) (y:Value),rep S w x y->rep S' w' x y
 | .v _,_,h=>h
 | .any,_,_=>trivial
 | .sl es,y,h=>by
  simp only[rep]at h |-;obtain⟨ad,n,c,rfl,h1,Z,U,J⟩:=h;refine⟨ad,n,c,rfl,h1,Z,U,?_⟩;rcases J with J|⟨b,o,sz,rfl,F,O,T⟩
  ·grind
  ·exact .inr ⟨b,o,sz,rfl,A.ro b F,O,Fa A E F sz o es T⟩
 | .rp cs off,y,h=>by simp only[rep]at h |-;obtain⟨b,o,rfl,F,X⟩:=h;exact⟨b,o,rfl,A.ro b F,BS A E F o cs X⟩
 | .agg cs,y,h=>by simp only[rep]at h |-;obtain⟨l,rfl,I,h1⟩:=h;exact⟨l,rfl,fQ A E cs l I,h1⟩
 | .tup vs,y,h=>by simp only[rep]at h |-;obtain⟨l,rfl,I⟩:=h;exact⟨l,rfl,fQ A E vs l I⟩
 | .os k,y,h=>by simp only[rep]at h |-;exact⟨Nat.lt_of_lt_of_le h.1 A.N,by rw[A.loc k h.1];grind⟩
 | .op k i f,y,h=>by
  simp only[rep]at h |-;refine⟨Nat.lt_of_lt_of_le h.1 A.N,?_⟩;rw[A.loc k h.1,A.sz k h.1]
  grind
 | .gd g x,y,h=>by simp only[rep]at h |-;exact⟨fun Y=>oY A E x y (h.1 Y),h.2⟩
 | .nf x,y,h=>by simp only[rep]at h |-;exact oY A E x y h
 | .fn f cap,y,h=>by simp only[rep]at h |-;obtain⟨l,rfl,I⟩:=h;exact⟨l,rfl,fQ A E cap l I⟩
 | .om k,y,h=>by simp only[rep]at h |-;exact⟨Nat.lt_of_lt_of_le h.1 A.N,by rw[A.loc k h.1];grind⟩
 | .oz k a b,y,h=>by
  simp only[rep]at h |-;refine⟨Nat.lt_of_lt_of_le h.1 A.N,?_⟩;rw[A.loc k h.1,A.sz k h.1]
  grind
 | .cl es,y,h=>by
  simp only[rep]at h |-;obtain⟨ad,n,rfl,h1,U,J⟩:=h;refine⟨ad,n,rfl,h1,U,?_⟩;rcases J with J|⟨b,o,sz,rfl,F,O,T⟩
  ·grind
  ·exact .inr ⟨b,o,sz,rfl,A.ro b F,O,Fa A E F sz o es T⟩
theorem fQ(E:S.le S')(A:iT S w w'):∀(x:List AV) (l:List Value),bR S w x l->bR S' w' x l
 | [],_,h=>h
 | x::r,l,h=>by simp only[bR]at h |-;obtain⟨u,t,rfl,h1,F⟩:=h;exact⟨u,t,rfl,oY E A x u h1,fQ E A r t F⟩
theorem BS(F:S.le S')(A:iT S w w'){b:Nat}(E:S.ro b):∀(o:Nat) (x:List AV),dS S w b o x->dS S' w' b o x
 | _,[],_=>trivial
 | o,x::r,h=>by simp only[dS]at h |-;obtain⟨⟨u,h1,O,I⟩,J⟩:=h;exact⟨⟨u,by rw[A.cell E];exact h1,O,oY F A x u I⟩,BS F A E (o+1) r J⟩
theorem Fa(F:S.le S')(A:iT S w w'){b:Nat}(E:S.ro b)(sz:Nat):∀(o:Nat) (x:List (List AV)),jX S w b sz o x->jX S' w' b sz o x
 | _,[],_=>trivial
 | o,x::r,h=>by simp only[jX]at h |-;exact⟨h.1,BS F A E o x h.2.1,Fa F A E sz (o+sz) r h.2.2⟩
end
def CR:∀(cs:List AV) (o j:Nat) {b:Nat},dS S w b o cs->j<cs.length->∃u,w.cell? ⟨b,o+j,none⟩=some u/\u.oneCell'=true/\rep S w (cs.getD j .any) u
 | [],_,_,_,_,h=>by grind
 | x::r,o,0,b,h,_=>by grind[dS]
 | x::r,o,j+1,b,h,hj=>by simp only[dS]at h;have:=CR r (o+1) j h.2 (by simpa using hj);rw[show o+1+j=o+(j+1)by omega]at this;simpa using this
def BO:∀(cs:List AV) (o j:Nat) {b:Nat},dS S w b o cs->dS S w b (o+j) (cs.drop j)
 | [],_,_,_,_=>by simp[dS]
 | x::r,o,0,b,h=>by grind
 | x::r,o,j+1,b,h=>by
  simp only[dS]at h;have:=BO r (o+1) j h.2
  grind
def A8:∀(cs:List AV) (o j:Nat) {b:Nat},dS S w b o cs->dS S w b o (cs.take j)
 | [],_,_,_,_=>by grind
 | x::r,o,0,b,h=>by simp[dS]
 | x::r,o,j+1,b,h=>by simp only[dS,List.take_succ_cons]at h |-;exact⟨h.1,A8 r (o+1) j h.2⟩
def pD:∀(cs:List AV) (o:Nat) {b:Nat},dS S w b o cs->∃l:List Value,l.length=cs.length/\bR S w cs l/\(∀u∈l,u.oneCell'=true)/\∀j u,l[j]?=some u->w.cell? ⟨b,o+j,none⟩=some u
 | [],_,_,_=>⟨[],rfl,by rfl,by simp,by simp⟩
 | x::r,o,b,h=>by
  simp only[dS]at h;obtain⟨⟨u,h1,J,E⟩,I⟩:=h;obtain⟨l,U,F,O,T⟩:=pD r (o+1) I;refine⟨u::l,by simp[U],?_,?_,?_⟩
  ·simp only[bR];exact⟨u,l,rfl,E,F⟩
  ·intro v A;rcases List.mem_cons.1 A with rfl|A
   ·exact J
   ·exact O v A
  ·intro j v A;cases j with
   | zero=>simp at A;subst A;simpa using h1
   | succ j=>rw[show o+(j+1)=o+1+j by omega];exact T j v (by simpa using A)
def wG:∀(es:List (List AV)) (o i:Nat) {b sz:Nat},jX S w b sz o es->i<es.length->(es.getD i []).length=sz/\dS S w b (o+i*sz) (es.getD i [])
 | [],_,_,_,_,_,h=>by grind
 | x::r,o,0,b,sz,h,_=>by grind[jX]
 | x::r,o,i+1,b,sz,h,hi=>by simp only[jX]at h;have:=wG r (o+sz) i h.2.2 (by simpa using hi);rw[show o+sz+i*sz=o+(i+1)*sz by rw[Nat.add_mul];omega]at this;simpa using this
theorem E2:∀(es:List (List AV)) (o i:Nat) {b sz:Nat},jX S w b sz o es->jX S w b sz (o+i*sz) (es.drop i)
 | [],_,_,_,_,_=>by simp[jX]
 | x::r,o,0,b,sz,h=>by grind
 | x::r,o,i+1,b,sz,h=>by simp only[jX]at h;have:=E2 r (o+sz) i h.2.2;rw[show o+sz+i*sz=o+(i+1)*sz by rw[Nat.add_mul];omega]at this;simpa using this
theorem Bv:∀(es:List (List AV)) (o i:Nat) {b sz:Nat},jX S w b sz o es->jX S w b sz o (es.take i)
 | [],_,_,_,_,_=>by grind
 | x::r,o,0,b,sz,h=>by simp[jX]
 | x::r,o,i+1,b,sz,h=>by simp only[jX,List.take_succ_cons]at h |-;exact⟨h.1,h.2.1,Bv r _ i h.2.2⟩
def xI:∀(xs A:List AV) (o:Nat) {b:Nat},dS S w b o (xs++A)↔dS S w b o xs/\dS S w b (o+xs.length) A
 | [],A,o,b=>by simp[dS]
 | x::r,A,o,b=>by simp only[List.cons_append,dS,xI r A (o+1),List.length_cons,show o+1+r.length=o+(r.length+1)by omega,and_assoc]
def Bs:∀(es:List (List AV)) (o:Nat) {b sz:Nat},jX S w b sz o es->dS S w b o es.flatten
 | [],_,_,_,_=>by simp[dS]
 | x::r,o,b,sz,h=>by simp only[jX]at h;rw[List.flatten_cons,xI];refine⟨h.2.1,?_⟩;rw[h.1];exact Bs r _ h.2.2
def uC:∀(es:List (List AV)) (o:Nat) {b sz:Nat},(∀cs∈es,cs.length=sz)->dS S w b o es.flatten->jX S w b sz o es
 | [],_,_,_,_,_=>by simp[jX]
 | x::r,o,b,sz,hl,h=>by rw[List.flatten_cons,xI]at h;have A:=hl x (by simp);rw[A]at h;simp only[jX];exact⟨A,h.1,uC r _ (fun cs E=>hl cs (by simp[E])) h.2⟩
theorem qI:∀(es:List (List AV)) {sz:Nat},(∀cs∈es,cs.length=sz)->es.flatten.length=es.length*sz
 | [],_,_=>by simp
 | x::r,sz,hl=>by rw[List.flatten_cons,List.length_append,hl x (by simp),qI r (fun cs A=>hl cs (by simp[A])),List.length_cons,Nat.add_mul];omega
theorem jE:∀(x:List AV) (l:List Value),bR S w x l->l.length=x.length
 | [],l,h=>by grind[bR]
 | x::r,l,h=>by simp only[bR]at h;obtain⟨u,t,rfl,_,A⟩:=h;simp[jE r t A]
def Gt:∀(x:List AV) (l:List Value) (j:Nat),bR S w x l->j<x.length->∃u,l[j]?=some u/\rep S w (x.getD j .any) u
 | [],_,_,_,h=>by grind
 | x::r,l,j,h,hj=>by
  simp only[bR]at h;obtain⟨u,t,rfl,h1,F⟩:=h;cases j with
  | zero=>exact⟨u,by simp,by simpa using h1⟩
  | succ j=>obtain⟨v,A,E⟩:=Gt r t j F (by simpa using hj);exact⟨v,by simpa using A,by simpa using E⟩
theorem fZ:∀(x y:List AV) (l m:List Value),bR S w x l->bR S w y m->bR S w (x++y) (l++m)
 | [],y,l,m,h,h'=>by grind[bR]
 | x::r,y,l,m,h,h'=>by simp only[bR]at h;obtain⟨u,t,rfl,h1,A⟩:=h;simp only[List.cons_append,bR];exact⟨u,t++m,rfl,h1,fZ r y t m A h'⟩
theorem wN:∀(x:List AV) (l:List Value) (j:Nat),bR S w x l->bR S w (x.drop j) (l.drop j)
 | [],l,j,h=>by grind[bR]
 | x::r,l,j,h=>by
  cases j with
  | zero=>simpa using h
  | succ j=>simp only[bR]at h;obtain⟨u,t,rfl,_,A⟩:=h;simpa using wN r t j A
theorem wI:∀(x:List AV) (l:List Value) (j:Nat),bR S w x l->bR S w (x.take j) (l.take j)
 | [],l,j,h=>by grind[bR]
 | x::r,l,j,h=>by
  cases j with
  | zero=>simp[bR]
  | succ j=>simp only[bR]at h;obtain⟨u,t,rfl,h1,A⟩:=h;simp only[List.take_succ_cons,bR];exact⟨u,t.take j,rfl,h1,wI r t j A⟩
theorem lH:∀(x:List AV) (l:List Value) (o:Nat) {b:Nat},bR S w x l->(∀u∈l,u.oneCell'=true)->(∀j u,l[j]?=some u->w.cell? ⟨b,o+j,none⟩=some u)->dS S w b o x
 | [],_,_,_,_,_,_=>by simp[dS]
 | x::r,l,o,b,h,h1,hc=>by simp only[bR]at h;obtain⟨u,t,rfl,F,E⟩:=h;simp only[dS];refine⟨⟨u,by simpa using hc 0 u (by simp),h1 u (by simp),F⟩,lH r t (o+1) E (fun v A=>h1 v (by simp[A])) fun j v A=>?_⟩;rw[show o+1+j=o+(j+1)by omega];exact hc (j+1) v (by simpa using A)
end
end Go.Aw
end
section
namespace Go.Aw
open Go.RowKit
def pH(S:Sg)(w:World):Nat->List (List AV)->List MapEntry->Prop
 | _,[],ms=>ms=[]
 | i,cs::r,ms=>∃m t,ms=m::t/\m.born=i/\bR S w cs [m.key,m.val]/\pH S w (i+1) r t
def Ru(S:Sg)(w:World)(k:Nat)(r:Row):Prop:=∃xs,w.ownsRow 0 r.e r.sz (S.loc k) r.es.length xs/\bR S w r.es.flatten xs/\∀u∈xs,u.oneCell'=true
def apI(S:Sg)(w:World)(k:Nat)(r:Row):Prop:=∃g ms,S.loc k=.map (some g)/\w.heap[g]?=some (.map (List.toArray ms) ms.length)/\pH S w 0 r.es ms/\r.sz=2
theorem aAn(a:Option Addr)(n c:Nat):blk (.slice a n c)=(Value.slice a n c).ownBlock:=by cases a <;> rfl
structure RowOK(S:Sg)(w:World)(k:Nat)(r:Row):Prop where
 lt:k<S.N
 sz:r.sz=S.sz k
 pos:0<r.sz
 len:∀cs∈r.es,cs.length=r.sz
 own:Ru S w k r\/apI S w k r
def Cj(S:Sg)(w:World)(H:aM):Prop:=∀k r,H k=some r->RowOK S w k r
def RowOK.sl{S:Sg}{w:World}{k:Nat}{r:Row}(h:RowOK S w k r){a:Option Addr}{n c:Nat}(A:S.loc k=.slice a n c):Ru S w k r:=by
 rcases h.own with h1|⟨g,ms,h1,_⟩
 all_goals grind
def RowOK.mp{S:Sg}{w:World}{k:Nat}{r:Row}(h:RowOK S w k r){g:Nat}(A:S.loc k=.map (some g)):apI S w k r:=by
 rcases h.own with⟨xs,E,_⟩|h1
 ·rcases E.2 with⟨hv,_⟩|⟨_,_,_,hv,_⟩ <;> (rw[A]at hv;cases hv)
 omega
structure Agree(S:Sg)(H:aM)(w w':World):Prop where
 kept:iT S w w'
 own:∀k r,H k=some r->∀g,blk (S.loc k)=some g->w'.heap[g]?=w.heap[g]?
theorem Agree.refl(S:Sg)(H:aM)(w:World):Agree S H w w:=⟨iT.refl S w,fun _ _ _ _ _=>rfl⟩
def Br(P:Program)(S:Sg)(H:aM)(w:World)(z:AV)(e:Sem Value):Prop:=
 ∃v,rep S w z v/\∀w',Agree S H w w'->e.run P w'=.ok v w'
section
variable{P:Program}{S:Sg}{H:aM}{w:World}{G:Option Bool}{K:AV->Prop}
def rE{x:Value}:rep S w (.v x) x:=by rfl
def Ao{t:TypeId}{l:Option Nat}(h:ldT P t=some l):∃d,P.underlying t=some d /\
 match l with
 | none=>(∀fs,d≠.struct fs)/\∀n e,d≠.array n e
 | some n=>((∃fs,d=.struct fs)\/∃m e,d=.array m e)/\∃i,P.info? t=some i/\i.size=n:=by grind[ldT]
def vR{t:TypeId}{l:Option Nat}(h:ldT P t=some l)(w:World):(isAgg t).run P w=.ok l.isSome w:=by
 obtain⟨d,A,E⟩:=Ao h;cases l with
 | none=>simp_all[isAgg,run_underlying]
 | some n=>obtain⟨h1,_⟩:=E;simp only[isAgg,Sem.run_bind,run_underlying A,Result.andThen];rcases h1 with⟨fs,rfl⟩|⟨m,e,rfl⟩ <;> simp
theorem zO{t:TypeId}{n:Nat}(h:ldT P t=some (some n))(w:World):(sizeOf t).run P w=.ok n w:=by obtain⟨d,F,E⟩:=Ao h;obtain⟨_,i,A,rfl⟩:=E;simp[sizeOf,typeInfo,A]
def Cd{t:TypeId}(h:ldT P t=some none){a:Addr}{v:Value}(A:w.cell? a=some v):(loadVar t a).run P w=.ok v w:=by simp_all[loadVar,vR]
def AW{t:TypeId}{l:List Value}(h:ldT P t=some (some l.length)){b o:Nat}(A:∀j v,l[j]?=some v->w.cell? ⟨b,o+j,none⟩=some v):
 (loadVar t ⟨b,o,none⟩).run P w=.ok (.agg l.toArray) w:=by simp_all[run_loadCells_list,Addr.add_lit,loadVar,vR,zO]
theorem RowOK.cells{k:Nat}{r:Row}(h:RowOK S w k r){I:Option Addr}{F U:Nat}(J:S.loc k=.slice I F U)(X:r.es≠[]):∃g n c,S.loc k=.slice (some ⟨g,0,none⟩) n c/\dS S w g 0 r.es.flatten/\n=r.es.length:=by
 obtain⟨xs,A,T,h1⟩:=h.sl J;rcases A.2 with⟨_,Y⟩|⟨g,cap,cur,E,_⟩
 ·grind
 ·refine⟨g,_,cap,E,?_,rfl⟩;refine lH _ xs 0 T h1 fun j u O=>?_
  have:=A.cells (g:=g) (by rw[E];rfl) j u O
  grind[Addr.add_lit]
def RowOK.els{k:Nat}{r:Row}(h:RowOK S w k r){O:Option Addr}{I F:Nat}(T:S.loc k=.slice O I F)(A:r.es≠[]):∃g n c,S.loc k=.slice (some ⟨g,0,none⟩) n c/\jX S w g r.sz 0 r.es/\n=r.es.length:=by obtain⟨g,n,c,h1,J,E⟩:=h.cells T A;exact⟨g,n,c,h1,uC _ _ h.len J,E⟩
def Agree.cell{w':World}(E:Agree S H w w'){b o:Nat}{u:Value}(A:S.ro b)(h:w.cell? ⟨b,o,none⟩=some u):w'.cell? ⟨b,o,none⟩=some u:=(E.kept.cell A).trans h
def Agree.cellOwn{w':World}(E:Agree S H w w'){k g n c o:Nat}{r:Row}{u:Value}(F:H k=some r)(A:S.loc k=.slice (some ⟨g,0,none⟩) n c)(h:w.cell? ⟨g,o,none⟩=some u):w'.cell? ⟨g,o,none⟩=some u:=by
 have:=E.own k r F g (by rw[A];rfl)
 grind[World.cell?_of_block]
theorem IK{t:TypeId}{l:Option Nat}{x:AV}(U:ldT P t=some l)(hH:Cj S w H)(h:sM G H l x K):
  ∃z,K z/\(gt G->∀u,rep S w x u->Br P S H w z (Instr.loadAt t u)):=by
 unfold sM at h;split at h
 ·rename_i cs off;cases l with
  | none=>refine⟨_,h.2,fun J u I=>?_⟩;simp only[rep]at I;obtain⟨b,o,rfl,hb,hc⟩:=I;obtain⟨v,h1,_,h3⟩:=CR cs o off hc (h.1 J);refine⟨v,h3,fun w' T=>?_⟩;simp[Instr.loadAt,Instr.sureAddr,Cd U (T.cell hb h1)]
  | some n=>
   refine⟨_,h.2,fun J u I=>?_⟩;simp only[rep]at I;obtain⟨b,o,rfl,hb,hc⟩:=I;obtain⟨l,F,e2,e3,e4⟩:=pD _ _ (A8 _ _ n (BO cs o off hc));have aa:=h.1 J;have hn:l.length=n:=by grind
   refine⟨.agg l.toArray,by grind[rep],fun w' T=>?_⟩;rw[<-hn]at U;simp[Instr.loadAt,Instr.sureAddr,AW U (fun j v hj=>T.cell hb (e4 j v hj))]
 ·rename_i k i f;split at h
  ·rename_i r hk;have X:=hH k r hk;cases l with
   | none=>
    refine⟨_,h.2,fun J u I=>?_⟩;simp only[rep]at I;obtain⟨_,g,n,c,A,rfl⟩:=I;obtain⟨hi,hf⟩:=h.1 J;have O:r.es≠[]:=fun e=>by grind
    obtain⟨g',n',c',E,Z,_⟩:=X.els A O;rw[A]at E;injection E with F e2 e3;injection F with F;injection F with F;subst F;obtain⟨e4,Y⟩:=wG _ 0 i Z hi;obtain⟨v,h1,_,h3⟩:=CR _ _ f Y (by omega);refine⟨v,h3,fun w' T=>?_⟩;rw[<-X.sz];rw[Nat.zero_add]at h1;simp[Instr.loadAt,Instr.sureAddr,Cd U (T.cellOwn hk A h1)]
   | some m=>
    refine⟨_,h.2,fun J u I=>?_⟩;simp only[rep]at I;obtain⟨_,g,n,c,A,rfl⟩:=I;obtain⟨hi,hf⟩:=h.1 J;have O:r.es≠[]:=fun e=>by grind
    obtain⟨g',n',c',E,Z,_⟩:=X.els A O;rw[A]at E;injection E with F e2 e3;injection F with F;injection F with F;subst F;obtain⟨e4,Y⟩:=wG _ 0 i Z hi;obtain⟨l,F,e2,e3,e6⟩:=pD _ _ (A8 _ _ m (BO _ _ f Y));have hn:l.length=m:=by grind
    refine⟨.agg l.toArray,by grind[rep],fun w' T=>?_⟩;rw[<-hn]at U;rw[<-X.sz];rw[Nat.zero_add]at e6;simp[Instr.loadAt,Instr.sureAddr,AW U (fun j v hj=>T.cellOwn hk A (e6 j v hj))]
  grind
 grind
def rQ{t:TypeId}(h:ldT P t=some none){l:List Value}{o:Nat}{u:Value}(A:l[o]?=some u):(part t l.toArray o).run P w=.ok u w:=by simp_all[part,vR]
def MD{t:TypeId}{n:Nat}(h:ldT P t=some (some n)){l:List Value}{o:Nat}:(part t l.toArray o).run P w=.ok (.agg ((l.drop o).take n).toArray) w:=by simp_all[part,vR,zO]
def Ii{t:TypeId}{l:Option Nat}{x:AV}{off:Nat}(F:ldT P t=some l)(h:apart G off l x K):
  ∃z,K z/\(gt G->∀u,rep S w x u->∃cs:Array Value,u=.agg cs/\Br P S H w z (part t cs off)):=by
 unfold apart at h;split at h
 ·rename_i cs;cases l with
  | none=>refine⟨_,h.2,fun E u A=>?_⟩;simp only[rep]at A;obtain⟨l,rfl,h1,_⟩:=A;obtain⟨v,J,I⟩:=Gt cs l off h1 (h.1 E);exact⟨_,rfl,v,I,fun w' _=>rQ F J⟩
  | some n=>
   refine⟨_,h.2,fun E u A=>?_⟩;simp only[rep]at A;obtain⟨l,rfl,h1,O⟩:=A;refine⟨_,rfl,_,?_,fun w' _=>MD F⟩
   grind[rep,wI,wN]
 grind
def Ev{t:TypeId}{f o:Nat}{l:Option Nat}(h:aR P t f=some (o,l)):
  ∃fs A i,P.underlying t=some (.struct fs)/\fs[f]?=some A/\A.offset=o/\P.info? A.type=some i/\i.size≠0/\ldT P A.type=some l:=by
 unfold aR at h;cases E:P.underlying t with
 | none=>grind
 | some d=>
  cases d <;> simp only[E]at h <;> try (simp at h;done)
  grind[ldT]
def I3{t:TypeId}{f o:Nat}{l:Option Nat}(h:aR P t f=some (o,l))(b p:Nat)(w:World):
  (Instr.fieldAt t (.pointer (some ⟨b,p,none⟩)) f).run P w=.ok (.pointer (some ⟨b,p+o,none⟩)) w:=by
 obtain⟨fs,J,i,I,A,rfl,F,E,_⟩:=Ev h;simp_all[Instr.fieldAt,run_underlying,Instr.sureAddr,fieldPlace,sizeOf,typeInfo,Addr.add_lit]
def HH{t:TypeId}{f:Nat}{x:AV}(h:lU P t f x K):
  ∃z,K z/\(gt G->∀u,rep S w x u->Br P S H w z (Instr.fieldAt t u f)):=by
 unfold lU at h;split at h
 ·rename_i cs off;split at h
  ·rename_i o l E;refine⟨_,h,fun _ u A=>?_⟩;simp only[rep]at A;obtain⟨b,p,rfl,J,F⟩:=A;refine⟨_,?_,fun w' _=>I3 E b (p+off) w'⟩
   grind[rep]
  grind
 ·rename_i k i g;split at h
  ·rename_i o l E;refine⟨_,h,fun _ u A=>?_⟩;simp only[rep]at A;obtain⟨h1,b,n,c,I,rfl⟩:=A;refine⟨_,?_,fun w' _=>I3 E b _ w'⟩
   grind[rep]
  grind
 grind
def iJ{t:TypeId}{e sz A:Nat}(h:cK P t=some (e,sz,A)):
  ∃i z,P.underlying t=some (.slice e)/\P.info? e=some i/\i.size=sz/\i.bytes=A/\0<sz/\0<A/\i.zero=some z/\z.cells.size=sz:=by
 unfold cK at h;cases E:P.underlying t<;>simp_all<;>grind
def Nx{t:TypeId}{n s:Nat}{l:Option Nat}(h:HA P t=some (n,s,l)):
  ∃e i,P.underlying t=some (.array n e)/\P.info? e=some i/\i.size=s/\s≠0/\ldT P e=some l:=by
 unfold HA at h
 grind[ldT]
def yA{t:TypeId}{e sz A:Nat}(h:cK P t=some (e,sz,A))(b o len cap:Nat)(k:IntKind)(i:Int)(h0:0<=i)(h1:i<len)(w:World):
  (Instr.indexAt t (.slice (some ⟨b,o,none⟩) len cap) (.int k i)).run P w=.ok (.pointer (some ⟨b,o+i.toNat*sz,none⟩)) w:=by
 obtain⟨F,z,E,I,rfl,_⟩:=iJ h;simp[Instr.indexAt,run_underlying E,asIntOf,h0,h1,sizeOf,typeInfo,I,Addr.add_lit]
def BY{t:TypeId}{n s:Nat}{l:Option Nat}(h:HA P t=some (n,s,l))(b o:Nat)(k:IntKind)(i:Int)(h0:0<=i)(h1:i<n)(w:World):
  (Instr.indexAt t (.pointer (some ⟨b,o,none⟩)) (.int k i)).run P w=.ok (.pointer (some ⟨b,o+i.toNat*s,none⟩)) w:=by
 obtain⟨e,F,E,A,rfl,_⟩:=Nx h;simp[Instr.indexAt,run_underlying E,asIntOf,h0,h1,Instr.sureAddr,sizeOf,typeInfo,A,Addr.add_lit]
theorem Ic{t:TypeId}{x i:AV}(hH:Cj S w H)(h:gL P G H t x i K):
  ∃z,K z/\(gt G->∀u v,rep S w x u->rep S w i v->Br P S H w z (Instr.indexAt t u v)):=by
 unfold gL at h;split at h
 ·rename_i es k n;split at h
  ·rename_i e sz J X;refine⟨_,h.2,fun O u v E F=>?_⟩;obtain⟨⟨h0,h1⟩,h2⟩:=h.1 O;simp only[rep]at E F;subst F;obtain⟨ad,m,c,rfl,e1,_,_,e2⟩:=E;rcases e2 with rfl|⟨b,o,aa,rfl,hb,_,Y⟩
   ·grind
   ·have I:n.toNat<es.length:=by omega
    obtain⟨e3,e4⟩:=wG es o n.toNat Y I;have ab:aa=sz:=by omega
    subst ab;refine⟨_,?_,fun w' _=>yA X b o m c k n h0 (by omega) w'⟩;simp only[rep]
    grind
  grind
 ·rename_i k U n;split at h
  ·rename_i r e sz J hk X;refine⟨_,h.2,fun O u v E F=>?_⟩;obtain⟨⟨h0,h1⟩,h2⟩:=h.1 O;have hr:=hH k r hk;have ac:r.es≠[]:=fun e=>by grind
   simp only[rep]at E F;subst F;obtain⟨I,rfl,_,_,_,T⟩:=E;obtain⟨g,m,c,A,_,hm⟩:=hr.els T ac;rw[A];refine⟨_,?_,fun w' _=>yA X g 0 m c U n h0 (by omega) w'⟩;simp only[rep];exact⟨I,g,m,c,A,by rw[<-hr.sz,h2];simp⟩
  grind
 ·rename_i k a b U n;split at h
  ·rename_i r e sz J hk X;refine⟨_,h.2,fun O u v E F=>?_⟩;obtain⟨⟨h0,h1⟩,h2⟩:=h.1 O;have hr:=hH k r hk;simp only[rep]at E F;subst F;obtain⟨I,ad,m,c,ah,cc,A,rfl,af,ae,Z,_,ag,_⟩:=E;obtain⟨g,rfl,rfl⟩:=Z (by omega);refine⟨_,?_,fun w' _=>yA X g (a*S.sz k) (b-a) cc U n h0 (by omega) w'⟩;simp only[rep];exact⟨I,g,m,c,A,by rw[<-h2,hr.sz,Nat.add_mul,Nat.add_zero]⟩
  ·exact h.elim
 ·rename_i cs off k n;split at h
  ·rename_i m s l ha;refine⟨_,h.2,fun O u v E F=>?_⟩;obtain⟨h0,h1⟩:=h.1 O;simp only[rep]at E F;subst F;obtain⟨b,o,rfl,hb,hc⟩:=E;refine⟨_,?_,fun w' _=>BY ha b (o+off) k n h0 h1 w'⟩
   grind[rep]
  grind
 ·rename_i k j f U n;split at h
  ·rename_i m s l ha;refine⟨_,h.2,fun O u v E F=>?_⟩;obtain⟨h0,h1⟩:=h.1 O;simp only[rep]at E F;subst F;obtain⟨I,g,n',c,A,rfl⟩:=E;refine⟨_,?_,fun w' _=>BY ha g _ U n h0 h1 w'⟩
   grind[rep]
  grind
 grind
def yT{t:TypeId}(h:cR P t=true):∃e,P.underlying t=some (.slice e):=by grind[cR]
theorem mZ{t:TypeId}(h:fW P t=true):P.underlying t=some .string:=by grind[fW]
def adY{t:TypeId}(h:WP P t=true):∃e,P.underlying t=some (.pointer e):=by grind[WP]
def Yt{t:TypeId}(h:D6 P t=true):P.underlying t=some .bool:=by grind[D6]
def LB{t ty:TypeId}{x:AV}(U:Cj S w H)(h:LJ P H t x K):
  ∃z,K z/\(gt G->∀u,rep S w x u->Br P S H w z (Builtin.len_ #[t] ty #[u])):=by
 unfold LJ at h;split at h
 ·rename_i es;split at h
  ·rename_i F;obtain⟨e,I⟩:=yT F;refine⟨_,h,fun _ u A=>?_⟩;simp only[rep]at A;obtain⟨ad,m,c,rfl,Y,_⟩:=A;refine⟨_,rE,fun w' _=>?_⟩;simp_all[Builtin.len_,run_underlying,goInt]
  grind
 ·rename_i k;split at h
  ·rename_i r X;split at h
   ·rename_i F;obtain⟨e,I⟩:=yT F;refine⟨_,h,fun _ u A=>?_⟩;simp only[rep]at A;obtain⟨_,rfl,_,_,_,E⟩:=A;obtain⟨xs,J,_⟩:=(U k r X).sl E;refine⟨_,rE,fun w' _=>?_⟩;rcases J.2 with⟨T,Z⟩|⟨g,cap,cur,T,_⟩
    all_goals simp_all[Builtin.len_,run_underlying,goInt]
   grind
  grind
 ·split at h
  ·rename_i F;obtain⟨e,I⟩:=yT F;refine⟨_,h,fun _ u A=>?_⟩;simp only[rep]at A;obtain⟨_,ad,n,c,O,cc,_,rfl,_⟩:=A;refine⟨_,rE,fun w' _=>?_⟩;simp[Builtin.len_,run_underlying I,goInt]
  ·exact h.elim
 ·rename_i s;split at h
  ·rename_i F;refine⟨_,h,fun _ u A=>?_⟩;simp only[rep]at A;subst A;refine⟨_,rE,fun w' _=>?_⟩;simp_all[Builtin.len_,run_underlying,mZ,goInt]
  grind
 grind
def J6{x y:AV}{tys:Array TypeId}{ty:TypeId}(h:YL x y K):
  ∃z,K z/\(gt G->∀u v,rep S w x u->rep S w y v->Br P S H w z (Builtin.max_ tys ty #[u,v])):=by
 unfold YL at h;split at h
 ·refine⟨_,h,fun _ u v E A=>?_⟩;simp only[rep]at E A;subst E;subst A;exact⟨_,rE,fun w' _=>by rfl⟩
 grind
def Kx{x y:AV}{tys:Array TypeId}{ty:TypeId}(h:Xn x y K):
  ∃z,K z/\(gt G->∀u v,rep S w x u->rep S w y v->Br P S H w z (Builtin.min_ tys ty #[u,v])):=by
 unfold Xn at h;split at h
 ·refine⟨_,h,fun _ u v E A=>?_⟩;simp only[rep]at E A;subst E;subst A;exact⟨_,rE,fun w' _=>by rfl⟩
 grind
end
end Go.Aw
end
section
namespace Go.Aw
open Go.RowKit
section
variable{P:Program}{S:Sg}{H:aM}{w:World}{G:Option Bool}{K:AV->Prop}
def jM{z:AV}{e:Sem Value}{v:Value}(A:rep S w z v)(h:∀w',e.run P w'=.ok v w'):Br P S H w z e:=⟨v,A,fun w' _=>h w'⟩
theorem qN{t:TypeId}{c:Nat}(h:yR P t=some c):(c=0/\∃k,P.underlying t=some (.int k))\/(c=1/\P.underlying t=some .string)\/(c=2/\P.underlying t=some .bool):=by grind[yR]
def abU{t:TypeId}{c:Nat}(h:yR P t=some c)(A:(P.info? t).isSome=true):ldT P t=some none:=by grind[Option.isSome_iff_exists,ldT,qN]
def As{t:TypeId}{c:Nat}{x y:AV}{u v:Value}{b:Bool}{d:Nat}(I:yR P t=some c)(h:Dj c x y=some b)(F:rep S w x u)(E:rep S w y v)(w':World):
  (Op.equalIn (d+1) t u v).run P w'=.ok b w':=by
 unfold Dj at h;split at h
 ·split at h
  ·simp only[rep]at F E;subst F E;rename_i A;subst A;simp at h;rcases qN I with⟨_,k',J⟩|⟨h0,_⟩|⟨h0,_⟩
   all_goals grind[run_equalIn_int]
  grind
 all_goals grind[rep,qN,run_equalIn_string,run_equalIn_bool']
def yJ:∀(fs:List Field) (l:List Nat) (xs ys:List AV) (o:Nat) (us vs pu pv:List Value) (b:Bool) (d:Nat),
  sY P o fs=some l->lA l xs ys=some b->bR S w xs us->bR S w ys vs->pu.length=o->pv.length=o->∀w':World,
  (Op.eqFields (d+1) (pu++us).toArray (pv++vs).toArray fs).run P w'=.ok b w'
 | [],l,xs,ys,o,us,vs,pu,pv,b,d,A,he,_,_,_,_,w'=>by simp only[sY]at A;injection A with A;subst A;cases xs <;> cases ys <;> simp[lA]at he;simp_all[Op.eqFields]
 | f::fs,l,xs,ys,o,us,vs,pu,pv,b,d,A,he,hx,hy,e1,e2,w'=>by
  simp only[sY]at A;split at A
  ·rename_i Y;simp only[Bool.and_eq_true,bne_iff_ne,ne_eq,beq_iff_eq]at Y;obtain⟨⟨hn,ho⟩,hi⟩:=Y;cases U:yR P f.type with
   | none=>grind
   | some c=>
    cases Z:sY P (o+1) fs with
    | none=>grind
    | some l'=>
     simp[U,Z]at A;subst A;cases xs with
     | nil=>grind[lA]
     | cons x xs=>
      cases ys with
      | nil=>grind[lA]
      | cons y ys=>
       simp only[lA]at he;cases O:Dj c x y with
       | none=>grind[Sa]
       | some b1=>
        cases F:lA l' xs ys with
        | none=>grind[Sa]
        | some b2=>
         simp[O,F,Sa]at he;simp only[bR]at hx hy;obtain⟨u,E,rfl,hu,T⟩:=hx;obtain⟨v,I,rfl,hv,X⟩:=hy;have J:=abU U hi;have p1:∀w':World,(part f.type (pu++u::E).toArray f.offset).run P w'=.ok u w':=fun w'=>rQ (w:=w') J (by grind)
         have p2:∀w':World,(part f.type (pv++v::I).toArray f.offset).run P w'=.ok v w':=fun w'=>rQ (w:=w') J (by grind)
         have q:=As (d:=d) U O hu hv;have ih:=yJ fs l' xs ys (o+1) E I (pu++[u]) (pv++[v]) b2 d Z F T X (by grind) (by grind) w';simp only[List.append_assoc,List.singleton_append]at ih;simp only[Op.eqFields,hn,ne_eq,not_false_eq_true,if_true,Sem.run_bind,p1,p2,q,Result.andThen_ok,Sem.run_ite];simp_all;grind
  grind
def FD{e:TypeId}{c:Nat}(T:yR P e=some c)(X:(P.info? e).isSome=true){d:Nat}:∀(m i:Nat) (xs ys:List AV) (us vs pu pv:List Value) (b:Bool),
   lA (List.replicate m c) xs ys=some b->bR S w xs us->bR S w ys vs->pu.length=i->pv.length=i->∀w':World,
   ((forIn (m := Sem) (List.range' i m) ((none, ()) : Option Bool × Unit) (fun i _ => do
         if !(<-Op.equalIn (d+1) e (<-part e (pu++us).toArray (i*1)) (<-part e (pv++vs).toArray (i*1)))then pure (ForInStep.done (some false,()))
         else pure (ForInStep.yield (none,())))).run P w').andThen (fun r w'=>Sem.run P (match r.1 with
       | some x=>pure x
       | none=>pure true:Sem Bool) w')=.ok b w'
 | 0,i,xs,ys,us,vs,pu,pv,b,he,_,_,_,_,w'=>by cases xs <;> cases ys <;> simp[lA]at he;simp_all
 | m+1,i,xs,ys,us,vs,pu,pv,b,he,hx,hy,e1,e2,w'=>by
   rw[List.replicate_succ]at he;cases xs with
   | nil=>grind[lA]
   | cons x xs=>
     cases ys with
     | nil=>grind[lA]
     | cons y ys=>
       simp only[lA]at he;cases J:Dj c x y with
       | none=>grind[Sa]
       | some b1=>
         cases E:lA (List.replicate m c) xs ys with
         | none=>grind[Sa]
         | some b2=>
           simp[J,E,Sa]at he;simp only[bR]at hx hy;obtain⟨u,A,rfl,Z,O⟩:=hx;obtain⟨v,F,rfl,hv,U⟩:=hy;have I:=abU T X;have p1:∀w':World,(part e (pu++u::A).toArray (i*1)).run P w'=.ok u w':=fun w'=>rQ (w:=w') I (by grind)
           have Y:∀w':World,(part e (pv++v::F).toArray (i*1)).run P w'=.ok v w':=fun w'=>rQ (w:=w') I (by grind)
           have q:=As (d:=d) T J Z hv;have ih:=FD T X (d:=d) m (i+1) xs ys A F (pu++[u]) (pv++[v]) b2 E O U (by grind) (by grind) w';simp only[List.append_assoc,List.singleton_append]at ih;simp only[List.range'_succ,List.forIn_cons,Sem.run_bind,p1,Y,q,Result.andThen_ok,Sem.run_ite,bind_assoc];simp_all;grind
def GS{t:TypeId}{l:List Nat}(h:En P t=some l){xs A:List AV}{b:Bool}(U:lA l xs A=some b){us vs:List Value}
  (J:bR S w xs us) (O:bR S w A vs) (d:Nat) (w':World):(Op.equalIn (d+2) t (.agg us.toArray) (.agg vs.toArray)).run P w'=.ok b w':=by
 unfold En at h;split at h
 ·rename_i fs T;split at h
  ·rename_i I;have Y:P.fieldsOf t=fs:=by grind[Program.fieldsOf]
   rw[run_equalIn_struct w' (d+1) t _ _ (by grind) I.1,Y];simpa using yJ fs.toList l xs A 0 us vs [] [] b d h U J O rfl rfl w'
  grind
 ·rename_i n e T;split at h
  ·rename_i I;cases X:yR P e with
   | none=>grind
   | some c=>
    simp[X]at h;subst h;cases Z:P.info? e with
    | none=>grind
    | some i=>
     have E:i.size=1:=by grind
     have F:=FD (P:=P) (S:=S) (w:=w) X (by grind) (d:=d) n 0 xs A us vs [] [] b U J O rfl rfl w';simp only[List.nil_append]at F;rw[Op.equalIn];simp only[Sem.run_bind,run_underlying T,Result.andThen_ok,sizeOf,typeInfo,run_program,Z,Sem.run_pure,E];simp_all;grind
  grind
 grind
def jL(op:BinOp)(t:TypeId)(x y:Operand)(a b:Value)(h1:a≠.nilIface)(A:∀cs,a≠.agg cs)(w':World):(eqGuard op t x y a b).run P w'=.ok () w':=by simp_all[eqGuard]
def Ws{t:TypeId}{l:List Nat}(h:En P t=some l):P.eqGuardType P.depth t=false:=by grind[En]
def XH{op:BinOp}{t:TypeId}{x y:AV}(h:kV P G op t x y K):
   ∃z,K z/\(gt G->∀u v,rep S w x u->rep S w y v->∀F E,Br P S H w z (do eqGuard op t F E u v;binOp op t u v)):=by
 unfold kV at h;split at h
 . rename_i k a k' b;split at h
   . rename_i aa;refine⟨_,h.2,fun U u v I J F E=>?_⟩;have T:=h.1 U;simp only[rep]at I J;subst I J;refine jM rE fun w'=>?_
     simp only[Sem.run_bind,jL op t F E (.int k a) (.int k' b) (by simp) (by simp) w',Result.andThen_ok];have X:¬b<0:=by omega
     cases op <;> simp only[Eg,Bool.false_eq_true]at aa <;> simp[binOp,Op.shift,X,shV]
   split at h
   . rename_i hk;subst hk;have A:∀(z:Value),(∀w',(binOp op t (.int k a) (.int k b)).run P w'=.ok z w')->∀u v,rep S w (.v (.int k a)) u->rep S w (.v (.int k b)) v->∀F E,Br P S H w (.v z) (do eqGuard op t F E u v;binOp op t u v):=by simp_all[rep,jM,jL]
     cases op <;> simp only at h <;> first
       | exact h.elim
       | (refine ⟨_, h, fun _ => A _ (fun w' => ?_)⟩
          first
            | (simp[binOp,Op.intArith,Op.intCmp];done)
            | (simp[binOp];rfl))
       | exact⟨_,h.2,fun U=>A _ (fun w'=>by simp[binOp,Op.intDiv,h.1 U])⟩
   grind
 . rename_i a b;have A:∀(z:Value),(∀w',(binOp op t (.string a) (.string b)).run P w'=.ok z w')->∀u v,rep S w (.v (.string a)) u->rep S w (.v (.string b)) v->∀F E,Br P S H w (.v z) (do eqGuard op t F E u v;binOp op t u v):=by simp_all[rep,jM,jL]
   cases op <;> simp only at h <;> first
     | exact h.elim
     | exact⟨_,h,fun _=>A _ (fun w'=>by simp[binOp,Op.stringOp])⟩
     | exact ⟨_, h.2, fun U => A _ (fun w' => by
         have:=h.1 U;have h2:¬((a.size+b.size:Nat):Int)>IntKind.i64.max:=by omega
         simp only[binOp,Op.stringOp];simp_all)⟩
 . rename_i a b;split at h
   . rename_i T;have O:=Yt T;cases op <;> simp only at h <;> first
       | exact h.elim
       | (refine ⟨_, h, fun _ u v I J F E => ?_⟩
          simp only[rep]at I J;subst I J;refine jM rE fun w'=>?_
          simp only[Sem.run_bind,jL _ t F E (.bool a) (.bool b) (by simp) (by simp) w',Result.andThen_ok];simp[binOp,run_equal_bool w' t a b O])
   grind
 . rename_i xs ys;split at h
   . rename_i l hl;split at h
     . rename_i b T;cases op <;> simp only at h <;> first
         | exact h.elim
         | (refine ⟨_, h, fun _ u v I J F E => ?_⟩
            simp only[rep]at I J;obtain⟨us,rfl,Z,_⟩:=I;obtain⟨vs,rfl,Y,_⟩:=J;refine jM rE fun w'=>?_
            have q:=GS hl T Z Y 9998 w';simp only[Sem.run_bind,run_eqGuard_agg _ _ _ _ _ _ _ (Ws hl),Result.andThen_ok]
            first
              | (rw[run_eql_struct,q];rfl)
              | simp_all[run_neq_struct])
     grind
   grind
 . skip
   split at h
   . rename_i b T;split at h
     . rename_i hp;obtain⟨e,O⟩:=adY hp;have hq:∀u,rep S w x u->∃a,u=.pointer a/\a.isNone=b:=by
         intro u I;unfold YF at T
         grind[rep]
       have he:∀(a:Option Addr) w',(Op.equal t (.pointer a) (.pointer none)).run P w'=.ok a.isNone w':=by intro a w';have e0:Op.equal t (.pointer a) (.pointer none)=Op.equalIn (9999+1) t (.pointer a) (.pointer none):=rfl;rw[e0];unfold Op.equalIn;cases a <;> simp[run_underlying O]
       cases op <;> simp only at h <;> first
         | exact h.elim
         | (refine ⟨_, h, fun _ u v I J F E => ?_⟩
            obtain⟨a,rfl,rfl⟩:=hq u I;simp only[rep]at J;subst J;refine jM rE fun w'=>?_
            simp only[Sem.run_bind,jL _ t F E (.pointer a) (.pointer none) (by simp) (by simp) w',Result.andThen_ok];simp[binOp,he])
     grind
   grind
 grind
end
end Go.Aw
end
