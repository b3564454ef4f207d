import Derived.StillTail
import Derived.WalkKit
import Derived.Deep.Quiet
import Derived.Deep.QuietTactic
import Derived.Maps.AppendAt
import Derived.Laws.BytesArg
set_option linter.unusedSimpArgs false
set_option linter.unusedVariables false
set_option linter.defProp false
set_option maxRecDepth 100000
section
namespace Go.Aw
open Go.RowKit
inductive AV where
 | v (x:Value)
 | any
 | sl (es:List (List AV))
 | rp (cs:List AV) (off:Nat)
 | agg (cs:List AV)
 | tup (vs:List AV)
 | os (k:Nat)
 | op (k i f:Nat)
 | gd (g:Bool) (x:AV)
 | fn (f:FuncId) (cap:List AV)
 | oz (k a b:Nat)
 | nf (x:AV)
 | om (k:Nat)
 | cl (es:List (List AV))
 deriving Inhabited
structure Row where
 e:TypeId
 sz:Nat
 es:List (List AV)
abbrev Env:=Nat->AV
abbrev aH:=Nat->Option Row
inductive Ex where
 | normal
 | exit (id:Nat)
 | ret
def upd(ρ:Env)(d:Option Nat)(x:AV):Env:=
 match d with
 | some d=>fun t=>if t=d then x else ρ t
 | none=>ρ
def aM(H:aH)(k:Nat)(r:Option Row):aH:=fun j=>if j=k then r else H j
def asF(ρ:Env)(d:Nat)(x:AV)(t:Nat):upd ρ (some d) x t=if t=d then x else ρ t:=rfl
def ajW(ρ:Env)(x:AV):upd ρ none x=ρ:=rfl
def aB(H:aH)(k:Nat)(r:Option Row):aM H k r k=r:=by simp[aM]
def aJ(H:aH)(k:Nat)(r:Option Row)(j:Nat)(h:j≠k):aM H k r j=H j:=by simp[aM,h]
def ldT(P:Program)(t:TypeId):Option (Option Nat):=
 match P.underlying t,P.info? t with
 | some (.struct _),some i=>some (some i.size)
 | some (.array _ _),some i=>some (some i.size)
 | some _,some _=>some none
 | _,_=>none
def aP(P:Program)(t:TypeId)(f:Nat):Option (Nat×Option Nat):=
 match P.underlying t with
 | some (.struct fs)=>match fs[f]? with
   | some fd=>match P.info? fd.type with
     | some i=>if i.size=0 then none else(ldT P fd.type).map fun l=>(fd.offset,l)
     | none=>none
   | none=>none
 | _=>none
def cM(P:Program)(t:TypeId):Option (TypeId×Nat×Nat):=
 match P.underlying t with
 | some (.slice e)=>match P.info? e with
   | some i=>if i.size=0\/i.bytes=0\/i.zero.map (·.cells.size)≠some i.size then none else some (e,i.size,i.bytes)
   | none=>none
 | _=>none
def CM(P:Program)(t:TypeId):Option (Nat×Nat×Option Nat):=
 match P.underlying t with
 | some (.array n e)=>match P.info? e with
   | some i=>if i.size=0 then none else(ldT P e).map fun l=>(n,i.size,l)
   | none=>none
 | _=>none
def tI:Value->AV
 | .slice none 0 0=>.sl []
 | x=>.v x
def eI(P:Program)(t:TypeId):Option (List AV):=
 match P.info? t with
 | some i=>match i.zero with
   | some z=>if z.cells.size=i.size/\i.size≠0/\z.cells.toList.all (·.oneCell')=true then some (z.cells.toList.map tI)else none
   | none=>none
 | none=>none
def Oy(P:Program):Nat->TypeId->Nat->List (Nat×TypeId×Nat)
 | 0,_,_=>[]
 | n+1,t,o=>match P.underlying t with
   | some (.slice _)=>match cM P t with
     | some (e,sz,_)=>[(o,e,sz)]
     | none=>[]
   | some (.struct fs)=>fs.toList.flatMap fun f=>Oy P n f.type (o+f.offset)
   | some (.array m e)=>(List.range m).flatMap fun j=>Oy P n e (o+j*((P.info? e).map (·.size)).getD 0)
   | _=>[]
def aeX:Option Value->Bool
 | some (.slice none 0 0)=>true
 | _=>false
def uC(P:Program)(t:TypeId):Option (List (Nat×TypeId×Nat)):=
 match P.info? t with
 | some i=>match i.zero with
   | some z=>if(Oy P 8 t 0).all (fun x=>aeX z.cells.toList[x.1]?&&decide (0<x.2.2))=true then some (Oy P 8 t 0)else none
   | none=>none
 | none=>none
def fC(P:Program)(t:TypeId):Option (List (Nat×Nat)):=
 match P.underlying t with
 | some (.struct fs)=>fs.toList.mapM fun f=>(P.info? f.type).map fun i=>(f.offset,i.size)
 | some (.array n e)=>(P.info? e).map fun i=>(List.range n).map fun j=>(j*i.size,i.size)
 | _=>none
def fL(P:Program)(t:TypeId):Bool:=match P.underlying t with|some .string=>true|_=>false
def dC(P:Program)(t:TypeId):Bool:=match P.underlying t with|some (.slice _)=>true|_=>false
def Cp(P:Program)(t:TypeId):Bool:=match P.underlying t with|some .bool=>true|_=>false
def JR(P:Program)(t:TypeId):Bool:=match P.underlying t with|some (.pointer _)=>true|_=>false
def HK:AV->Option Bool
 | .v (.pointer none)=>some true
 | .rp ..=>some false
 | .op ..=>some false
 | _=>none
def aev(ρ:Env):Operand->AV
 | .tmp t=>ρ t
 | .const v=>tI v
 | .global _=>.any
 | .func f=>.v (.func (.func f) #[] #[])
def OG(ρ:Env):Operand->AV
 | .const v=>.v v
 | x=>aev ρ x
def gt:Option Bool->Prop
 | none=>True
 | some b=>b=true
def gok:Option Bool->Bool->Prop
 | none,g=>g=true
 | some b,g=>b=true->g=true
def wr:Option Bool->AV->AV
 | none,x=>x
 | some b,x=>.gd b x
def cD(G:Option Bool)(x:AV)(k:AV->Prop):Prop:=
 match x with
 | .gd g y=>gok G g/\k y
 | x=>k x
def oZ(x:AV)(K:List AV->Prop):Prop:=
 match x with
 | .agg cs=>K cs
 | .v y=>y.oneCell'=true/\K [.v y]
 | .sl es=>K [.sl es]
 | .rp cs o=>K [.rp cs o]
 | .os k=>K [.os k]
 | .op k i f=>K [.op k i f]
 | _=>False
def wZ(P:Program)(t:TypeId):Option Nat:=match P.underlying t with|some (.int _)=>some 0|some .string=>some 1|some .bool=>some 2|_=>none
def xY(c:Nat)(x y:AV):Option Bool:=
 match c,x,y with
 | 0,.v (.int k a),.v (.int k' b)=>if k=k' then some (a == b)else none
 | 1,.v (.string a),.v (.string b)=>some (a.toList == b.toList)
 | 2,.v (.bool a),.v (.bool b)=>some (a == b)
 | _,_,_=>none
def PT:Option Bool->Option Bool->Option Bool
 | some a,some b=>some (a&&b)
 | _,_=>none
def jC:List Nat->List AV->List AV->Option Bool
 | [],[],[]=>some true
 | c::l,x::r,y::s=>PT (xY c x y) (jC l r s)
 | _,_,_=>none
def sP(P:Program):Nat->List Field->Option (List Nat)
 | _,[]=>some []
 | o,f::r=>if f.name != "_" && f.offset == o&&(P.info? f.type).isSome then match wZ P f.type,sP P (o+1) r with
   | some c,some l=>some (c::l)
   | _,_=>none
   else none
def A1(P:Program)(t:TypeId):Option (List Nat):=
 match P.underlying t with
 | some (.struct fs)=>if P.stoodInHeld t=false/\P.eqGuardType P.depth t=false then sP P 0 fs.toList else none
 | some (.array n e)=>if(P.info? e).map (·.size)=some 1/\P.eqGuardType P.depth t=false then(wZ P e).map (List.replicate n)else none
 | _=>none
def A8:BinOp->Bool
 | .shl=>true
 | .shr=>true
 | _=>false
def shV(op:BinOp)(k:IntKind)(a b:Int):Int:=match op with
 | .shl=>k.wrap (a*2^min b.toNat k.bits)
 | _=>a.fdiv (2^min b.toNat k.bits)
def xR(op:BinOp)(k:IntKind)(a b:Int):Int:=match op with
 | .and=>k.wrap ((BitVec.ofInt k.bits a &&& BitVec.ofInt k.bits b).toNat:Nat)
 | .or=>k.wrap ((BitVec.ofInt k.bits a ||| BitVec.ofInt k.bits b).toNat:Nat)
 | .xor=>k.wrap ((BitVec.ofInt k.bits a ^^^ BitVec.ofInt k.bits b).toNat:Nat)
 | _=>k.wrap ((BitVec.ofInt k.bits a &&& ~~~(BitVec.ofInt k.bits b)).toNat:Nat)
def iS(P:Program)(G:Option Bool)(op:BinOp)(t:TypeId)(x y:AV)(K:AV->Prop):Prop:=
 match x,y with
 | .v (.int k a),.v (.int k' b)=>
   if A8 op=true then(gt G->0<=b)/\K (.v (.int k (shV op k a b)))
   else if k=k' then
     match op with
     | .and=>K (.v (.int k (xR .and k a b)))
     | .or=>K (.v (.int k (xR .or k a b)))
     | .xor=>K (.v (.int k (xR .xor k a b)))
     | .andNot=>K (.v (.int k (xR .andNot k a b)))
     | .add=>K (.v (.int k (k.wrap (a+b))))
     | .sub=>K (.v (.int k (k.wrap (a-b))))
     | .mul=>K (.v (.int k (k.wrap (a*b))))
     | .quo=>(gt G->b≠0)/\K (.v (.int k (k.wrap (a.tdiv b))))
     | .rem=>(gt G->b≠0)/\K (.v (.int k (a.tmod b)))
     | .eql=>K (.v (.bool (a == b)))
     | .neq=>K (.v (.bool (a != b)))
     | .lss=>K (.v (.bool (decide (a<b))))
     | .leq=>K (.v (.bool (decide (a<=b))))
     | .gtr=>K (.v (.bool (decide (a>b))))
     | .geq=>K (.v (.bool (decide (a>=b))))
     | _=>False
   else False
 | .v (.string a),.v (.string b)=>
   match op with
   | .add=>(gt G->((a.size+b.size:Nat):Int)<=IntKind.i64.max)/\K (.v (.string (a++b)))
   | .eql=>K (.v (.bool (a.toList == b.toList)))
   | .neq=>K (.v (.bool !(a.toList == b.toList)))
   | .lss=>K (.v (.bool (Op.bytesLess a.toList b.toList)))
   | _=>False
 | .v (.bool a),.v (.bool b)=>
   if Cp P t then
     match op with
     | .eql=>K (.v (.bool (a == b)))
     | .neq=>K (.v (.bool !(a == b)))
     | _=>False
   else False
 | .agg xs,.agg ys=>match A1 P t with
   | some l=>match jC l xs ys with
     | some b=>match op with
       | .eql=>K (.v (.bool b))
       | .neq=>K (.v (.bool !b))
       | _=>False
     | none=>False
   | none=>False
 | x,.v (.pointer none)=>match HK x with
   | some b => if JR P t then
       match op with
       | .eql=>K (.v (.bool b))
       | .neq=>K (.v (.bool !b))
       | _=>False
     else False
   | none=>(gt G->False)/\K .any
 | _,_=>(gt G->False)/\K .any
def UJ(P:Program)(t:TypeId):Option (TypeId×TypeId):=match P.underlying t with|some (.map k e)=>some (k,e)|_=>none
def Ll(P:Program)(t:TypeId):Option AV:=
 match P.info? t with
 | some i=>match i.zero with
   | some (.agg cs)=>if cs.toList.all (·.oneCell')=true then some (.agg (cs.toList.map tI))else none
   | some v=>if v.oneCell'=true then some (tI v)else none
   | none=>none
 | none=>none
def tL(P:Program)(kt:TypeId)(x y:AV):Option Bool:=
 match x,y with
 | .v a,.v b=>match wZ P kt with
   | some c=>xY c (.v a) (.v b)
   | none=>none
 | _,_=>none
def pE(P:Program)(kt:TypeId):AV->Bool
 | .v (.int _ _)=>wZ P kt == some 0
 | .v (.string _)=>wZ P kt == some 1
 | .v (.bool _)=>wZ P kt == some 2
 | _=>false
def wX(eq:AV->Option Bool):List (List AV)->Nat->Option (Option Nat)
 | [],_=>some none
 | e::r,i=>match eq (e.getD 0 .any)with
   | some true=>some (some i)
   | some false=>wX eq r (i+1)
   | none=>none
def OZ(ok:Bool)(z:AV)(es:List (List AV))(oi:Option Nat):AV:=
 match oi with
 | some i=>if ok=true then .tup [(es.getD i []).getD 1 .any,.v (.bool true)]else(es.getD i []).getD 1 .any
 | none=>if ok=true then .tup [z,.v (.bool false)]else z
def ZU(es:List (List AV))(oi:Option Nat)(k v:AV):List (List AV):=
 match oi with
 | some i=>es.set i [k,v]
 | none=>es++[[k,v]]
def Gq(P:Program)(H:aH)(t:TypeId)(x key:AV)(K:Nat->Row->TypeId×TypeId->Option Nat->Prop):Prop:=
 match x with
 | .om j=>match H j,UJ P t with
   | some r,some kt=>match wX (tL P kt.1 key) r.es 0 with
     | some oi=>pE P kt.1 key=true/\K j r kt oi
     | none=>False
   | _,_=>False
 | _=>False
def wP(P:Program)(H:aH)(t:TypeId)(x key:AV)(ok:Bool)(K:AV->Prop):Prop:=
 Gq P H t x key fun _ r kt oi=>match Ll P kt.2 with
   | some z=>K (OZ ok z r.es oi)
   | none=>False
def wU(c:Bool):AV->AV->AV
 | .v (.bool true),.v (.bool b)=>.v (.bool (c||b))
 | .v (.bool a),.v (.bool false)=>.v (.bool (c&&a))
 | .v (.bool a),.v (.bool b)=>.v (.bool (bif c then a else b))
 | x,y=>bif c then x else y
def CX(G:Option Bool)(c:Bool)(x y:AV)(K:AV->Prop):Prop:=
 match x,y with
 | .gd g x,.gd g' y=>(gt G->c=true->g=true)/\(gt G->c=false->g'=true)/\K (wU c x y)
 | .gd g x,y=>(gt G->c=true->g=true)/\K (wU c x y)
 | x,.gd g' y=>(gt G->c=false->g'=true)/\K (wU c x y)
 | x,y=>K (wU c x y)
def qQ(G:Option Bool)(H:aH)(l:Option Nat)(x:AV)(K:AV->Prop):Prop:=
 match x with
 | .rp cs off=>match l with
   | none=>(gt G->off<cs.length)/\K (cs.getD off .any)
   | some n=>(gt G->off+n<=cs.length)/\K (.agg ((cs.drop off).take n))
 | .op k i f=>match H k with
   | some r=>match l with
     | none=>(gt G->i<r.es.length/\f<r.sz)/\K ((r.es.getD i []).getD f .any)
     | some n=>(gt G->i<r.es.length/\f+n<=r.sz)/\K (.agg (((r.es.getD i []).drop f).take n))
   | none=>False
 | _=>False
def apart(G:Option Bool)(off:Nat)(l:Option Nat)(x:AV)(K:AV->Prop):Prop:=
 match x with
 | .agg cs=>match l with
   | none=>(gt G->off<cs.length)/\K (cs.getD off .any)
   | some n=>(gt G->off+n<=cs.length)/\K (.agg ((cs.drop off).take n))
 | _=>False
def Kn(P:Program)(H:aH)(t:TypeId)(x:AV)(K:AV->Prop):Prop:=
 match x with
 | .sl es=>if dC P t then K (.v (.int .i64 es.length))else False
 | .os k=>match H k with
   | some r=>if dC P t then K (.v (.int .i64 r.es.length))else False
   | none=>False
 | .v (.string s)=>if fL P t then K (.v (.int .i64 s.size))else False
 | _=>False
def eV(a b:Int):Int:=if b>a then b else a
def anL(a b:Int):Int:=if b<a then b else a
def VS(x y:AV)(K:AV->Prop):Prop:=
 match x,y with
 | .v (.int k a),.v (.int _ b)=>K (.v (.int k (eV a b)))
 | _,_=>False
def Vd(x y:AV)(K:AV->Prop):Prop:=
 match x,y with
 | .v (.int k a),.v (.int _ b)=>K (.v (.int k (anL a b)))
 | _,_=>False
def hJ(P:Program)(G:Option Bool)(H:aH)(t:TypeId)(x i:AV)(K:AV->Prop):Prop:=
 match x,i with
 | .sl es,.v (.int _ n)=>match cM P t with
   | some (_,sz,_)=>(gt G->(0<=n/\n<es.length)/\(es.getD n.toNat []).length=sz)/\K (.rp (es.getD n.toNat []) 0)
   | none=>False
 | .os k,.v (.int _ n)=>match H k,cM P t with
   | some r,some (_,sz,_)=>(gt G->(0<=n/\n<r.es.length)/\r.sz=sz)/\K (.op k n.toNat 0)
   | _,_=>False
 | .rp cs off,.v (.int _ n)=>match CM P t with
   | some (m,s,_)=>(gt G->0<=n/\n<m)/\K (.rp cs (off+n.toNat*s))
   | none=>False
 | .op k j f,.v (.int _ n)=>match CM P t with
   | some (m,s,_)=>(gt G->0<=n/\n<m)/\K (.op k j (f+n.toNat*s))
   | none=>False
 | _,_=>False
def lI(P:Program)(t:TypeId)(f:Nat)(x:AV)(K:AV->Prop):Prop:=
 match x with
 | .rp cs off=>match aP P t f with
   | some (o,_)=>K (.rp cs (off+o))
   | none=>False
 | .op k i g=>match aP P t f with
   | some (o,_)=>K (.op k i (g+o))
   | none=>False
 | _=>False
def uF(places:List (Nat×Nat)):List AV->List (Nat×List AV)->Option (List AV)
 | cs,[]=>some cs
 | cs,(i,x)::rest=>match places[i]? with
   | some (off,n)=>if x.length=n/\off+n<=cs.length then uF places (cs.take off++x++cs.drop (off+n)) rest else none
   | none=>none
def sQ(G:Option Bool)(ρ:Env):List (Nat×Operand)->(List (Nat×List AV)->Prop)->Prop
 | [],K=>K []
 | (i,x)::rest,K=>cD G (aev ρ x) fun y=>oZ y fun cs=>sQ G ρ rest fun l=>K ((i,cs)::l)
def C0(G:Option Bool)(ρ:Env):List Operand->(List AV->Prop)->Prop
 | [],K=>K []
 | x::rest,K=>cD G (aev ρ x) fun y=>C0 G ρ rest fun l=>K (y::l)
def AN(P:Program)(t:TypeId)(parts:List (Nat×List AV))(K:AV->Prop):Prop:=
 match eI P t,fC P t with
 | some z,some pl=>match uF pl z parts with
   | some cs=>K (.agg cs)
   | none=>False
 | _,_=>False
def O2:Nat->Nat->List Nat
 | _,0=>[]
 | i,n+1=>i::O2 (i+1) n
def dL(n:Nat):List (List AV)->Prop
 | []=>True
 | cs::r=>cs.length=n/\dL n r
def pD(P:Program)(G:Option Bool)(t:TypeId)(x:AV)(lo hi:Option AV)(K:AV->Prop):Prop:=
 match x,lo,hi with
 | .sl es,some (.v (.int _ a)),some (.v (.int _ b))=>match cM P t with
   | some (_,sz,_)=>(gt G->(0<=a/\a<=b/\b<=es.length)/\dL sz es)/\K (.sl ((es.take b.toNat).drop a.toNat))
   | none=>False
 | .sl es,some (.v (.int _ a)),none=>match cM P t with
   | some (_,sz,_)=>(gt G->(0<=a/\a<=es.length)/\dL sz es)/\K (.sl (es.drop a.toNat))
   | none=>False
 | .sl es,none,some (.v (.int _ b))=>match cM P t with
   | some _=>(gt G->0<=b/\b<=es.length)/\K (.sl (es.take b.toNat))
   | none=>False
 | .v (.string s),some (.v (.int _ a)),some (.v (.int _ b))=>
   if fL P t then(gt G->0<=a/\a<=b/\b<=s.size)/\K (.v (.string (s.extract a.toNat b.toNat)))else False
 | .v (.string s),some (.v (.int _ a)),none=>
   if fL P t then(gt G->0<=a/\a<=s.size)/\K (.v (.string (s.extract a.toNat s.size)))else False
 | .v (.string s),none,some (.v (.int _ b))=>
   if fL P t then(gt G->0<=b/\b<=s.size)/\K (.v (.string (s.extract 0 b.toNat)))else False
 | _,_,_=>False
def asl(P:Program)(G:Option Bool)(H:aH)(t:TypeId)(x:AV)(lo hi:Option AV)(K:AV->Prop):Prop:=
 match x with
 | .os k=>match H k,cM P t with
   | some r,some (_,sz,_)=>match lo,hi with
     | some (.v (.int _ a)),some (.v (.int _ b))=>(gt G->(0<=a/\a<=b/\b<=r.es.length)/\r.sz=sz)/\K (.oz k a.toNat b.toNat)
     | some (.v (.int _ a)),none=>(gt G->(0<=a/\a<=r.es.length)/\r.sz=sz)/\K (.oz k a.toNat r.es.length)
     | none,some (.v (.int _ b))=>(gt G->(0<=b/\b<=r.es.length)/\r.sz=sz)/\K (.oz k 0 b.toNat)
     | _,_=>False
   | _,_=>False
 | x=>pD P G t x lo hi K
def Gn(P:Program)(G:Option Bool)(t:TypeId)(x a b:AV)(K:AV->Prop):Prop:=
 match x,a,b with
 | .sl es,.v (.int _ a),.v (.int _ b)=>match cM P t with
   | some _=>(gt G->a=es.length/\b=es.length)/\K (.cl es)
   | none=>False
 | _,_,_=>False
def At(P:Program)(G:Option Bool)(t:TypeId)(x i:AV)(K:AV->Prop):Prop:=
 match x,i with
 | .v (.string s),.v (.int _ n)=>
   if fL P t then(gt G->0<=n/\n<s.size)/\K (.v (.int .u8 ((s.data.getD n.toNat 0).toNat:Int)))else False
 | .agg cs,.v (.int _ n)=>match CM P t with
   | some (m,s,l)=>(gt G->0<=n/\n<m)/\apart G (n.toNat*s) l (.agg cs) K
   | none=>False
 | _,_=>False
def aun(op:UnOp)(x:AV)(K:AV->Prop):Prop:=
 match op,x with
 | .not,.v (.bool b)=>K (.v (.bool !b))
 | .neg,.v (.int k n)=>K (.v (.int k (k.wrap (0-n))))
 | _,_=>False
def tX:List (List AV)->Option (List Int)
 | []=>some []
 | [.v (.int .u8 n)]::r=>(tX r).map (n::·)
 | _=>none
def FZ(P:Program)(t:TypeId):Bool:=
 match P.underlying t with
 | some (.slice e)=>match P.underlying e with
   | some (.int .u8)=>true
   | _=>false
 | _=>false
def I1(P:Program)(t:TypeId):Option IntKind:=match P.underlying t with|some (.int k)=>some k|_=>none
def A4(P:Program)(src dst:TypeId)(x:AV)(K:AV->Prop):Prop:=
 match x with
 | .v (.int _ n)=>match I1 P dst,I1 P src with
   | some k,some _=>K (.v (.int k (k.wrap n)))
   | _,_=>False
 | .v (.string s)=>if fL P src/\fL P dst then K (.v (.string s))else False
 | .sl es => if FZ P src /\ fL P dst then
     match tX es with
     | some ns=>K (.v (.string (strOfNums ns)))
     | none=>False
   else False
 | _=>False
def vQ:Operand->Bool
 | .const (.slice none 0 0)=>true
 | _=>false
def uB(op:BinOp)(x:AV)(K:AV->Prop):Prop:=
 match op,x with
 | .eql,.sl es=>(es=[]->K (.v (.bool true)))/\K (.v (.bool false))
 | .neq,.sl es=>(es=[]->K (.v (.bool false)))/\K (.v (.bool true))
 | .eql,.os _=>K (.v (.bool true))/\K (.v (.bool false))
 | .neq,.os _=>K (.v (.bool false))/\K (.v (.bool true))
 | .eql,.v (.slice none 0 0)=>K (.v (.bool true))
 | .neq,.v (.slice none 0 0)=>K (.v (.bool false))
 | _,_=>False
def jN(P:Program)(G:Option Bool)(ρ:Env)(H:aH)(op:Op)(K:AV->Prop):Prop:=
 match op with
 | .move x| .assign x=>cD G (aev ρ x) K
 | .pick c a b=>cD G (aev ρ c) fun
   | .v (.bool c)=>CX G c (aev ρ a) (aev ρ b) K
   | _=>False
 | .build t parts=>sQ G ρ parts.toList fun l=>AN P t l K
 | .load t a=>match ldT P t with
   | some l=>cD G (aev ρ a) fun a=>qQ G H l a K
   | none=>False
 | .nilCheck x=>cD G (aev ρ x) fun
   | .rp cs off=>K (.rp cs off)
   | .op k i f=>K (.op k i f)
   | .v (.pointer none)=>(gt G->False)/\∃cs off,K (.rp cs off)
   | _=>False
 | .binOp op t x y _=>if vQ y=true then cD G (aev ρ x) fun x=>dC P t=true/\uB op x K else cD G (aev ρ x) fun x=>cD G (aev ρ y) fun y=>iS P G op t x y K
 | .unOp op _ x=>cD G (aev ρ x) fun x=>aun op x K
 | .convert src dst x=>cD G (aev ρ x) fun x=>A4 P src dst x K
 | .slice t x lo hi none=>cD G (aev ρ x) fun x=>match lo,hi with
   | some lo,some hi=>cD G (aev ρ lo) fun lo=>cD G (aev ρ hi) fun hi=>asl P G H t x (some lo) (some hi) K
   | some lo,none=>cD G (aev ρ lo) fun lo=>asl P G H t x (some lo) none K
   | none,some hi=>cD G (aev ρ hi) fun hi=>asl P G H t x none (some hi) K
   | none,none=>False
 | .slice t x none (some hi) (some m)=>cD G (aev ρ x) fun x=>cD G (aev ρ hi) fun hi=>cD G (aev ρ m) fun m=>Gn P G t x hi m K
 | .fieldAddr t x f=>cD G (aev ρ x) fun x=>lI P t f x K
 | .field t x f=>match aP P t f with
   | some (o,l)=>cD G (aev ρ x) fun x=>apart G o l x K
   | none=>False
 | .indexAddr t x i=>cD G (aev ρ x) fun x=>cD G (aev ρ i) fun i=>hJ P G H t x i K
 | .index t x i=>cD G (aev ρ x) fun x=>cD G (aev ρ i) fun i=>At P G t x i K
 | .extract x i=>cD G (aev ρ x) fun
   | .tup vs=>(gt G->i<vs.length)/\K (vs.getD i .any)
   | _=>False
 | .lookup t x i ok=>cD G (aev ρ x) fun x=>cD G (aev ρ i) fun i=>wP P H t x i ok K
 | .makeFunc f first cap=>match f with
   | .func f=>first=#[]/\C0 G ρ cap.toList fun l=>K (.fn f l)
   | _=>False
 | _=>False
def dD(ops:Array Oper)(ρ:Env)(g:Option (Nat×Bool))(K:Option Bool->Prop):Prop:=
 match g with
 | none=>K none
 | some (j,want)=>match (ops[j]?).bind (·.dst)with
   | some t=>match ρ t with
     | .v (.bool b)=>K (some (b == want))
     | .gd g (.v (.bool b))=>K (some (g&&(b == want)))
     | _=>False
   | none=>False
def uO(mt:Nat->Bool):Option Nat->Bool
 | some d=>mt d
 | none=>false
def rQ(H:aH)(r:Row)(K:Nat->aH->Prop):Prop:=∀k,H k=none->K k (aM H k (some r))
def oV(cs:List AV)(f:Nat)(xs:List AV):List AV:=cs.take f++xs++cs.drop (f+xs.length)
def lS:List (Nat×TypeId×Nat)->List AV->aH->(List AV->aH->Prop)->Prop
 | [],cs,H,K=>K cs H
 | x::r,cs,H,K=>rQ H ⟨x.2.1,x.2.2,[]⟩ fun k H'=>lS r (cs.set x.1 (.os k)) H' K
def Ek(P:Program)(mt:Nat->Bool)(quiet:Bool)(G:Option Bool)(o:Oper)(x:Operand)(ρ:Env)(H:aH)(K:Env->aH->Prop):Prop:=
 if uO mt o.dst=true/\G=none/\quiet=false/\vQ x=true then
   match cM P o.type with
   | some (e,sz,_)=>rQ H ⟨e,sz,[]⟩ fun k H'=>K (upd ρ o.dst (.os k)) H'
   | none=>False
 else cD G (aev ρ x) fun y=>K (upd ρ o.dst (wr G y)) H
def anT(mt:Nat->Bool)(o:Oper)(t:TypeId)(cs:List AV)(ρ:Env)(H:aH)(K:Env->aH->Prop):Prop:=
 if uO mt o.dst=true then
   0<cs.length/\rQ H ⟨t,cs.length,[cs]⟩ fun k H'=>K (upd ρ o.dst (.op k 0 0)) H'
 else K (upd ρ o.dst (.rp cs 0)) H
def qN(P:Program)(mt:Nat->Bool)(G:Option Bool)(o:Oper)(t:TypeId)(n:Nat)(parts:List (Nat×List AV))(ρ:Env)(H:aH)(K:Env->aH->Prop):Prop:=
 match cM P t with
 | some (e,sz,_)=>
   (parts.map (·.1)=O2 0 n/\dL sz (parts.map (·.2))/\n*sz<=16777216) /\
   (if uO mt o.dst=true/\G=none then rQ H ⟨e,sz,parts.map (·.2)⟩ fun k H'=>K (upd ρ o.dst (.os k)) H'
    else K (upd ρ o.dst (wr G (.sl (parts.map (·.2))))) H)
 | none=>False
def Bx(P:Program)(o:Oper)(t:TypeId)(a:AV)(cs:List AV)(ρ:Env)(H:aH)(K:Env->aH->Prop):Prop:=
 match a with
 | .op k i f=>match H k,ldT P t with
   | some r, some l => (i < r.es.length /\ cs.length = l.getD 1 /\ f + cs.length <= r.sz /\ (l = none -> ∃ i, P.info? t = some i /\ i.size = 1)) /\
       K (upd ρ o.dst .any) (aM H k (some { r with es:=r.es.set i (oV (r.es.getD i []) f cs) }))
   | _,_=>False
 | _=>False
def wO(P:Program)(o:Oper)(t:TypeId)(a:AV)(cs:List AV)(ρ:Env)(H:aH)(K:Env->aH->Prop):Prop:=
 Bx P o t a cs ρ H K\/((ldT P t).isSome=true/\∃nl:List (Nat×TypeId×Nat),(∀x∈nl,cs[x.1]?=some (.v (.slice none 0 0))/\0<x.2.2)/\lS nl cs H fun cs H=>Bx P o t a cs ρ H K)
def Cs(x:Operand)(ρ:Env)(d:Option Nat)(H:aH)(K:Env->aH->Prop):Prop:=
 match x with
 | .tmp t=>match ρ t with
   | .os j=>match H j with
     | some r=>∀Hr:aH,Hr j=none->(∀k,k≠j->Hr k=H k)->K (upd (upd ρ (some t) (.sl r.es)) d (.sl r.es)) Hr
     | none=>False
   | _=>False
 | _=>False
def Cf{t j:Nat}{r:Row}{ρ:Env}{d:Option Nat}{H:aH}{K:Env->aH->Prop}(F:ρ t=.os j)(I:H j=some r)(h:∀E:aH,E j=none->(∀k,k≠j->E k=H k)->K (upd (upd ρ (some t) (.sl r.es)) d (.sl r.es)) E):Cs (.tmp t) ρ d H K:=by unfold Cs;simp only[F,I];exact h
def Lm(l:List Nat)(H:aH):List AV->List AV->Prop
 | [],[]=>True
 | x::xs,y::ys=>(x=y\/∃j r,j∈l/\x=.os j/\H j=some r/\y=.sl r.es)/\Lm l H xs ys
 | _,_=>False
def Mp(x:AV)(ρ:Env)(d:Option Nat)(H:aH)(K:Env->aH->Prop):Prop:=
 match x with
 | .agg cs=>∃(l:List Nat) (ys:List AV),Lm l H cs ys/\∀Hr:aH,(∀k,k∈l->Hr k=none)->(∀k,¬k∈l->Hr k=H k)->K (upd ρ d (.agg ys)) Hr
 | _=>False
def Bc(H:aH)(x:AV)(K:List (List AV)->Prop):Prop:=
 match x with
 | .sl es=>K es
 | .os k=>match H k with
   | some r=>K r.es
   | none=>False
 | .oz k a b=>match H k with
   | some r=>K ((r.es.take b).drop a)
   | none=>False
 | _=>False
def KN(H:aH)(x:AV)(K:Nat->Nat->Nat->Row->Prop):Prop:=
 match x with
 | .os k=>match H k with
   | some r=>K k 0 r.es.length r
   | none=>False
 | .oz k a b=>match H k with
   | some r=>K k a (b-a) r
   | none=>False
 | _=>False
def W7(P:Program)(o:Oper)(t:TypeId)(x y:AV)(ρ:Env)(H:aH)(K:Env->aH->Prop):Prop:=
 KN H x fun k a n r=>Bc H y fun news=>match cM P t with
   | some (_,sz,_)=>(r.sz=sz/\dL sz news)/\K (upd ρ o.dst (.v (.int .i64 (min news.length n:Nat)))) (aM H k (some { r with es:=r.es.take a++news.take (min news.length n)++r.es.drop (a+min news.length n) }))
   | none=>False
def N9(P:Program)(o:Oper)(t:TypeId)(x:AV)(ρ:Env)(H:aH)(K:Env->aH->Prop):Prop:=
 KN H x fun k a n r=>match cM P t with
   | some (e,sz,_)=>match eI P e with
     | some zs=>r.sz=sz/\K (upd ρ o.dst .any) (aM H k (some { r with es:=r.es.take a++List.replicate n zs++r.es.drop (a+n) }))
     | none=>False
   | none=>False
def wT(P:Program)(o:Oper)(t:TypeId)(s x:AV)(ρ:Env)(H:aH)(K:Env->aH->Prop):Prop:=
 match s,cM P t with
 | .os k,some (e,sz,bytes)=>match H k with
   | some r => Bc H x fun news =>
       (r.e=e/\r.sz=sz/\dL sz news/\(r.es.length+news.length)*bytes<=140737488355328) /\
       ∀k',H k'=none->K (upd ρ o.dst (.os k')) (aM (aM H k none) k' (some ⟨e,sz,r.es++news⟩))
   | none=>False
 | .cl es, some (e, sz, bytes) => Bc H x fun news =>
     (news≠[]/\dL sz es/\dL sz news/\(es.length+news.length)*bytes<=140737488355328) /\
     ∀k',H k'=none->K (upd ρ o.dst (.os k')) (aM H k' (some ⟨e,sz,es++news⟩))
 | .v (.slice none 0 0), some (e, sz, bytes) => Bc H x fun news =>
     (news≠[]/\dL sz ([]:List (List AV))/\dL sz news/\(([]:List (List AV)).length+news.length)*bytes<=140737488355328) /\
     ∀k',H k'=none->K (upd ρ o.dst (.os k')) (aM H k' (some ⟨e,sz,[]++news⟩))
 | _,_=>False
def LO:List (Nat×TypeId×Nat)->List AV->List AV
 | [],z=>z
 | x::r,z=>LO r (z.set x.1 (.v (.slice none 0 0)))
def Ct(P:Program)(o:Oper)(t:TypeId)(parts:List (Nat×Operand))(ρ:Env)(H:aH)(K:Env->aH->Prop):Prop:=
 sQ none ρ parts fun l=>match eI P t,fC P t,uC P t with
   | some z,some pl,some nl=>match uF pl (LO nl z) l with
     | some cs=>K (upd ρ o.dst (.agg cs)) H
     | none=>False
   | _,_,_=>False
def DL(P:Program)(o:Oper)(t:TypeId)(parts:List (Nat×Operand))(ρ:Env)(H:aH)(K:Env->aH->Prop):Prop:=
 sQ none ρ parts fun l=>match eI P t,fC P t,uC P t with
   | some z,some pl,some nl=>lS nl z H fun z H=>match uF pl z l with
     | some cs=>K (upd ρ o.dst (.agg cs)) H
     | none=>False
   | _,_,_=>False
def nZ(P:Program)(o:Oper)(t:TypeId)(m x v:AV)(ρ:Env)(H:aH)(K:Env->aH->Prop):Prop:=
 Gq P H t m x fun j r _ oi=>K (upd ρ o.dst .any) (aM H j (some { r with es:=ZU r.es oi x v }))
def Cc(P:Program)(o:Oper)(t:TypeId)(m x:AV)(ρ:Env)(H:aH)(K:Env->aH->Prop):Prop:=
 Gq P H t m x fun j r kt oi=>match oi with
   | some i=>K (upd ρ o.dst (.tup [(r.es.getD i []).getD 1 .any,.v (.int .i64 i)])) H
   | none=>match Ll P kt.2 with
     | some z=>K (upd ρ o.dst (.tup [z,.v (.int .i64 r.es.length)])) (aM H j (some { r with es:=r.es++[[x,z]] }))
     | none=>False
def xJ(o:Oper)(m s v:AV)(ρ:Env)(H:aH)(K:Env->aH->Prop):Prop:=
 match m,s with
 | .om j,.v (.int _ i)=>match H j with
   | some r=>(0<=i/\i<r.es.length)/\K (upd ρ o.dst .any) (aM H j (some { r with es:=r.es.set i.toNat [(r.es.getD i.toNat []).getD 0 .any,v] }))
   | none=>False
 | _,_=>False
def vZ(P:Program)(o:Oper)(t:TypeId)(l c:AV)(ρ:Env)(H:aH)(K:Env->aH->Prop):Prop:=
 match l,c with
 | .v (.int _ a),.v (.int _ b)=>match cM P t with
   | some (e,sz,bytes)=>match eI P e with
     | some z=>((0<=a/\a<=b)/\(bytes:Int)*b<=140737488355328)/\rQ H ⟨e,sz,List.replicate a.toNat z⟩ fun k H'=>K (upd ρ o.dst (.os k)) H'
     | none=>False
   | none=>False
 | _,_=>False
def RD:AV->Option (FuncId×List AV×List AV)
 | .v (.func (.func f) first captured)=>some (f,first.toList.map .v,captured.toList.map .v)
 | .fn f cap=>some (f,[],cap)
 | _=>none
def aE(P:Program)(f:FuncId):Bool:=match P.funcs[f]? with|some fn=>fn.name != "runtime.NumGoroutine" && fn.body.isSome|none=>false
abbrev mL:=FuncId->List AV->aH->(AV->aH->Prop)->Prop
def nfq(quiet:Bool)(r:AV)(K:AV->Prop):Prop:=match quiet,r with
 | true,.nf _=>False
 | false,.nf x=>K x
 | _,r=>K r
def D7(P:Program)(C:mL)(PC:FuncId->List AV->aH->AV->Prop)(nl quiet:Bool)(G:Option Bool)(o:Oper)(c:Call)(ρ:Env)(H:aH)(K:Env->aH->Prop):Prop:=
 match c.callee with
 | .builtin b=>C0 G ρ c.args.toList fun l=>match b,l,c.argTypes.toList with
   | .len,[x],[t]=>Kn P H t x fun y=>K (upd ρ o.dst (wr G y)) H
   | .append,[s,x],[t,t']=>if t=t'/\G=none/\quiet=false then wT P o t s x ρ H K else False
   | .copy,[x,y],[t,_]=>if G=none/\quiet=false then W7 P o t x y ρ H K else False
   | .clear,[x],[t]=>if G=none/\quiet=false then N9 P o t x ρ H K else False
   | .max,[x,y],[_,_]=>VS x y fun z=>K (upd ρ o.dst (wr G z)) H
   | .min,[x,y],[_,_]=>Vd x y fun z=>K (upd ρ o.dst (wr G z)) H
   | _,_,_=>False
 | .value f=>cD G (aev ρ f) fun x=>match RD x with
   | some (f,first,captured)=>if nl=true then gt G/\quiet=false/\aE P f=true/\C f (first++c.args.toList.map (OG ρ)++captured) H fun r H'=>K (upd ρ o.dst r) H' else C0 G ρ c.args.toList fun l=>
     aE P f=true/\if G=none/\quiet=false then C f (first++l++captured) H fun r H'=>K (upd ρ o.dst r) H'
     else ∃r,(gt G->PC f (first++l++captured) H r)/\nfq quiet r fun r=>K (upd ρ o.dst (wr G r)) H
   | none=>False
 | .invoke _ _=>False
def aop(P:Program)(C:mL)(PC:FuncId->List AV->aH->AV->Prop)(mt:Nat->Bool)(quiet:Bool)(ops:Array Oper)(o:Oper)(ρ:Env)(H:aH)(K:Env->aH->Prop):Prop:=
 dD ops ρ o.guard fun G=>
 match o.op with
 | .assign x=>Ek P mt quiet G o x ρ H K
 | .alloc t=>match eI P t with
   | some z => G = none /\ quiet = false /\ (if uO mt o.dst = true then match uC P t with
       | some nl=>lS nl z H fun z H=>rQ H ⟨t,z.length,[z]⟩ fun k H'=>K (upd ρ o.dst (.op k 0 0)) H'
       | none=>False
     else rQ H ⟨t,z.length,[z]⟩ fun k H'=>K (upd ρ o.dst (.op k 0 0)) H')
   | none=>False
 | .box t x=>G=none/\quiet=false/\cD G (aev ρ x) fun x=>oZ x fun cs=>anT mt o t cs ρ H K
 | .buildSlice t n parts=>quiet=false/\sQ G ρ parts.toList fun l=>qN P mt G o t n l ρ H K
 | .store t a x => G = none /\ quiet = false /\ (if vQ x = true then cD G (aev ρ a) fun a => match cM P t with
       | some (e,sz,_)=>rQ H ⟨e,sz,[]⟩ fun k H=>wO P o t a [.os k] ρ H K
       | none=>False
     else cD G (aev ρ a) fun a=>cD G (aev ρ x) fun x=>oZ x fun cs=>wO P o t a cs ρ H K)
 | .call c=>D7 P C PC (uO mt o.dst) quiet G o c ρ H K
 | .move x=>if uO mt o.dst=true then G=none/\quiet=false/\Cs x ρ o.dst H K else jN P G ρ H (.move x) fun x=>K (upd ρ o.dst (wr G x)) H
 | .pick c a b=>jN P G ρ H (.pick c a b) fun x=>K (upd ρ o.dst (wr G x)) H
 | .build t parts=>if uO mt o.dst=true then G=none/\(if quiet=true then Ct P o t parts.toList ρ H K else DL P o t parts.toList ρ H K)else jN P G ρ H (.build t parts) fun x=>K (upd ρ o.dst (wr G x)) H
 | .load t a=>if uO mt o.dst=true then G=none/\quiet=false/\jN P none ρ H (.load t a) fun x=>Mp x ρ o.dst H K else jN P G ρ H (.load t a) fun x=>K (upd ρ o.dst (wr G x)) H
 | .nilCheck x=>jN P G ρ H (.nilCheck x) fun x=>K (upd ρ o.dst (wr G x)) H
 | .binOp op t x y t'=>jN P G ρ H (.binOp op t x y t') fun x=>K (upd ρ o.dst (wr G x)) H
 | .unOp op t x=>jN P G ρ H (.unOp op t x) fun x=>K (upd ρ o.dst (wr G x)) H
 | .convert s d x=>jN P G ρ H (.convert s d x) fun x=>K (upd ρ o.dst (wr G x)) H
 | .slice t x lo hi m=>jN P G ρ H (.slice t x lo hi m) fun x=>K (upd ρ o.dst (wr G x)) H
 | .fieldAddr t x f=>jN P G ρ H (.fieldAddr t x f) fun x=>K (upd ρ o.dst (wr G x)) H
 | .field t x f=>jN P G ρ H (.field t x f) fun x=>K (upd ρ o.dst (wr G x)) H
 | .indexAddr t x i=>jN P G ρ H (.indexAddr t x i) fun x=>K (upd ρ o.dst (wr G x)) H
 | .index t x i=>jN P G ρ H (.index t x i) fun x=>K (upd ρ o.dst (wr G x)) H
 | .extract x i=>jN P G ρ H (.extract x i) fun x=>K (upd ρ o.dst (wr G x)) H
 | .makeFunc f a b=>jN P G ρ H (.makeFunc f a b) fun x=>K (upd ρ o.dst (wr G x)) H
 | .makeSlice t l c=>G=none/\quiet=false/\cD G (aev ρ l) fun l=>cD G (aev ρ c) fun c=>vZ P o t l c ρ H K
 | .lookup t x i ok=>jN P G ρ H (.lookup t x i ok) fun x=>K (upd ρ o.dst (wr G x)) H
 | .makeMap _ none=>G=none/\quiet=false/\rQ H ⟨0,2,[]⟩ fun k H'=>K (upd ρ o.dst (.om k)) H'
 | .mapUpdate t m x v=>G=none/\quiet=false/\cD G (aev ρ m) fun m=>cD G (aev ρ x) fun x=>cD G (aev ρ v) fun v=>nZ P o t m x v ρ H K
 | .insert t m x v=>G=none/\quiet=false/\cD G (aev ρ m) fun m=>cD G (aev ρ x) fun x=>cD G (aev ρ v) fun v=>nZ P o t m x v ρ H K
 | .mapEntry t m x=>G=none/\quiet=false/\cD G (aev ρ m) fun m=>cD G (aev ρ x) fun x=>Cc P o t m x ρ H K
 | .entryStore _ m s v=>G=none/\quiet=false/\cD G (aev ρ m) fun m=>cD G (aev ρ s) fun s=>cD G (aev ρ v) fun v=>xJ o m s v ρ H K
 | _=>False
def yV(P:Program)(C:mL)(PC:FuncId->List AV->aH->AV->Prop)(mt:Nat->Bool)(quiet:Bool)(ops:Array Oper)(K:Env->aH->Prop):List Oper->Env->aH->Prop
 | [],ρ,H=>K ρ H
 | o::rest,ρ,H=>aop P C PC mt quiet ops o ρ H (yV P C PC mt quiet ops K rest)
def Ex.seq(K:Env->aH->Prop)(Q:Ex->Env->aH->Prop):Ex->Env->aH->Prop
 | .normal,ρ,H=>K ρ H
 | e,ρ,H=>Q e ρ H
def Ex.blk(id:Nat)(Q:Ex->Env->aH->Prop):Ex->Env->aH->Prop
 | .exit i,ρ,H=>if i=id then Q .normal ρ H else Q (.exit i) ρ H
 | e,ρ,H=>Q e ρ H
def X1(W:(Ex->Env->aH->Prop)->Env->aH->Prop)(Q:Ex->Env->aH->Prop)(ρ:Env)(H:aH):Prop:=
 ∃(I:Env->aH->Prop) (μ:Env->aH->Nat),I ρ H/\∀ρ' H',I ρ' H'->W (Ex.seq (fun ρ'' H''=>I ρ'' H''/\μ ρ'' H''<μ ρ' H') Q) ρ' H'
def aqB(mt:Nat->Bool)(o:Oper):Bool:=match o.op with
 | .alloc _=>true
 | .buildSlice ..=>true
 | .store ..=>true
 | .makeSlice ..=>true
 | .makeMap ..=>true
 | .mapUpdate ..=>true
 | .insert ..=>true
 | .mapEntry ..=>true
 | .entryStore ..=>true
 | .call ⟨.builtin .append,_,_⟩=>true
 | .call ⟨.builtin .copy,_,_⟩=>true
 | .call ⟨.builtin .clear,_,_⟩=>true
 | _=>uO mt o.dst
def XY(mt:Nat->Bool):List Oper->Nat
 | []=>0
 | o::r=>if aqB mt o=true then 0 else XY mt r+1
def Xe(ops:Array Oper)(n:Nat):Bool:=Region.noSelect ops&&decide (n<=ops.size)&&Region.lexHead .any ops (ops.size-n) n 0 (Array.replicate ops.size false)
def qH(o:Oper)(H:aH):aH:=match o.op with
 | .slice ..=>H
 | _=>fun _=>none
def B5(P:Program)(C:mL)(PC:FuncId->List AV->aH->AV->Prop)(mt:Nat->Bool)(ops:Array Oper)(K:Env->aH->Prop):List (Nat×Bool)->Env->aH->Prop
 | [],ρ,H=>K ρ H
 | (k,b)::f,ρ,H=>match ops[k]? with
   | some o=>if b=true then aop P C PC mt true ops o ρ (qH o H) fun ρ' _=>B5 P C PC mt ops K f ρ' H
     else aop P C PC mt false ops o ρ H (B5 P C PC mt ops K f)
   | none=>False
def yW(P:Program)(C:mL)(PC:FuncId->List AV->aH->AV->Prop)(mt:Nat->Bool)(ops:Array Oper)(K:Env->aH->Prop)(Hp:aH):List (Nat×Bool)->Env->aH->Prop
 | [],ρ,H=>K ρ H
 | (k,b)::f,ρ,H=>match ops[k]? with
   | some o=>if b=true then aop P C PC mt true ops o ρ Hp fun ρ' _=>yW P C PC mt ops K Hp f ρ' H
     else aop P C PC mt false ops o ρ H (yW P C PC mt ops K Hp f)
   | none=>False
def sH(l:List Nat)(H:aH)(K:Env->aH->Prop)(ρ':Env)(H':aH):Prop:=
 (∀k,k∈l->H' k=none)->∀Hm:aH,(∀k,k∈l->Hm k=H k)->(∀k,k∉l->Hm k=H' k)->K ρ' Hm
def jK{l:List Nat}{H:aH}{K:Env->aH->Prop}{E:Env}{H':aH}(h:(∀k,k∈l->H' k=none)->∀F:aH,(∀k,k∈l->F k=H k)->(∀k,k∉l->F k=H' k)->K E F):sH l H K E H':=h
def tA(ops:Array Oper):List (Nat×Bool)->Array Bool->Bool
 | [],listed=>(Region.ready .any ops listed).isEmpty
 | (k,true)::f,listed=>(Region.ready .any ops listed).contains k&&Region.free .any ops listed k&&tA ops f (listed.setIfInBounds k true)
 | (k,false)::f,listed=>decide (Region.ready .any ops listed=[k])&&tA ops f (listed.setIfInBounds k true)
def Vp(ops:Array Oper)(f:List (Nat×Bool)):Bool:=Region.noSelect ops&&decide (f.length=ops.size)&&tA ops f (Array.replicate ops.size false)
inductive Mx where
 | nil
 | q (k:Nat) (t:Mx)
 | a1 (k:Nat) (t:Mx)
 | a2 (k:Nat) (t:Mx) (k':Nat) (t':Mx)
 | a3 (k:Nat) (t:Mx) (k':Nat) (t':Mx) (k'':Nat) (t'':Mx)
def CN(P:Program)(C:mL)(PC:FuncId->List AV->aH->AV->Prop)(mt:Nat->Bool)(quiet:Bool)(ops:Array Oper)(k:Nat)(ρ:Env)(H:aH)(K:Env->aH->Prop):Prop:=
 match ops[k]? with
 | some o=>aop P C PC mt quiet ops o ρ H K
 | none=>False
def nJ(P:Program)(C:mL)(PC:FuncId->List AV->aH->AV->Prop)(mt:Nat->Bool)(ops:Array Oper)(K:Env->aH->Prop)(Hp:aH):Mx->Env->aH->Prop
 | .nil,ρ,H=>K ρ H
 | .q k t,ρ,H=>CN P C PC mt true ops k ρ Hp fun ρ' _=>nJ P C PC mt ops K Hp t ρ' H
 | .a1 k t,ρ,H=>CN P C PC mt false ops k ρ H (nJ P C PC mt ops K Hp t)
 | .a2 k t k' t',ρ,H=>CN P C PC mt false ops k ρ H (nJ P C PC mt ops K Hp t)/\CN P C PC mt false ops k' ρ H (nJ P C PC mt ops K Hp t')
 | .a3 k t k' t' k'' t'',ρ,H=>CN P C PC mt false ops k ρ H (nJ P C PC mt ops K Hp t)/\CN P C PC mt false ops k' ρ H (nJ P C PC mt ops K Hp t')/\CN P C PC mt false ops k'' ρ H (nJ P C PC mt ops K Hp t'')
def gA(ops:Array Oper):Mx->Nat->Array Bool->Bool
 | .nil,0,listed=>(Region.ready .any ops listed).isEmpty
 | .q k t,n+1,listed=>(Region.ready .any ops listed).contains k&&Region.free .any ops listed k&&gA ops t n (listed.setIfInBounds k true)
 | .a1 k t,n+1,listed=>decide (Region.ready .any ops listed=[k])&&gA ops t n (listed.setIfInBounds k true)
 | .a2 k t k' t',n+1,listed=>decide (Region.ready .any ops listed=[k,k'])&&gA ops t n (listed.setIfInBounds k true)&&gA ops t' n (listed.setIfInBounds k' true)
 | .a3 k t k' t' k'' t'',n+1,listed=>decide (Region.ready .any ops listed=[k,k',k''])&&gA ops t n (listed.setIfInBounds k true)&&gA ops t' n (listed.setIfInBounds k' true)&&gA ops t'' n (listed.setIfInBounds k'' true)
 | _,_,_=>false
def GC(ops:Array Oper)(t:Mx):Bool:=Region.noSelect ops&&gA ops t ops.size (Array.replicate ops.size false)
def wA(P:Program)(C:mL)(PC:FuncId->List AV->aH->AV->Prop)(mt:Nat->Bool)(ops:Array Oper)(K:Env->aH->Prop)(m:Nat)(ρ:Env)(H:aH):Prop:=
 (m=ops.size/\Region.lexB .any ops=true/\yV P C PC mt true ops K ops.toList ρ H) \/
 (Xe ops m=true/\yV P C PC mt true ops (fun ρ' _=>yV P C PC mt false ops K (ops.toList.drop m) ρ' H) (ops.toList.take m) ρ fun _=>none) \/
 (∃f,Vp ops f=true/\B5 P C PC mt ops K f ρ H) \/
 ∃l t,(∀k,k∈l->(H k).isSome=true)/\GC ops t=true/\∀Hp Hr:aH,(∀k,k∈l->Hp k=H k)->(∀k,k∉l->Hr k=H k)->(∀k,k∉l->Hp k=none)->(∀k,k∈l->Hr k=none)->nJ P C PC mt ops (sH l H K) Hp t ρ Hr
def kI{P:Program}{C:mL}{PC:FuncId->List AV->aH->AV->Prop}{mt:Nat->Bool}{l:List Oper}{K:Env->aH->Prop}{m:Nat}{ρ:Env}{H:aH}(E:(m == l.length)=true)(F:Region.lexB .any l.toArray=true)
 (h:yV P C PC mt true l.toArray K l ρ H):wA P C PC mt l.toArray K m ρ H:=.inl ⟨by simpa using E,F,h⟩
def HD{P:Program}{C:mL}{PC:FuncId->List AV->aH->AV->Prop}{mt:Nat->Bool}{l:List Oper}{K:Env->aH->Prop}{m:Nat}{ρ:Env}{H:aH}(F:Xe l.toArray m=true)
 (h:yV P C PC mt true l.toArray (fun E _=>yV P C PC mt false l.toArray K (l.drop m) E H) (l.take m) ρ fun _=>none):wA P C PC mt l.toArray K m ρ H:=.inr (.inl ⟨F,h⟩)
def lQ{P:Program}{C:mL}{PC:FuncId->List AV->aH->AV->Prop}{mt:Nat->Bool}{l:List Oper}{K:Env->aH->Prop}{m:Nat}{ρ:Env}{H:aH}(f:List (Nat×Bool))(E:Vp l.toArray f=true)
 (h:B5 P C PC mt l.toArray K f ρ H):wA P C PC mt l.toArray K m ρ H:=.inr (.inr (.inl ⟨f,E,h⟩))
def HE{P:Program}{C:mL}{PC:FuncId->List AV->aH->AV->Prop}{mt:Nat->Bool}{ops:List Oper}{K:Env->aH->Prop}{m:Nat}{ρ:Env}{H:aH}(l:List Nat)(t:Mx)(F:∀k,k∈l->(H k).isSome=true)(I:GC ops.toArray t=true)
 (h:∀Hp E:aH,(∀k,k∈l->Hp k=H k)->(∀k,k∉l->E k=H k)->(∀k,k∉l->Hp k=none)->(∀k,k∈l->E k=none)->nJ P C PC mt ops.toArray (sH l H K) Hp t ρ E):wA P C PC mt ops.toArray K m ρ H:=.inr (.inr (.inr ⟨l,t,F,I,h⟩))
def mxL:List (Nat×Bool)->Mx
 | []=>.nil
 | (k,true)::f=>.q k (mxL f)
 | (k,false)::f=>.a1 k (mxL f)
def ahM{P:Program}{C:mL}{PC:FuncId->List AV->aH->AV->Prop}{mt:Nat->Bool}{ops:Array Oper}{K:Env->aH->Prop}(Hp:aH):∀f,yW P C PC mt ops K Hp f=nJ P C PC mt ops K Hp (mxL f)
 | []=>by funext ρ H;simp only[yW,mxL,nJ]
 | (k,b)::f=>by funext ρ H;cases b <;> simp[yW,mxL,nJ,CN,ahM Hp f]
def avC{ops:Array Oper}{f:List (Nat×Bool)}(h:Vp ops f=true):GC ops (mxL f)=true:=by
 have E:∀(f:List (Nat×Bool)) (l:Array Bool),tA ops f l=true->gA ops (mxL f) f.length l=true:=by
  intro f;induction f with
  | nil=>intro l h;simpa[tA,mxL,gA]using h
  | cons x f ih=>
   intro l h;obtain⟨k,b⟩:=x;cases b <;> simp only[tA,Bool.and_eq_true]at h <;> simp only[mxL,gA,List.length_cons,Bool.and_eq_true]
   ·exact⟨h.1,ih _ h.2⟩
   ·exact⟨h.1,ih _ h.2⟩
 simp only[Vp,Bool.and_eq_true,decide_eq_true_eq]at h;simp only[GC,Bool.and_eq_true];have e:=E f _ h.2;rw[h.1.2]at e;exact⟨h.1.1,e⟩
def gU{P:Program}{C:mL}{PC:FuncId->List AV->aH->AV->Prop}{mt:Nat->Bool}{ops:List Oper}{K:Env->aH->Prop}{m:Nat}{ρ:Env}{H:aH}(l:List Nat)(f:List (Nat×Bool))(J:∀k,k∈l->(H k).isSome=true)(I:Vp ops.toArray f=true)
 (h:∀Hp E:aH,(∀k,k∈l->Hp k=H k)->(∀k,k∉l->E k=H k)->(∀k,k∉l->Hp k=none)->(∀k,k∈l->E k=none)->yW P C PC mt ops.toArray (sH l H K) Hp f ρ E):wA P C PC mt ops.toArray K m ρ H:=HE l (mxL f) J (avC I) fun Hp E h1 F U O=>by rw[<-ahM Hp f];exact h Hp E h1 F U O
def awp(P:Program)(C:mL)(PC:FuncId->List AV->aH->AV->Prop)(mt:Nat->Bool):Code->(Ex->Env->aH->Prop)->Env->aH->Prop
 | .skip,Q,ρ,H=>Q .normal ρ H
 | .region _ ops draw,Q,ρ,H=>if draw=true then wA P C PC mt ops (Q .normal) (XY mt ops.toList) ρ H else yV P C PC mt false ops (Q .normal) ops.toList ρ H
 | .seq a b,Q,ρ,H=>awp P C PC mt a (Ex.seq (awp P C PC mt b Q) Q) ρ H
 | .cond c a b,Q,ρ,H=>match aev ρ c with
   | .v (.bool t)=>(t=true->awp P C PC mt a Q ρ H)/\(t=false->awp P C PC mt b Q ρ H)
   | _=>False
 | .block id c,Q,ρ,H=>awp P C PC mt c (Ex.blk id Q) ρ H
 | .loop c,Q,ρ,H=>X1 (awp P C PC mt c) Q ρ H
 | .scope c,Q,ρ,H=>awp P C PC mt c Q ρ H
 | .label _,Q,ρ,H=>Q .normal ρ H
 | .exit id,Q,ρ,H=>Q (.exit id) ρ H
 | .ret,Q,ρ,H=>Q .ret ρ H
 | _,_,_,_=>False
def A2(x:AV)(A B:Env->aH->Prop)(ρ:Env)(H:aH):Prop:=
 match x with
 | .v (.bool t)=>(t=true->A ρ H)/\(t=false->B ρ H)
 | _=>False
section
variable{P:Program}{C:mL}{PC:FuncId->List AV->aH->AV->Prop}{mt:Nat->Bool}{Q:Ex->Env->aH->Prop}{K:Env->aH->Prop}{ρ:Env}{H:aH}{a b c:Code}{id:Nat}{ops:Array Oper}{draw:Bool}
def ahV:awp P C PC mt .skip Q ρ H=Q .normal ρ H:=(rfl)
def Jg:awp P C PC mt (.region id ops false) Q ρ H=yV P C PC mt false ops (Q .normal) ops.toList ρ H:=by simp[awp]
def RE:awp P C PC mt (.region id ops true) Q ρ H=wA P C PC mt ops (Q .normal) (XY mt ops.toList) ρ H:=by simp[awp]
@[congr] theorem adraw_c {m m':Nat} (h:m=m'):wA P C PC mt ops K m ρ H=wA P C PC mt ops K m' ρ H:=h▸rfl
def WR:awp P C PC mt (.seq a b) Q ρ H=awp P C PC mt a (Ex.seq (awp P C PC mt b Q) Q) ρ H:=(rfl)
def Q0{x:Operand}:awp P C PC mt (.cond x a b) Q ρ H=A2 (aev ρ x) (awp P C PC mt a Q) (awp P C PC mt b Q) ρ H:=(rfl)
def Lv:awp P C PC mt (.block id c) Q ρ H=awp P C PC mt c (Ex.blk id Q) ρ H:=(rfl)
def Qg:awp P C PC mt (.loop c) Q ρ H=X1 (awp P C PC mt c) Q ρ H:=(rfl)
def LQ:awp P C PC mt (.scope c) Q ρ H=awp P C PC mt c Q ρ H:=(rfl)
def Zv{l:Nat}:awp P C PC mt (.label l) Q ρ H=Q .normal ρ H:=(rfl)
def agU:awp P C PC mt (.exit id) Q ρ H=Q (.exit id) ρ H:=(rfl)
def alG:awp P C PC mt .ret Q ρ H=Q .ret ρ H:=(rfl)
def adF:yV P C PC mt draw ops K [] ρ H=K ρ H:=(rfl)
def YF{o:Oper}{r:List Oper}:yV P C PC mt draw ops K (o::r) ρ H=aop P C PC mt draw ops o ρ H (yV P C PC mt draw ops K r):=(rfl)
def UC:Ex.seq K Q .normal ρ H=K ρ H:=(rfl)
def abG:Ex.seq K Q (.exit id) ρ H=Q (.exit id) ρ H:=(rfl)
def alQ:Ex.seq K Q .ret ρ H=Q .ret ρ H:=(rfl)
def Um:Ex.blk id Q .normal ρ H=Q .normal ρ H:=(rfl)
def XI:Ex.blk id Q .ret ρ H=Q .ret ρ H:=(rfl)
def SJ:Ex.blk id Q (.exit id) ρ H=Q .normal ρ H:=by simp[Ex.blk]
def Zo{i:Nat}(h:(i == id)=false):Ex.blk id Q (.exit i) ρ H=Q (.exit i) ρ H:=by
 have:i≠id:=by simpa using h
 simp[Ex.blk,this]
end
@[congr] theorem wopd_c {G x x' k} (h:x=x'):cD G x k=cD G x' k:=h▸rfl
@[congr] theorem abin_c {P G op t x x' y y' k} (h:x=x') (h':y=y'):iS P G op t x y k=iS P G op t x' y' k:=h▸h'▸rfl
@[congr] theorem apick_c {G c c' x x' y y' k} (h0:c=c') (h:x=x') (h':y=y'):CX G c x y k=CX G c' x' y' k:=h0▸h▸h'▸rfl
@[congr] theorem aload_c {G H l l' x x' k} (h:l=l') (h':x=x'):qQ G H l x k=qQ G H l' x' k:=h▸h'▸rfl
@[congr] theorem apart_c {G o o' l l' x x' k} (h0:o=o') (h:l=l') (h':x=x'):apart G o l x k=apart G o' l' x' k:=h0▸h▸h'▸rfl
@[congr] theorem alen_c {P H t x x' k} (h':x=x'):Kn P H t x k=Kn P H t x' k:=h'▸rfl
@[congr] theorem aindexAddr_c {P G H t x x' y y' k} (h:x=x') (h':y=y'):hJ P G H t x y k=hJ P G H t x' y' k:=h▸h'▸rfl
@[congr] theorem aindex_c {P G t x x' y y' k} (h:x=x') (h':y=y'):At P G t x y k=At P G t x' y' k:=h▸h'▸rfl
@[congr] theorem afieldAddr_c {P t f x x' k} (h':x=x'):lI P t f x k=lI P t f x' k:=h'▸rfl
@[congr] theorem abuild_c {P t l l' k} (h':l=l'):AN P t l k=AN P t l' k:=h'▸rfl
@[congr] theorem aslice_c {P G t x x' lo lo' hi hi' k} (h:x=x') (h1:lo=lo') (h2:hi=hi'):pD P G t x lo hi k=pD P G t x' lo' hi' k:=h▸h1▸h2▸rfl
@[congr] theorem aun_c {op x x' k} (h':x=x'):aun op x k=aun op x' k:=h'▸rfl
@[congr] theorem aconv_c {P s t x x' k} (h':x=x'):A4 P s t x k=A4 P s t x' k:=h'▸rfl
@[congr] theorem wcells_c {x x' K} (h:x=x'):oZ x K=oZ x' K:=h▸rfl
@[congr] theorem acond_c {x x' A B ρ H} (h':x=x'):A2 x A B ρ H=A2 x' A B ρ H:=h'▸rfl
@[congr] theorem abox_c {mt o t x x' ρ H K} (h:x=x'):anT mt o t x ρ H K=anT mt o t x' ρ H K:=h▸rfl
@[congr] theorem abuildSlice_c {P mt G o t n x x' ρ H K} (h:x=x'):qN P mt G o t n x ρ H K=qN P mt G o t n x' ρ H K:=h▸rfl
@[congr] theorem astore_c {P o t a a' x x' ρ H K} (h:a=a') (h':x=x'):Bx P o t a x ρ H K=Bx P o t a' x' ρ H K:=h▸h'▸rfl
@[congr] theorem aappend_c {P o t a a' x x' ρ H K} (h:a=a') (h':x=x'):wT P o t a x ρ H K=wT P o t a' x' ρ H K:=h▸h'▸rfl
@[congr] theorem asrc_c {H x x' K} (h:x=x'):Bc H x K=Bc H x' K:=h▸rfl
@[congr] theorem anew_c {H r r' K} (h:r=r'):rQ H r K=rQ H r' K:=h▸rfl
def aA{t:Bool}{A B:Env->aH->Prop}{ρ:Env}{H:aH}(h1:t=true->A ρ H)(E:t=false->B ρ H):A2 (.v (.bool t)) A B ρ H:=⟨h1,E⟩
def Fx(args:List AV):Env:=fun t=>args.getD t .any
def aR:AV->Nat
 | .v (.int _ n)=>n.toNat
 | _=>0
def aN{k n}:aR (.v (.int k n))=n.toNat:=(rfl)
section
variable{G:Option Bool}{k:AV->Prop}
def aeM{x}:cD G (.v x) k=k (.v x):=(rfl)
def SG:cD G .any k=k .any:=(rfl)
def Yq{x}:cD G (.sl x) k=k (.sl x):=(rfl)
def WZ{x o}:cD G (.rp x o) k=k (.rp x o):=(rfl)
def QZ{x}:cD G (.agg x) k=k (.agg x):=(rfl)
def Sn{x}:cD G (.tup x) k=k (.tup x):=(rfl)
def Yu{x}:cD G (.os x) k=k (.os x):=(rfl)
def X7{x i f}:cD G (.op x i f) k=k (.op x i f):=(rfl)
def WD{f l}:cD G (.fn f l) k=k (.fn f l):=(rfl)
def WN{j a b}:cD G (.oz j a b) k=k (.oz j a b):=(rfl)
def WS{es}:cD G (.cl es) k=k (.cl es):=(rfl)
def XV{j}:cD G (.om j) k=k (.om j):=(rfl)
def W8{g x}:cD G (.gd g x) k=(gok G g/\k x):=(rfl)
end
def WJ(K:Env->aH->Prop)(ρ:Env)(d:Option Tmp)(j:Nat)(H:aH):Prop:=K (upd ρ d (.os j)) H
def Yg(K:Env->aH->Prop)(ρ:Env)(d:Option Tmp)(j:Nat)(H:aH):Prop:=K (upd ρ d (.op j 0 0)) H
def SW(K:Env->aH->Prop)(ρ:Env)(d:Option Tmp)(r:AV)(H:aH):Prop:=K (upd ρ d r) H
def Qo{K ρ d j H}:WJ K ρ d j H=K (upd ρ d (.os j)) H:=(rfl)
def SO{K ρ d j H}:Yg K ρ d j H=K (upd ρ d (.op j 0 0)) H:=(rfl)
def Te{K ρ d r H}:SW K ρ d r H=K (upd ρ d r) H:=(rfl)
def wpick(G:Option Bool)(c x y:AV)(k:AV->Prop):Prop:=match c with
 | .v (.bool c)=>CX G c x y k
 | _=>False
@[congr] theorem wpick_c {G c c' x y k} (h:c=c'):wpick G c x y k=wpick G c' x y k:=h▸rfl
def Ym{G c x y k}:wpick G (.v (.bool c)) x y k=CX G c x y k:=(rfl)
def aaC(G:Option Bool)(x:AV)(k:AV->Prop):Prop:=match x with
 | .rp cs off=>k (.rp cs off)
 | .op j i f=>k (.op j i f)
 | .v (.pointer none)=>(gt G->False)/\∃cs off,k (.rp cs off)
 | _=>False
@[congr] theorem wptr_c {G x x' k} (h:x=x'):aaC G x k=aaC G x' k:=h▸rfl
def Xh{G cs o k}:aaC G (.rp cs o) k=k (.rp cs o):=(rfl)
def Xg{G j i f k}:aaC G (.op j i f) k=k (.op j i f):=(rfl)
def Pw{G k}:aaC G (.v (.pointer none)) k=((gt G->False)/\∃cs off,k (.rp cs off)):=(rfl)
def amT(G:Option Bool)(x:AV)(i:Nat)(k:AV->Prop):Prop:=match x with
 | .tup vs=>(gt G->i<vs.length)/\k (vs.getD i .any)
 | _=>False
@[congr] theorem wtup_c {G x x' i k} (h:x=x'):amT G x i k=amT G x' i k:=h▸rfl
def Xn{G vs i k}:amT G (.tup vs) i k=((gt G->i<vs.length)/\k (vs.getD i .any)):=(rfl)
def Y7(P:Program)(d:Option Tmp)(t:TypeId)(a:AV)(cs:List AV)(ρ:Env)(H:aH)(K:Env->aH->Prop):Prop:=wO P ⟨d,.move (.tmp 0),0,"",#[],none⟩ t a cs ρ H K
@[congr] theorem wput_c {P d t a a' cs cs' ρ H K} (h:a=a') (h':cs=cs'):Y7 P d t a cs ρ H K=Y7 P d t a' cs' ρ H K:=h▸h'▸rfl
def NA(P:Program)(d:Option Tmp)(t:TypeId)(s x:AV)(ρ:Env)(H:aH)(K:Env->aH->Prop):Prop:=wT P ⟨d,.move (.tmp 0),0,"",#[],none⟩ t s x ρ H K
@[congr] theorem wapp_c {P d t s s' x x' ρ H K} (h:s=s') (h':x=x'):NA P d t s x ρ H K=NA P d t s' x' ρ H K:=h▸h'▸rfl
def SP(P:Program)(d:Option Tmp)(t:TypeId)(l c:AV)(ρ:Env)(H:aH)(K:Env->aH->Prop):Prop:=vZ P ⟨d,.move (.tmp 0),0,"",#[],none⟩ t l c ρ H K
@[congr] theorem wmake_c {P d t s s' x x' ρ H K} (h:s=s') (h':x=x'):SP P d t s x ρ H K=SP P d t s' x' ρ H K:=h▸h'▸rfl
def Sk(P:Program)(d:Option Tmp)(t:TypeId)(x y:AV)(ρ:Env)(H:aH)(K:Env->aH->Prop):Prop:=W7 P ⟨d,.move (.tmp 0),0,"",#[],none⟩ t x y ρ H K
@[congr] theorem wcopy_c {P d t s s' x x' ρ H K} (h:s=s') (h':x=x'):Sk P d t s x ρ H K=Sk P d t s' x' ρ H K:=h▸h'▸rfl
def Ye{P:Program}{d:Option Tmp}{t:TypeId}{x y:AV}{ρ:Env}{H:aH}{K:Env->aH->Prop}{e:TypeId}{sz E j a n:Nat}{r:Row}{news:List (List AV)}(V:cM P t=some (e,sz,E))(J:H j=some r)
  (O:(x=.os j/\a=0/\n=r.es.length)\/∃b,x=.oz j a b/\n=b-a) (Z:y=.sl news\/(∃i r',y=.os i/\H i=some r'/\r'.es=news)\/∃i r' p q,y=.oz i p q/\H i=some r'/\(r'.es.take q).drop p=news)
  (h1:r.sz=sz) (U:dL sz news) (h:K (upd ρ d (.v (.int .i64 (min news.length n:Nat)))) (aM H j (some { r with es:=r.es.take a++news.take (min news.length n)++r.es.drop (a+min news.length n) }))):Sk P d t x y ρ H K:=by
 unfold Sk W7;have Y:∀F:List (List AV)->Prop,F news->Bc H y F:=by
  intro F I;rcases Z with rfl|⟨i,r',rfl,hi,rfl⟩|⟨i,r',p,q,rfl,hi,rfl⟩
  ·exact I
  ·simp only[Bc,hi];exact I
  ·simp only[Bc,hi];exact I
 have X:∀F:Nat->Nat->Nat->Row->Prop,F j a n r->KN H x F:=by
  intro F I;rcases O with⟨rfl,rfl,rfl⟩|⟨b,rfl,rfl⟩
  ·simp only[KN,J];exact I
  ·simp only[KN,J];exact I
 refine X _ (Y _ ?_);simp only[V];exact⟨⟨h1,U⟩,h⟩
def IC(P:Program)(d:Option Tmp)(t:TypeId)(x:AV)(ρ:Env)(H:aH)(K:Env->aH->Prop):Prop:=N9 P ⟨d,.move (.tmp 0),0,"",#[],none⟩ t x ρ H K
@[congr] theorem wclear_c {P d t s s' ρ H K} (h:s=s'):IC P d t s ρ H K=IC P d t s' ρ H K:=h▸rfl
def aiJ{P:Program}{d:Option Tmp}{t:TypeId}{x:AV}{ρ:Env}{H:aH}{K:Env->aH->Prop}{e:TypeId}{sz E j a n:Nat}{r:Row}{I:List AV}(V:cM P t=some (e,sz,E))(Y:eI P e=some I)(O:H j=some r)
  (U:(x=.os j/\a=0/\n=r.es.length)\/∃b,x=.oz j a b/\n=b-a) (h1:r.sz=sz) (h:K (upd ρ d .any) (aM H j (some { r with es:=r.es.take a++List.replicate n I++r.es.drop (a+n) }))):IC P d t x ρ H K:=by
 unfold IC N9;have X:∀F:Nat->Nat->Nat->Row->Prop,F j a n r->KN H x F:=by
  intro F J;rcases U with⟨rfl,rfl,rfl⟩|⟨b,rfl,rfl⟩
  ·simp only[KN,O];exact J
  ·simp only[KN,O];exact J
 refine X _ ?_;simp only[V,Y];exact⟨h1,h⟩
def Xa{P:Program}{d:Option Tmp}{t:TypeId}{es:List (List AV)}{x:AV}{ρ:Env}{H:aH}{K:Env->aH->Prop}{e:TypeId}{sz E:Nat}{news:List (List AV)}(U:cM P t=some (e,sz,E))
  (O:x=.sl news\/∃i r',x=.os i/\H i=some r'/\r'.es=news) (h0:news≠[]) (h1:dL sz es) (I:dL sz news) (J:(es.length+news.length)*E<=140737488355328)
  (h:∀F,H F=none->K (upd ρ d (.os F)) (aM H F (some ⟨e,sz,es++news⟩))):NA P d t (.cl es) x ρ H K:=by
 unfold NA wT;simp only[U];rcases O with rfl|⟨i,r',rfl,hi,rfl⟩
 ·exact⟨⟨h0,h1,I,J⟩,h⟩
 ·simp only[Bc,hi];exact⟨⟨h0,h1,I,J⟩,h⟩
def akE{P:Program}{d:Option Tmp}{t:TypeId}{x:AV}{ρ:Env}{H:aH}{K:Env->aH->Prop}{e:TypeId}{sz E:Nat}{news:List (List AV)}(U:cM P t=some (e,sz,E))
  (O:x=.sl news\/∃i r',x=.os i/\H i=some r'/\r'.es=news) (h0:news≠[]) (I:dL sz news) (J:news.length*E<=140737488355328)
  (h:∀F,H F=none->K (upd ρ d (.os F)) (aM H F (some ⟨e,sz,news⟩))):NA P d t (.v (.slice none 0 0)) x ρ H K:=by
 unfold NA wT;simp only[U];rcases O with rfl|⟨i,r',rfl,hi,rfl⟩
 ·exact⟨⟨h0,trivial,I,by simpa using J⟩,h⟩
 ·simp only[Bc,hi];exact⟨⟨h0,trivial,I,by simpa using J⟩,h⟩
def aL{H:aH}{r:Row}{F:Nat->aH->Prop}(h:∀j,H j=none->F j (aM H j (some r))):rQ H r F:=h
def bU{α:Type}(o:Option α)(f:α->Prop):Prop:=match o with|some x=>f x|none=>False
def I5{α:Type}{x:α}{f:α->Prop}:bU (some x) f=f x:=(rfl)
@[congr] theorem withO_c {α:Type} {o o':Option α} {f:α->Prop} (h:o=o'):bU o f=bU o' f:=h▸rfl
section
variable{P:Program}{C:mL}{PC:FuncId->List AV->aH->AV->Prop}{mt:Nat->Bool}{q:Bool}{ops:Array Oper}{d:Option Tmp}{ty:TypeId}{pos:String}{aft:Array Edge}{ρ:Env}{H:aH}{K:Env->aH->Prop}{G:Option Bool}{k:AV->Prop}
def XQ{t}:aev ρ (.tmp t)=ρ t:=(rfl)
def Mr{v}:aev ρ (.const v)=tI v:=(rfl)
def PY{f}:aev ρ (.func f)=.v (.func (.func f) #[] #[]):=(rfl)
def Q1{t n a b}:iS P G .add t (.v (.int n a)) (.v (.int n b)) k=k (.v (.int n (n.wrap (a+b)))):=by simp[iS,A8]
def Qi{t n a b}:iS P G .sub t (.v (.int n a)) (.v (.int n b)) k=k (.v (.int n (n.wrap (a-b)))):=by simp[iS,A8]
def QG{t n a b}:iS P G .mul t (.v (.int n a)) (.v (.int n b)) k=k (.v (.int n (n.wrap (a*b)))):=by simp[iS,A8]
def PM{t n a b}:iS P G .quo t (.v (.int n a)) (.v (.int n b)) k=((gt G->b≠0)/\k (.v (.int n (n.wrap (a.tdiv b))))):=by simp[iS,A8]
def RF{t n a b}:iS P G .rem t (.v (.int n a)) (.v (.int n b)) k=((gt G->b≠0)/\k (.v (.int n (a.tmod b)))):=by simp[iS,A8]
def Pq{t n a b}:iS P G .eql t (.v (.int n a)) (.v (.int n b)) k=k (.v (.bool (a == b))):=by simp[iS,A8]
def QR{t n a b}:iS P G .neq t (.v (.int n a)) (.v (.int n b)) k=k (.v (.bool (a != b))):=by simp[iS,A8]
def P0{t n a b}:iS P G .lss t (.v (.int n a)) (.v (.int n b)) k=k (.v (.bool (decide (a<b)))):=by simp[iS,A8]
def TD{t n a b}:iS P G .leq t (.v (.int n a)) (.v (.int n b)) k=k (.v (.bool (decide (a<=b)))):=by simp[iS,A8]
def Rc{t n a b}:iS P G .gtr t (.v (.int n a)) (.v (.int n b)) k=k (.v (.bool (decide (a>b)))):=by simp[iS,A8]
def Rz{t n a b}:iS P G .geq t (.v (.int n a)) (.v (.int n b)) k=k (.v (.bool (decide (a>=b)))):=by simp[iS,A8]
def Tk{t n m a b}:iS P G .shl t (.v (.int n a)) (.v (.int m b)) k=((gt G->0<=b)/\k (.v (.int n (shV .shl n a b)))):=by simp[iS,A8]
def PD{t n m a b}:iS P G .shr t (.v (.int n a)) (.v (.int m b)) k=((gt G->0<=b)/\k (.v (.int n (shV .shr n a b)))):=by simp[iS,A8]
def SY{t n a b}:iS P G .and t (.v (.int n a)) (.v (.int n b)) k=k (.v (.int n (xR .and n a b))):=by simp[iS,A8]
def XT{t n a b}:iS P G .or t (.v (.int n a)) (.v (.int n b)) k=k (.v (.int n (xR .or n a b))):=by simp[iS,A8]
def Gs{t n a b}:iS P G .andNot t (.v (.int n a)) (.v (.int n b)) k=k (.v (.int n (xR .andNot n a b))):=by simp[iS,A8]
def M0{t x}:iS P G .eql t x (.v (.pointer none)) k=match HK x with|some b=>if JR P t then k (.v (.bool b))else False|none=>(gt G->False)/\k .any:=by
 cases x with
 | v x=>cases x with
  | pointer a=>cases a <;> rfl
  | _=>rfl
 | _=>rfl
def LR{t x}:iS P G .neq t x (.v (.pointer none)) k=match HK x with|some b=>if JR P t then k (.v (.bool !b))else False|none=>(gt G->False)/\k .any:=by
 cases x with
 | v x=>cases x with
  | pointer a=>cases a <;> rfl
  | _=>rfl
 | _=>rfl
def ME{op t x}:iS P G op t .any (.v x) k=((gt G->False)/\k .any):=by cases x with
 | pointer a=>cases a <;> rfl
 | _=>rfl
def LT{x}:wU false .any (.v x)=.v x:=by cases x <;> rfl
def JF{x}:wU true (.v x) .any=.v x:=by cases x with
 | bool b=>cases b <;> rfl
 | _=>rfl
def Mg{t a b}:iS P G .add t (.v (.string a)) (.v (.string b)) k=((gt G->((a.size+b.size:Nat):Int)<=IntKind.i64.max)/\k (.v (.string (a++b)))):=(rfl)
def Mk{t a b}:iS P G .eql t (.v (.string a)) (.v (.string b)) k=k (.v (.bool (a.toList == b.toList))):=(rfl)
def La{t a b}:iS P G .neq t (.v (.string a)) (.v (.string b)) k=k (.v (.bool !(a.toList == b.toList))):=(rfl)
def Lu{t a b}:iS P G .eql t (.v (.bool a)) (.v (.bool b)) k=if Cp P t then k (.v (.bool (a == b)))else False:=(rfl)
def MW{t a b}:iS P G .neq t (.v (.bool a)) (.v (.bool b)) k=if Cp P t then k (.v (.bool !(a == b)))else False:=(rfl)
def MD{t x y}:iS P G .eql t (.agg x) (.agg y) k=bU (A1 P t) fun l=>bU (jC l x y) fun b=>k (.v (.bool b)):=by
 cases h1:A1 P t with
 | none=>simp[iS,bU,h1]
 | some l=>cases E:jC l x y <;> simp[iS,bU,h1,E]
def M6{t x y}:iS P G .neq t (.agg x) (.agg y) k=bU (A1 P t) fun l=>bU (jC l x y) fun b=>k (.v (.bool !b)):=by
 cases h1:A1 P t with
 | none=>simp[iS,bU,h1]
 | some l=>cases E:jC l x y <;> simp[iS,bU,h1,E]
def Tr{c x y}:CX G c (.v x) (.v y) k=k (wU c (.v x) (.v y)):=(rfl)
def To{c x g y}:CX G c (.v x) (.gd g y) k=((gt G->c=false->g=true)/\k (wU c (.v x) y)):=(rfl)
def SE{c g x y}:CX G c (.gd g x) (.v y) k=((gt G->c=true->g=true)/\k (wU c x (.v y))):=(rfl)
def WV{c b}:wU c (.v (.bool true)) (.v (.bool b))=.v (.bool (c||b)):=(rfl)
def XD{c a}:wU c (.v (.bool a)) (.v (.bool false))=.v (.bool (c&&a)):=by cases a <;> cases c <;> rfl
def Nl{cs o}:qQ G H none (.rp cs o) k=((gt G->o<cs.length)/\k (cs.getD o .any)):=(rfl)
def MR{cs o n}:qQ G H (some n) (.rp cs o) k=((gt G->o+n<=cs.length)/\k (.agg ((cs.drop o).take n))):=(rfl)
def Mq{j i f}:qQ G H none (.op j i f) k=bU (H j) fun r=>(gt G->i<r.es.length/\f<r.sz)/\k ((r.es.getD i []).getD f .any):=by cases h1:H j <;> simp[qQ,bU,h1]
def LJ{j i f n}:qQ G H (some n) (.op j i f) k=bU (H j) fun r=>(gt G->i<r.es.length/\f+n<=r.sz)/\k (.agg (((r.es.getD i []).drop f).take n)):=by cases h1:H j <;> simp[qQ,bU,h1]
def Yp{o cs}:apart G o none (.agg cs) k=((gt G->o<cs.length)/\k (cs.getD o .any)):=(rfl)
def WU{o n cs}:apart G o (some n) (.agg cs) k=((gt G->o+n<=cs.length)/\k (.agg ((cs.drop o).take n))):=(rfl)
def Xc{t es}:Kn P H t (.sl es) k=if dC P t then k (.v (.int .i64 es.length))else False:=(rfl)
def WI{t j}:Kn P H t (.os j) k=bU (H j) fun r=>if dC P t then k (.v (.int .i64 r.es.length))else False:=by cases h1:H j <;> simp[Kn,bU,h1]
def Xr{t s}:Kn P H t (.v (.string s)) k=if fL P t then k (.v (.int .i64 s.size))else False:=(rfl)
def C6{t es n i}:hJ P G H t (.sl es) (.v (.int n i)) k=bU (cM P t) fun e=>(gt G->(0<=i/\i<es.length)/\(es.getD i.toNat []).length=e.2.1)/\k (.rp (es.getD i.toNat []) 0):=by cases h1:cM P t <;> simp[hJ,bU,h1]
def C2{t j n i}:hJ P G H t (.os j) (.v (.int n i)) k=bU (H j) fun r=>bU (cM P t) fun e=>(gt G->(0<=i/\i<r.es.length)/\r.sz=e.2.1)/\k (.op j i.toNat 0):=by cases h1:H j <;> cases E:cM P t <;> simp[hJ,bU,h1,E]
def CP{t cs o n i}:hJ P G H t (.rp cs o) (.v (.int n i)) k=bU (CM P t) fun e=>(gt G->0<=i/\i<e.1)/\k (.rp cs (o+i.toNat*e.2.1)):=by cases h1:CM P t <;> simp[hJ,bU,h1]
def CS{t j a o n i}:hJ P G H t (.op j a o) (.v (.int n i)) k=bU (CM P t) fun e=>(gt G->0<=i/\i<e.1)/\k (.op j a (o+i.toNat*e.2.1)):=by cases h1:CM P t <;> simp[hJ,bU,h1]
def C4{t f cs o}:lI P t f (.rp cs o) k=bU (aP P t f) fun e=>k (.rp cs (o+e.1)):=by cases h1:aP P t f <;> simp[lI,bU,h1]
def Da{t f j i o}:lI P t f (.op j i o) k=bU (aP P t f) fun e=>k (.op j i (o+e.1)):=by cases h1:aP P t f <;> simp[lI,bU,h1]
def WX{b}:aun .not (.v (.bool b)) k=k (.v (.bool !b)):=(rfl)
def WH{n i}:aun .neg (.v (.int n i)) k=k (.v (.int n (n.wrap (0-i)))):=(rfl)
def L3{s t n i}:A4 P s t (.v (.int n i)) k=bU (I1 P t) fun m=>bU (I1 P s) fun _=>k (.v (.int m (m.wrap i))):=by cases h1:I1 P t <;> cases E:I1 P s <;> simp[A4,bU,h1,E]
def LL{s t x}:A4 P s t (.v (.string x)) k=if fL P s/\fL P t then k (.v (.string x))else False:=(rfl)
def Sv{s t es}:A4 P s t (.sl es) k=if FZ P s/\fL P t then bU (tX es) fun ns=>k (.v (.string (strOfNums ns)))else False:=by
 by_cases E:FZ P s/\fL P t
 ·cases h1:tX es <;> simp[A4,bU,E,h1]
 ·simp[A4,E]
def LE{t es n a m b}:pD P G t (.sl es) (some (.v (.int n a))) (some (.v (.int m b))) k=bU (cM P t) fun e=>(gt G->(0<=a/\a<=b/\b<=es.length)/\dL e.2.1 es)/\k (.sl ((es.take b.toNat).drop a.toNat)):=by cases h1:cM P t <;> simp[pD,bU,h1]
def RA{t es n a}:pD P G t (.sl es) (some (.v (.int n a))) none k=bU (cM P t) fun e=>(gt G->(0<=a/\a<=es.length)/\dL e.2.1 es)/\k (.sl (es.drop a.toNat)):=by cases h1:cM P t <;> simp[pD,bU,h1]
def Rl{t es m b}:pD P G t (.sl es) none (some (.v (.int m b))) k=bU (cM P t) fun _=>(gt G->0<=b/\b<=es.length)/\k (.sl (es.take b.toNat)):=by cases h1:cM P t <;> simp[pD,bU,h1]
def Kb{t s n a m b}:pD P G t (.v (.string s)) (some (.v (.int n a))) (some (.v (.int m b))) k=if fL P t then(gt G->0<=a/\a<=b/\b<=s.size)/\k (.v (.string (s.extract a.toNat b.toNat)))else False:=(rfl)
def MY{t s n a}:pD P G t (.v (.string s)) (some (.v (.int n a))) none k=if fL P t then(gt G->0<=a/\a<=s.size)/\k (.v (.string (s.extract a.toNat s.size)))else False:=(rfl)
def Nj{t s m b}:pD P G t (.v (.string s)) none (some (.v (.int m b))) k=if fL P t then(gt G->0<=b/\b<=s.size)/\k (.v (.string (s.extract 0 b.toNat)))else False:=(rfl)
def SA{P:Program}{t es n m}{a b:Int}:Gn P G t (.sl es) (.v (.int n a)) (.v (.int m b)) k=bU (cM P t) fun _=>(gt G->a=es.length/\b=es.length)/\k (.cl es):=by unfold Gn bU;cases cM P t <;> rfl
@[congr] theorem aclip_c {P:Program} {t x x' a a' b b'} (h:x=x') (h1:a=a') (h2:b=b'):Gn P G t x a b k=Gn P G t x' a' b' k:=h▸h1▸h2▸rfl
def M3{t s n i}:At P G t (.v (.string s)) (.v (.int n i)) k=if fL P t then(gt G->0<=i/\i<s.size)/\k (.v (.int .u8 ((s.data.getD i.toNat 0).toNat:Int)))else False:=(rfl)
def Nn{t cs n i}:At P G t (.agg cs) (.v (.int n i)) k=bU (CM P t) fun e=>(gt G->0<=i/\i<e.1)/\apart G (i.toNat*e.2.1) e.2.2 (.agg cs) k:=by cases h1:CM P t <;> simp[At,bU,h1]
def Jr{cs}{k:List AV->Prop}:oZ (.agg cs) k=k cs:=(rfl)
def Qj{v}{k:List AV->Prop}:oZ (.v v) k=(v.oneCell'=true/\k [.v v]):=(rfl)
def LM{es}{k:List AV->Prop}:oZ (.sl es) k=k [.sl es]:=(rfl)
def Mn{cs o}{k:List AV->Prop}:oZ (.rp cs o) k=k [.rp cs o]:=(rfl)
def Nb{j}{k:List AV->Prop}:oZ (.os j) k=k [.os j]:=(rfl)
def Lx{j i f}{k:List AV->Prop}:oZ (.op j i f) k=k [.op j i f]:=(rfl)
def Le{t l}:AN P t l k=bU (eI P t) fun z=>bU (fC P t) fun E=>bU (uF E z l) fun cs=>k (.agg cs):=by
 cases h1:eI P t with
 | none=>simp[AN,bU,h1]
 | some z=>cases F:fC P t with
  | none=>simp[AN,bU,h1,F]
  | some E=>cases I:uF E z l <;> simp[AN,bU,h1,F,I]
def wgd(x:AV)(w:Bool)(F:Option Bool->Prop):Prop:=match x with
 | .v (.bool b)=>F (some (b == w))
 | .gd g (.v (.bool b))=>F (some (g&&(b == w)))
 | _=>False
@[congr] theorem wgd_c {x x' w F} (h:x=x'):wgd x w F=wgd x' w F:=h▸rfl
def aqO{b w F}:wgd (.v (.bool b)) w F=F (some (b == w)):=(rfl)
def aqI{g b w F}:wgd (.gd g (.v (.bool b))) w F=F (some (g&&(b == w))):=(rfl)
def GE{F}:dD ops ρ none F=F none:=(rfl)
def GK{j w F}:dD ops ρ (some (j,w)) F=bU ((ops[j]?).bind (·.dst)) fun t=>wgd (ρ t) w F:=by
 cases h1:(ops[j]?).bind (·.dst)with
 | none=>simp[dD,bU,h1]
 | some t=>simp only[dD,bU,h1,wgd]
def pH(K:Env->aH->Prop)(ρ:Env)(d:Option Tmp)(G:Option Bool)(H:aH)(x:AV):Prop:=K (upd ρ d (wr G x)) H
def Mu{x}:pH K ρ d none H x=K (upd ρ d x) H:=(rfl)
def ML{b x}:pH K ρ d (some b) H x=K (upd ρ d (.gd b x)) H:=(rfl)
end
section
variable{P:Program}{C:mL}{PC:FuncId->List AV->aH->AV->Prop}{mt:Nat->Bool}{q:Bool}{ops:Array Oper}{d:Option Tmp}{ty:TypeId}{pos:String}{aft:Array Edge}{gd:Option (Nat×Bool)}{ρ:Env}{H:aH}{K:Env->aH->Prop}
def akH{x}:aop P C PC mt q ops ⟨d,.move x,ty,pos,aft,gd⟩ ρ H K=dD ops ρ gd fun G=>if uO mt d=true then G=none/\q=false/\Cs x ρ d H K else cD G (aev ρ x) (pH K ρ d G H):=(rfl)
def agR{c a b}:aop P C PC mt q ops ⟨d,.pick c a b,ty,pos,aft,gd⟩ ρ H K=dD ops ρ gd fun G=>cD G (aev ρ c) fun x=>wpick G x (aev ρ a) (aev ρ b) (pH K ρ d G H):=(rfl)
def aaY{t l}: aop P C PC mt q ops ⟨d, .build t l, ty, pos, aft, gd⟩ ρ H K = dD ops ρ gd fun G => if uO mt d = true then G = none /\ (if q = true then sQ none ρ l.toList (fun l => bU (eI P t) fun z => bU (fC P t) fun E => bU (uC P t) fun nl => bU (uF E (LO nl z) l) fun cs => pH K ρ d none H (.agg cs)) else
   sQ none ρ l.toList (fun l=>bU (eI P t) fun z=>bU (fC P t) fun E=>bU (uC P t) fun nl=>lS nl z H fun z H=>bU (uF E z l) fun cs=>pH K ρ d none H (.agg cs)))
  else sQ G ρ l.toList fun l=>AN P t l (pH K ρ d G H):=by
 show dD ops ρ gd (fun G=>if uO mt d=true then G=none/\(if q=true then Ct P ⟨d,.build t l,ty,pos,aft,gd⟩ t l.toList ρ H K else DL P ⟨d,.build t l,ty,pos,aft,gd⟩ t l.toList ρ H K)else _)=_
 congr 1;funext G;congr 3
 ·unfold Ct
  congr 1;funext l
  cases h1:eI P t with
  | none=>simp[bU]
  | some z=>cases F:fC P t with
   | none=>simp[bU]
   | some E=>cases J:uC P t with
    | none=>simp[bU]
    | some nl=>simp only[bU];cases I:uF E (LO nl z) l <;> rfl
 unfold DL
 congr 1;funext l
 cases h1:eI P t with
 | none=>simp[bU]
 | some z=>cases F:fC P t with
  | none=>simp[bU]
  | some E=>cases J:uC P t with
   | none=>simp[bU]
   | some nl=>simp only[bU];congr 1;funext z H;cases I:uF E z l <;> rfl
def ajC{t x}:aop P C PC mt q ops ⟨d,.load t x,ty,pos,aft,gd⟩ ρ H K=dD ops ρ gd fun G=>if uO mt d=true then G=none/\q=false/\bU (ldT P t) fun l=>cD none (aev ρ x) fun y=>qQ none H l y fun z=>Mp z ρ d H K else bU (ldT P t) fun l=>cD G (aev ρ x) fun y=>qQ G H l y (pH K ρ d G H):=by
 show dD ops ρ gd (fun G=>if uO mt d=true then G=none/\q=false/\jN P none ρ H (.load t x) fun z=>Mp z ρ d H K else jN P G ρ H (.load t x) (pH K ρ d G H))=_
 congr 1;funext G;cases h1:ldT P t <;> simp[jN,bU,h1]
def N6{x}:aop P C PC mt q ops ⟨d,.nilCheck x,ty,pos,aft,gd⟩ ρ H K=dD ops ρ gd fun G=>cD G (aev ρ x) fun y=>aaC G y (pH K ρ d G H):=(rfl)
def aoW{op t x y t'}:aop P C PC mt q ops ⟨d,.binOp op t x y t',ty,pos,aft,gd⟩ ρ H K=dD ops ρ gd fun G=>if vQ y=true then cD G (aev ρ x) fun x=>dC P t=true/\uB op x (pH K ρ d G H)else cD G (aev ρ x) fun x=>cD G (aev ρ y) fun y=>iS P G op t x y (pH K ρ d G H):=(rfl)
def asT{op t x}:aop P C PC mt q ops ⟨d,.unOp op t x,ty,pos,aft,gd⟩ ρ H K=dD ops ρ gd fun G=>cD G (aev ρ x) fun x=>aun op x (pH K ρ d G H):=(rfl)
def afA{s t x}:aop P C PC mt q ops ⟨d,.convert s t x,ty,pos,aft,gd⟩ ρ H K=dD ops ρ gd fun G=>cD G (aev ρ x) fun x=>A4 P s t x (pH K ρ d G H):=(rfl)
def Ox{t x lo hi}:aop P C PC mt q ops ⟨d,.slice t x (some lo) (some hi) none,ty,pos,aft,gd⟩ ρ H K=dD ops ρ gd fun G=>cD G (aev ρ x) fun x=>cD G (aev ρ lo) fun lo=>cD G (aev ρ hi) fun hi=>asl P G H t x (some lo) (some hi) (pH K ρ d G H):=(rfl)
def Ry{t x hi m}:aop P C PC mt q ops ⟨d,.slice t x none (some hi) (some m),ty,pos,aft,gd⟩ ρ H K=dD ops ρ gd fun G=>cD G (aev ρ x) fun x=>cD G (aev ρ hi) fun hi=>cD G (aev ρ m) fun m=>Gn P G t x hi m (pH K ρ d G H):=(rfl)
def SZ{t x lo}:aop P C PC mt q ops ⟨d,.slice t x (some lo) none none,ty,pos,aft,gd⟩ ρ H K=dD ops ρ gd fun G=>cD G (aev ρ x) fun x=>cD G (aev ρ lo) fun lo=>asl P G H t x (some lo) none (pH K ρ d G H):=(rfl)
def Qx{t x hi}:aop P C PC mt q ops ⟨d,.slice t x none (some hi) none,ty,pos,aft,gd⟩ ρ H K=dD ops ρ gd fun G=>cD G (aev ρ x) fun x=>cD G (aev ρ hi) fun hi=>asl P G H t x none (some hi) (pH K ρ d G H):=(rfl)
def Ku{t x f}:aop P C PC mt q ops ⟨d,.fieldAddr t x f,ty,pos,aft,gd⟩ ρ H K=dD ops ρ gd fun G=>cD G (aev ρ x) fun x=>lI P t f x (pH K ρ d G H):=(rfl)
def K4{t x i}:aop P C PC mt q ops ⟨d,.indexAddr t x i,ty,pos,aft,gd⟩ ρ H K=dD ops ρ gd fun G=>cD G (aev ρ x) fun x=>cD G (aev ρ i) fun i=>hJ P G H t x i (pH K ρ d G H):=(rfl)
def Y6{t x i}:aop P C PC mt q ops ⟨d,.index t x i,ty,pos,aft,gd⟩ ρ H K=dD ops ρ gd fun G=>cD G (aev ρ x) fun x=>cD G (aev ρ i) fun i=>At P G t x i (pH K ρ d G H):=(rfl)
def Rf{x i}:aop P C PC mt q ops ⟨d,.extract x i,ty,pos,aft,gd⟩ ρ H K=dD ops ρ gd fun G=>cD G (aev ρ x) fun x=>amT G x i (pH K ρ d G H):=(rfl)
def U6{x}:aop P C PC mt q ops ⟨d,.assign x,ty,pos,aft,gd⟩ ρ H K=dD ops ρ gd fun G=>if uO mt d=true/\G=none/\q=false/\vQ x=true then bU (cM P ty) fun e=>rQ H ⟨e.1,e.2.1,[]⟩ (WJ K ρ d)else cD G (aev ρ x) (pH K ρ d G H):=by
 show dD ops ρ gd (fun G=>Ek P mt q G ⟨d,.assign x,ty,pos,aft,gd⟩ x ρ H K)=_
 congr 1;funext G
 unfold Ek;cases h1:cM P ty <;> rfl
def aaU{t}:aop P C PC mt q ops ⟨d,.alloc t,ty,pos,aft,gd⟩ ρ H K=dD ops ρ gd fun G=>bU (eI P t) fun z=>G=none/\q=false/\(if uO mt d=true then bU (uC P t) fun nl=>lS nl z H fun z H=>rQ H ⟨t,z.length,[z]⟩ (Yg K ρ d)else rQ H ⟨t,z.length,[z]⟩ (Yg K ρ d)):=by
 show dD ops ρ gd (fun G=>match eI P t with
   | some z => G = none /\ q = false /\ (if uO mt d = true then match uC P t with
       | some nl=>lS nl z H fun z H=>rQ H ⟨t,z.length,[z]⟩ fun k H'=>K (upd ρ d (.op k 0 0)) H'
       | none=>False
     else rQ H ⟨t,z.length,[z]⟩ fun k H'=>K (upd ρ d (.op k 0 0)) H')
   | none=>False)=_
 congr 1;funext G;cases h1:eI P t <;> cases E:uC P t <;> rfl
def apO{t x}:aop P C PC mt q ops ⟨d,.box t x,ty,pos,aft,gd⟩ ρ H K=dD ops ρ gd fun G=>G=none/\q=false/\cD G (aev ρ x) fun x=>oZ x fun cs=>if uO mt d=true then 0<cs.length/\rQ H ⟨t,cs.length,[cs]⟩ (Yg K ρ d)else K (upd ρ d (.rp cs 0)) H:=(rfl)
def Jz{t n l}:aop P C PC mt q ops ⟨d,.buildSlice t n l,ty,pos,aft,gd⟩ ρ H K=dD ops ρ gd fun G=>q=false/\sQ G ρ l.toList fun l=>bU (cM P t) fun e=>(l.map (·.1)=O2 0 n/\dL e.2.1 (l.map (·.2))/\n*e.2.1<=16777216)/\(if uO mt d=true/\G=none then rQ H ⟨e.1,e.2.1,l.map (·.2)⟩ (WJ K ρ d)else pH K ρ d G H (.sl (l.map (·.2)))):=by
 show dD ops ρ gd (fun G=>q=false/\sQ G ρ l.toList fun l'=>qN P mt G ⟨d,.buildSlice t n l,ty,pos,aft,gd⟩ t n l' ρ H K)=_
 congr 1;funext G;congr 2;funext l;unfold qN;cases h1:cM P t <;> rfl
def aaS{t x y}:aop P C PC mt q ops ⟨d,.store t x y,ty,pos,aft,gd⟩ ρ H K=dD ops ρ gd fun G=>G=none/\q=false/\(if vQ y=true then cD G (aev ρ x) fun x=>bU (cM P t) fun e=>rQ H ⟨e.1,e.2.1,[]⟩ (fun j H=>Y7 P d t x [.os j] ρ H K)else cD G (aev ρ x) fun x=>cD G (aev ρ y) fun y=>oZ y fun cs=>Y7 P d t x cs ρ H K):=by
 show dD ops ρ gd (fun G => G = none /\ q = false /\ (if vQ y = true then cD G (aev ρ x) fun a => match cM P t with
       | some (e,sz,_)=>rQ H ⟨e,sz,[]⟩ fun k H=>wO P _ t a [.os k] ρ H K
       | none=>False
     else cD G (aev ρ x) fun a=>cD G (aev ρ y) fun x=>oZ x fun cs=>wO P _ t a cs ρ H K))=_
 congr 1;funext G;congr 4;funext a
 cases h1:cM P t <;> rfl
def abU:B5 P C PC mt ops K [] ρ H=K ρ H:=(rfl)
def auF{k f}:B5 P C PC mt ops K ((k,true)::f) ρ H=bU ops[k]? fun o=>aop P C PC mt true ops o ρ (qH o H) fun E _=>B5 P C PC mt ops K f E H:=by cases h:ops[k]? <;> simp[B5,bU,h]
def asD{k f}:B5 P C PC mt ops K ((k,false)::f) ρ H=bU ops[k]? fun o=>aop P C PC mt false ops o ρ H (B5 P C PC mt ops K f):=by cases h:ops[k]? <;> simp[B5,bU,h]
def Yy{Hp}:yW P C PC mt ops K Hp [] ρ H=K ρ H:=(rfl)
def amV{Hp k f}:yW P C PC mt ops K Hp ((k,true)::f) ρ H=bU ops[k]? fun o=>aop P C PC mt true ops o ρ Hp fun E _=>yW P C PC mt ops K Hp f E H:=by cases h:ops[k]? <;> simp[yW,bU,h]
def aoY{Hp k f}:yW P C PC mt ops K Hp ((k,false)::f) ρ H=bU ops[k]? fun o=>aop P C PC mt false ops o ρ H (yW P C PC mt ops K Hp f):=by cases h:ops[k]? <;> simp[yW,bU,h]
def arM{k}:CN P C PC mt q ops k ρ H K=bU ops[k]? fun o=>aop P C PC mt q ops o ρ H K:=by cases h:ops[k]? <;> simp[CN,bU,h]
def ZJ{Hp}:nJ P C PC mt ops K Hp .nil ρ H=K ρ H:=(rfl)
def apT{Hp k t}:nJ P C PC mt ops K Hp (.q k t) ρ H=CN P C PC mt true ops k ρ Hp fun E _=>nJ P C PC mt ops K Hp t E H:=(rfl)
def amG{Hp k t}:nJ P C PC mt ops K Hp (.a1 k t) ρ H=CN P C PC mt false ops k ρ H (nJ P C PC mt ops K Hp t):=(rfl)
def yM{Hp k t k' t'}(h:CN P C PC mt false ops k ρ H (nJ P C PC mt ops K Hp t))(E:CN P C PC mt false ops k' ρ H (nJ P C PC mt ops K Hp t')):nJ P C PC mt ops K Hp (.a2 k t k' t') ρ H:=⟨h,E⟩
def Ou{f cap}:aop P C PC mt q ops ⟨d,.makeFunc (.func f) #[] cap,ty,pos,aft,gd⟩ ρ H K=dD ops ρ gd fun G=>C0 G ρ cap.toList fun l=>pH K ρ d G H (.fn f l):=by
 show dD ops ρ gd (fun G=>jN P G ρ H (.makeFunc (.func f) #[] cap) (pH K ρ d G H))=_
 congr 1;funext G;simp[jN]
def aqH(K:Env->aH->Prop)(ρ:Env)(d:Option Tmp)(j:Nat)(H:aH):Prop:=K (upd ρ d (.om j)) H
def TC{j}:aqH K ρ d j H=K (upd ρ d (.om j)) H:=(rfl)
def V2{t x i ok}:aop P C PC mt q ops ⟨d,.lookup t x i ok,ty,pos,aft,gd⟩ ρ H K=dD ops ρ gd fun G=>cD G (aev ρ x) fun x=>cD G (aev ρ i) fun i=>wP P H t x i ok (pH K ρ d G H):=(rfl)
def Re{t}:aop P C PC mt q ops ⟨d,.makeMap t none,ty,pos,aft,gd⟩ ρ H K=dD ops ρ gd fun G=>G=none/\q=false/\rQ H ⟨0,2,[]⟩ (aqH K ρ d):=(rfl)
def Lp(P:Program)(d:Option Tmp)(t:TypeId)(m x v:AV)(ρ:Env)(H:aH)(K:Env->aH->Prop):Prop:=nZ P ⟨d,.move (.tmp 0),0,"",#[],none⟩ t m x v ρ H K
@[congr] theorem wmapU_c {P d t m m' x x' v v' ρ H K} (h0:m=m') (h1:x=x') (h2:v=v'):Lp P d t m x v ρ H K=Lp P d t m' x' v' ρ H K:=h0▸h1▸h2▸rfl
def aeD(P:Program)(d:Option Tmp)(t:TypeId)(m x:AV)(ρ:Env)(H:aH)(K:Env->aH->Prop):Prop:=Cc P ⟨d,.move (.tmp 0),0,"",#[],none⟩ t m x ρ H K
@[congr] theorem wmapE_c {P d t m m' x x' ρ H K} (h0:m=m') (h1:x=x'):aeD P d t m x ρ H K=aeD P d t m' x' ρ H K:=h0▸h1▸rfl
def ahS(d:Option Tmp)(m s v:AV)(ρ:Env)(H:aH)(K:Env->aH->Prop):Prop:=xJ ⟨d,.move (.tmp 0),0,"",#[],none⟩ m s v ρ H K
@[congr] theorem wmapS_c {d m m' x x' v v' ρ H K} (h0:m=m') (h1:x=x') (h2:v=v'):ahS d m x v ρ H K=ahS d m' x' v' ρ H K:=h0▸h1▸h2▸rfl
@[congr] theorem alookup_c {P H t x x' i i' ok k} (h0:x=x') (h1:i=i'):wP P H t x i ok k=wP P H t x' i' ok k:=h0▸h1▸rfl
def Kw{t m x v}:aop P C PC mt q ops ⟨d,.mapUpdate t m x v,ty,pos,aft,gd⟩ ρ H K=dD ops ρ gd fun G=>G=none/\q=false/\cD G (aev ρ m) fun m=>cD G (aev ρ x) fun x=>cD G (aev ρ v) fun v=>Lp P d t m x v ρ H K:=(rfl)
def VR{t m x v}:aop P C PC mt q ops ⟨d,.insert t m x v,ty,pos,aft,gd⟩ ρ H K=dD ops ρ gd fun G=>G=none/\q=false/\cD G (aev ρ m) fun m=>cD G (aev ρ x) fun x=>cD G (aev ρ v) fun v=>Lp P d t m x v ρ H K:=(rfl)
def OL{t m x}:aop P C PC mt q ops ⟨d,.mapEntry t m x,ty,pos,aft,gd⟩ ρ H K=dD ops ρ gd fun G=>G=none/\q=false/\cD G (aev ρ m) fun m=>cD G (aev ρ x) fun x=>aeD P d t m x ρ H K:=(rfl)
def Km{t m s v}:aop P C PC mt q ops ⟨d,.entryStore t m s v,ty,pos,aft,gd⟩ ρ H K=dD ops ρ gd fun G=>G=none/\q=false/\cD G (aev ρ m) fun m=>cD G (aev ρ s) fun s=>cD G (aev ρ v) fun v=>ahS d m s v ρ H K:=(rfl)
def Ff{t j key ok k r kt oi z}(J:H j=some r)(F:UJ P t=some kt)(E:pE P kt.1 key=true)(O:wX (tL P kt.1 key) r.es 0=some oi)(I:Ll P kt.2=some z)(h:k (OZ ok z r.es oi)):wP P H t (.om j) key ok k:=by unfold wP Gq;simp only[J,F,O,I];exact⟨E,h⟩
def NF{t j key v r kt oi}(J:H j=some r)(F:UJ P t=some kt)(E:pE P kt.1 key=true)(I:wX (tL P kt.1 key) r.es 0=some oi)(h:K (upd ρ d .any) (aM H j (some { r with es:=ZU r.es oi key v }))):Lp P d t (.om j) key v ρ H K:=by unfold Lp nZ Gq;simp only[J,F,I];exact⟨E,h⟩
def KG{t l c}:aop P C PC mt q ops ⟨d,.makeSlice t l c,ty,pos,aft,gd⟩ ρ H K=dD ops ρ gd fun G=>G=none/\q=false/\cD G (aev ρ l) fun l=>cD G (aev ρ c) fun c=>SP P d t l c ρ H K:=(rfl)
def Zz{t args tys}:aop P C PC mt q ops ⟨d,.call ⟨.value (.tmp t),args,tys⟩,ty,pos,aft,gd⟩ ρ H K=dD ops ρ gd fun G=>cD G (ρ t) fun x=>bU (RD x) fun y=>if uO mt d=true then gt G/\q=false/\aE P y.1=true/\C y.1 (y.2.1++args.toList.map (OG ρ)++y.2.2) H (SW K ρ d)else C0 G ρ args.toList fun l=>aE P y.1=true/\(if G=none/\q=false then C y.1 (y.2.1++l++y.2.2) H (SW K ρ d)else ∃r,(gt G->PC y.1 (y.2.1++l++y.2.2) H r)/\nfq q r (pH K ρ d G H)):=by
 show dD ops ρ gd (fun G=>D7 P C PC (uO mt d) q G ⟨d,.call ⟨.value (.tmp t),args,tys⟩,ty,pos,aft,gd⟩ ⟨.value (.tmp t),args,tys⟩ ρ H K)=_
 congr 1;funext G
 simp only[D7,aev]
 congr 1;funext x
 cases h:RD x with
 | none=>simp[bU]
 | some y=>obtain⟨a,b,c⟩:=y;rfl
def aeO{f args tys}:aop P C PC mt q ops ⟨d,.call ⟨.value (.func f),args,tys⟩,ty,pos,aft,gd⟩ ρ H K=dD ops ρ gd fun G=>if uO mt d=true then gt G/\q=false/\aE P f=true/\C f (args.toList.map (OG ρ)) H (SW K ρ d)else C0 G ρ args.toList fun l=>aE P f=true/\(if G=none/\q=false then C f l H (SW K ρ d)else ∃r,(gt G->PC f l H r)/\nfq q r (pH K ρ d G H)):=by
 show dD ops ρ gd (fun G=>D7 P C PC (uO mt d) q G ⟨d,.call ⟨.value (.func f),args,tys⟩,ty,pos,aft,gd⟩ ⟨.value (.func f),args,tys⟩ ρ H K)=_
 congr 1;funext G
 simp only[D7,aev,cD,RD,List.map_nil,List.nil_append,List.append_nil];rfl
def RY{t}:OG ρ (.tmp t)=ρ t:=(rfl)
def Ka{v}:OG ρ (.const v)=.v v:=(rfl)
def LY{f}:OG ρ (.func f)=.v (.func (.func f) #[] #[]):=(rfl)
def alT{x t}:aop P C PC mt q ops ⟨d,.call ⟨.builtin .len,#[x],#[t]⟩,ty,pos,aft,gd⟩ ρ H K=dD ops ρ gd fun G=>cD G (aev ρ x) fun x=>Kn P H t x (pH K ρ d G H):=(rfl)
def apP{x y t t'}:aop P C PC mt q ops ⟨d,.call ⟨.builtin .max,#[x,y],#[t,t']⟩,ty,pos,aft,gd⟩ ρ H K=dD ops ρ gd fun G=>cD G (aev ρ x) fun x=>cD G (aev ρ y) fun y=>VS x y (pH K ρ d G H):=(rfl)
def anX{x y t t'}:aop P C PC mt q ops ⟨d,.call ⟨.builtin .min,#[x,y],#[t,t']⟩,ty,pos,aft,gd⟩ ρ H K=dD ops ρ gd fun G=>cD G (aev ρ x) fun x=>cD G (aev ρ y) fun y=>Vd x y (pH K ρ d G H):=(rfl)
def ahZ{n m a b}{k:AV->Prop}:VS (.v (.int n a)) (.v (.int m b)) k=k (.v (.int n (eV a b))):=(rfl)
def aiL{n m a b}{k:AV->Prop}:Vd (.v (.int n a)) (.v (.int m b)) k=k (.v (.int n (anL a b))):=(rfl)
def agQ{x y t t'}:aop P C PC mt q ops ⟨d,.call ⟨.builtin .copy,#[x,y],#[t,t']⟩,ty,pos,aft,gd⟩ ρ H K=dD ops ρ gd fun G=>cD G (aev ρ x) fun x=>cD G (aev ρ y) fun y=>if G=none/\q=false then Sk P d t x y ρ H K else False:=(rfl)
def aaW{x t}:aop P C PC mt q ops ⟨d,.call ⟨.builtin .clear,#[x],#[t]⟩,ty,pos,aft,gd⟩ ρ H K=dD ops ρ gd fun G=>cD G (aev ρ x) fun x=>if G=none/\q=false then IC P d t x ρ H K else False:=(rfl)
def adU{G:Option Bool}{k:AV->Prop}{t es lo hi}:asl P G H t (.sl es) lo hi k=pD P G t (.sl es) lo hi k:=(rfl)
def aqF{G:Option Bool}{k:AV->Prop}{t v lo hi}:asl P G H t (.v v) lo hi k=pD P G t (.v v) lo hi k:=(rfl)
def aqM{G:Option Bool}{k:AV->Prop}{t j n a}:asl P G H t (.os j) (some (.v (.int n a))) none k=bU (H j) fun r=>bU (cM P t) fun e=>(gt G->(0<=a/\a<=r.es.length)/\r.sz=e.2.1)/\k (.oz j a.toNat r.es.length):=by cases h1:H j <;> cases E:cM P t <;> simp[asl,bU,h1,E]
def aqN{G:Option Bool}{k:AV->Prop}{t j m b}:asl P G H t (.os j) none (some (.v (.int m b))) k=bU (H j) fun r=>bU (cM P t) fun e=>(gt G->(0<=b/\b<=r.es.length)/\r.sz=e.2.1)/\k (.oz j 0 b.toNat):=by cases h1:H j <;> cases E:cM P t <;> simp[asl,bU,h1,E]
def Qy{k:AV->Prop}{es}:uB .eql (.sl es) k=((es=[]->k (.v (.bool true)))/\k (.v (.bool false))):=(rfl)
def Q9{k:AV->Prop}{es}:uB .neq (.sl es) k=((es=[]->k (.v (.bool false)))/\k (.v (.bool true))):=(rfl)
def K9{k:AV->Prop}{j}:uB .eql (.os j) k=(k (.v (.bool true))/\k (.v (.bool false))):=(rfl)
def MN{k:AV->Prop}:uB .eql (.v (.slice none 0 0)) k=k (.v (.bool true)):=(rfl)
def MI{k:AV->Prop}:uB .neq (.v (.slice none 0 0)) k=k (.v (.bool false)):=(rfl)
def LZ{k:AV->Prop}{j}:uB .neq (.os j) k=(k (.v (.bool false))/\k (.v (.bool true))):=(rfl)
def Un{s x t t'}:aop P C PC mt q ops ⟨d,.call ⟨.builtin .append,#[s,x],#[t,t']⟩,ty,pos,aft,gd⟩ ρ H K=dD ops ρ gd fun G=>cD G (aev ρ s) fun s=>cD G (aev ρ x) fun x=>if t=t'/\G=none/\q=false then NA P d t s x ρ H K else False:=(rfl)
end
section
variable{P:Program}{d:Option Tmp}{ρ:Env}{H:aH}{K:Env->aH->Prop}
def Xj{t n a m b}:SP P d t (.v (.int n a)) (.v (.int m b)) ρ H K=bU (cM P t) fun e=>bU (eI P e.1) fun z=>((0<=a/\a<=b)/\(e.2.2:Int)*b<=140737488355328)/\rQ H ⟨e.1,e.2.1,List.replicate a.toNat z⟩ (WJ K ρ d):=by
 unfold SP vZ;cases h1:cM P t with
 | none=>simp[bU]
 | some e=>obtain⟨x,y,z⟩:=e;cases E:eI P x <;> simp[bU,E] <;> intros <;> rfl
def arI{f first captured}:RD (.v (.func (.func f) first captured))=some (f,first.toList.map .v,captured.toList.map .v):=(rfl)
def aqC{q x}{k:AV->Prop}:nfq q (.v x) k=k (.v x):=by cases q <;> rfl
def W0{q x}{k:AV->Prop}:nfq q (.agg x) k=k (.agg x):=by cases q <;> rfl
def XE{q x}{k:AV->Prop}:nfq q (.tup x) k=k (.tup x):=by cases q <;> rfl
def ajY{x}{k:AV->Prop}:nfq false (.nf x) k=k x:=(rfl)
def apS{f l}:RD (.fn f l)=some (f,[],l):=(rfl)
end
attribute [go_sem ↓] ME LT JF
attribute [go_sem] ME LT JF
@[congr] theorem asl_c {P G H t x x' lo lo' hi hi' k} (h:x=x') (h1:lo=lo') (h2:hi=hi'):asl P G H t x lo hi k=asl P G H t x' lo' hi' k:=h▸h1▸h2▸rfl
@[congr] theorem aeqNil_c {op x x' k} (h:x=x'):uB op x k=uB op x' k:=h▸rfl
def NQ{α:Type}{a:α}{l r:List α}:List.append (a::l) r=a::List.append l r:=(rfl)
def PK{α:Type}{r:List α}:List.append [] r=r:=(rfl)
attribute [go_sem] NQ PK
attribute [go_sem] qH
@[congr] theorem amax_c {x x' y y' K} (h:x=x') (h':y=y'):VS x y K=VS x' y' K:=h▸h'▸rfl
@[congr] theorem amin_c {x x' y y' K} (h:x=x') (h':y=y'):Vd x y K=Vd x' y' K:=h▸h'▸rfl
attribute [go_sem ↓] apP anX ahZ aiL
attribute [go_sem] ahZ aiL
@[congr] theorem pinEnd_c {l l' H K ρ H'} (h:l=l'):sH l H K ρ H'=sH l' H K ρ H':=h▸rfl
attribute [go_sem] LO List.set_cons_zero List.set_cons_succ
attribute [go_sem ↓] ZJ apT amG arM
attribute [go_sem ↓] Yy amV aoY
attribute [go_sem ↓] abU auF asD agQ aaW adU aqF aqM aqN Qy Q9 K9 LZ MN MI
attribute [go_sem] adU aqF aqM aqN Qy Q9 K9 LZ MN MI
attribute [go_sem ↓] aqC W0 XE ajY
attribute [go_sem ↓] V2 Re Kw VR OL Km XV TC
attribute [go_sem] XV TC
attribute [go_sem] aqC W0 XE ajY
attribute [go_sem ↓] Ou KG Zz Xj Tk PD SY XT Gs WD WN WS SA Ry
attribute [go_sem] Xj Tk PD SY XT Gs WD WN WS SA arI apS
attribute [go_sem] XY aqB
@[congr] theorem ownNils_c {l l' z z' H K} (h:l=l') (h':z=z'):lS l z H K=lS l' z' H K:=h▸h'▸rfl
def Pv{z H K}:lS [] z H K=K z H:=(rfl)
def OX{o e sz r z H K}:lS ((o,e,sz)::r) z H K=rQ H ⟨e,sz,[]⟩ fun k H'=>lS r (z.set o (.os k)) H' K:=(rfl)
attribute [go_sem ↓] Pv OX
attribute [go_sem ↓] ahV Jg RE WR Q0 Lv LQ Zv Qg agU alG adF YF UC abG alQ Um XI SJ Zo
attribute [go_sem ↓] C0 sQ akH agR aaY ajC N6 aoW asT afA Ox SZ Qx Ku K4 Y6 Rf U6 aaU apO Jz aaS aeO alT Un
attribute [go_sem ↓] Ym Xh Xg Pw M0 LR Xn Q1 Qi QG PM RF Pq QR P0 TD Rc Rz Mg Mk La Lu MW MD M6 Tr To SE WV XD Nl MR Mq LJ Yp WU Xc WI Xr C6 C2 CP CS C4 Da WX WH L3 LL Sv LE RA Rl Kb MY Nj M3 Nn Jr Qj LM Mn Nb Lx Le aqO aqI GE GK aeM SG Yq WZ QZ Sn Yu X7 W8 I5 Mu ML Qo SO Te XQ Mr PY RY Ka LY
attribute [go_sem] HK Ym Xh Xg Pw M0 LR Xn Q1 Qi QG PM RF Pq QR P0 TD Rc Rz Mg Mk La Lu MW MD M6 Tr To SE WV XD Nl MR Mq LJ Yp WU Xc WI Xr C6 C2 CP CS C4 Da WX WH L3 LL Sv LE RA Rl Kb MY Nj M3 Nn Jr Qj LM Mn Nb Lx Le aqO aqI GE GK aeM SG Yq WZ QZ Sn Yu X7 W8 I5 Mu ML Qo SO Te XQ Mr PY RY Ka LY
attribute [go_sem] asF ajW uO vQ tI Fx gt gok wr xY jC PT Value.oneCell' O2 dL tX Option.map_some uF oV aB
attribute [go_sem] Bool.false_eq_true if_false if_true reduceCtorEq true_and and_true false_and and_false false_implies true_implies implies_true forall_const and_self imp_self ne_eq not_true_eq_false not_false_eq_true
attribute [go_sem] List.getD_cons_zero List.getD_cons_succ List.getD_nil List.length_cons List.length_nil List.drop_zero List.drop_succ_cons List.take_succ_cons List.take_zero Option.getD_some Option.getD_none Nat.zero_add Nat.add_zero List.map_cons List.map_nil List.cons_append List.nil_append List.append_nil
attribute [go_sem] Option.bind_some List.getElem?_toArray List.getElem?_cons_zero List.getElem?_cons_succ
attribute [go_sem ↓] reduceIte
attribute [go_sem] Nat.reduceEqDiff Nat.reduceAdd Nat.reduceMul Nat.reduceSub Nat.reduceLT Nat.reduceLeDiff Nat.reduceBEq
end Go.Aw
end
section
namespace Go.Aw
open Go.RowKit
structure Sg where
 ro:Nat->Prop
 fz:Nat->Prop
 loc:Nat->Value
 sz:Nat->Nat
 N:Nat
mutual
def rep(S:Sg)(w:World):AV->Value->Prop
 | .v x,y=>y=x
 | .any,_=>True
 | .sl es,y=>∃ad n c,y=.slice ad n c/\es.length=n/\n<=c/\c<=maxLen/\(es=[]\/∃b o sz,ad=some ⟨b,o,none⟩/\S.ro b/\0<sz/\jE S w b sz o es)
 | .rp cs off,y=>∃b o,y=.pointer (some ⟨b,o+off,none⟩)/\S.ro b/\dP S w b o cs
 | .agg cs,y=>∃l:List Value,y=.agg l.toArray/\bN S w cs l/\∀u∈l,u.oneCell'=true
 | .tup vs,y=>∃l:List Value,y=.tuple l.toArray/\bN S w vs l
 | .os k,y=>k<S.N/\y=S.loc k/\∃a n c,y=.slice a n c
 | .op k i f,y=>k<S.N/\∃g n c,S.loc k=.slice (some ⟨g,0,none⟩) n c/\y=.pointer (some ⟨g,i*S.sz k+f,none⟩)
 | .gd g x,y=>(g=true->rep S w x y)/\(g=false->y=undef)
 | .nf x,y=>rep S w x y
 | .fn f cap,y=>∃l:List Value,y=.func (.func f) #[] l.toArray/\bN S w cap l
 | .om k,y=>k<S.N/\y=S.loc k/\∃g,y=.map (some g)
 | .cl es,y=>∃ad n,y=.slice ad n n/\es.length=n/\n<=maxLen/\(es=[]\/∃b o sz,ad=some ⟨b,o,none⟩/\S.ro b/\0<sz/\jE S w b sz o es)
 | .oz k a b,y=>k<S.N/\∃ad n c ad' cc,S.loc k=.slice ad n c/\y=.slice ad' (b-a) cc/\a<=b/\b<=n/\(a<b->∃g,ad=some ⟨g,0,none⟩/\ad'=some ⟨g,a*S.sz k,none⟩)/\(a=0->ad'=ad/\cc=c)
def bN(S:Sg)(w:World):List AV->List Value->Prop
 | [],l=>l=[]
 | x::r,l=>∃u t,l=u::t/\rep S w x u/\bN S w r t
def dP(S:Sg)(w:World)(b:Nat):Nat->List AV->Prop
 | _,[]=>True
 | o,x::r=>(∃u,w.cell? ⟨b,o,none⟩=some u/\u.oneCell'=true/\rep S w x u)/\dP S w b (o+1) r
def jE(S:Sg)(w:World)(b sz:Nat):Nat->List (List AV)->Prop
 | _,[]=>True
 | o,cs::r=>cs.length=sz/\dP S w b o cs/\jE S w b sz (o+sz) r
end
structure Sg.le(S S':Sg):Prop where
 ro:∀k,S.ro k->S'.ro k
 N:S.N<=S'.N
 loc:∀k,k<S.N->S'.loc k=S.loc k
 sz:∀k,k<S.N->S'.sz k=S.sz k
def Sg.le_refl(S:Sg):S.le S:=⟨fun _ h=>h,Nat.le_refl _,fun _ _=>rfl,fun _ _=>rfl⟩
def Sg.le_trans{S S' F:Sg}(h:S.le S')(I:S'.le F):S.le F:=
 ⟨fun k E=>I.ro k (h.ro k E),Nat.le_trans h.N I.N,fun k E=>(I.loc k (Nat.lt_of_lt_of_le E h.N)).trans (h.loc k E),
  fun k E=>(I.sz k (Nat.lt_of_lt_of_le E h.N)).trans (h.sz k E)⟩
def blk:Value->Option Nat
 | .slice (some a) _ _=>some a.block
 | .map (some g)=>some g
 | _=>none
def iL(S:Sg)(w w':World):Prop:=∀k,S.ro k->w'.heap[k]?=w.heap[k]?
def iL.refl(S:Sg)(w:World):iL S w w:=fun _ _=>rfl
section
variable{S S':Sg}{w w':World}
def iL.cell(h:iL S w w'){b o:Nat}(E:S.ro b):w'.cell? ⟨b,o,none⟩=w.cell? ⟨b,o,none⟩:=World.cell?_of_block (a:=⟨b,o,none⟩) (h b E)
mutual
def nO(E:S.le S')(I:iL S w w'):∀(x:AV) (y:Value),rep S w x y->rep S' w' x y
 | .v _,_,h=>h
 | .any,_,_=>trivial
 | .sl es,y,h=>by
  simp only[rep]at h |-;obtain⟨U,n,c,rfl,h1,Z,Y,J⟩:=h;refine⟨U,n,c,rfl,h1,Z,Y,?_⟩;rcases J with J|⟨b,o,sz,rfl,F,X,V⟩
  ·exact .inl J
  ·exact .inr ⟨b,o,sz,rfl,E.ro b F,X,Di E I F sz o es V⟩
 | .rp cs off,y,h=>by simp only[rep]at h |-;obtain⟨b,o,rfl,F,hc⟩:=h;exact⟨b,o,rfl,E.ro b F,Aj E I F o cs hc⟩
 | .agg cs,y,h=>by simp only[rep]at h |-;obtain⟨l,rfl,O,h1⟩:=h;exact⟨l,rfl,eT E I cs l O,h1⟩
 | .tup vs,y,h=>by simp only[rep]at h |-;obtain⟨l,rfl,O⟩:=h;exact⟨l,rfl,eT E I vs l O⟩
 | .os k,y,h=>by simp only[rep]at h |-;exact⟨Nat.lt_of_lt_of_le h.1 E.N,by rw[E.loc k h.1];exact h.2⟩
 | .op k i f,y,h=>by simp only[rep]at h |-;refine⟨Nat.lt_of_lt_of_le h.1 E.N,?_⟩;rw[E.loc k h.1,E.sz k h.1];exact h.2
 | .gd g x,y,h=>by simp only[rep]at h |-;exact⟨fun hg=>nO E I x y (h.1 hg),h.2⟩
 | .nf x,y,h=>by simp only[rep]at h |-;exact nO E I x y h
 | .fn f cap,y,h=>by simp only[rep]at h |-;obtain⟨l,rfl,O⟩:=h;exact⟨l,rfl,eT E I cap l O⟩
 | .om k,y,h=>by simp only[rep]at h |-;exact⟨Nat.lt_of_lt_of_le h.1 E.N,by rw[E.loc k h.1];exact h.2⟩
 | .oz k a b,y,h=>by simp only[rep]at h |-;refine⟨Nat.lt_of_lt_of_le h.1 E.N,?_⟩;rw[E.loc k h.1,E.sz k h.1];exact h.2
 | .cl es,y,h=>by
  simp only[rep]at h |-;obtain⟨U,n,rfl,h1,Y,J⟩:=h;refine⟨U,n,rfl,h1,Y,?_⟩;rcases J with J|⟨b,o,sz,rfl,F,X,V⟩
  ·exact .inl J
  ·exact .inr ⟨b,o,sz,rfl,E.ro b F,X,Di E I F sz o es V⟩
def eT(F:S.le S')(E:iL S w w'):∀(x:List AV) (l:List Value),bN S w x l->bN S' w' x l
 | [],_,h=>h
 | x::r,l,h=>by simp only[bN]at h |-;obtain⟨u,t,rfl,h1,I⟩:=h;exact⟨u,t,rfl,nO F E x u h1,eT F E r t I⟩
def Aj(F:S.le S')(E:iL S w w'){b:Nat}(I:S.ro b):∀(o:Nat) (x:List AV),dP S w b o x->dP S' w' b o x
 | _,[],_=>trivial
 | o,x::r,h=>by simp only[dP]at h |-;obtain⟨⟨u,h1,J,U⟩,O⟩:=h;exact⟨⟨u,by rw[E.cell I];exact h1,J,nO F E x u U⟩,Aj F E I (o+1) r O⟩
def Di(F:S.le S')(E:iL S w w'){b:Nat}(I:S.ro b)(sz:Nat):∀(o:Nat) (x:List (List AV)),jE S w b sz o x->jE S' w' b sz o x
 | _,[],_=>trivial
 | o,x::r,h=>by simp only[jE]at h |-;exact⟨h.1,Aj F E I o x h.2.1,Di F E I sz (o+sz) r h.2.2⟩
end
def B8:∀(cs:List AV) (o j:Nat) {b:Nat},dP S w b o cs->j<cs.length->∃u,w.cell? ⟨b,o+j,none⟩=some u/\u.oneCell'=true/\rep S w (cs.getD j .any) u
 | [],_,_,_,_,h=>by simp at h
 | x::r,o,0,b,h,_=>by simp only[dP]at h;simpa using h.1
 | x::r,o,j+1,b,h,hj=>by simp only[dP]at h;have:=B8 r (o+1) j h.2 (by simpa using hj);rw[show o+1+j=o+(j+1)by omega]at this;simpa using this
def zS:∀(cs:List AV) (o j:Nat) {b:Nat},dP S w b o cs->dP S w b (o+j) (cs.drop j)
 | [],_,_,_,_=>by simp[dP]
 | x::r,o,0,b,h=>by simpa using h
 | x::r,o,j+1,b,h=>by simp only[dP]at h;have:=zS r (o+1) j h.2;rw[show o+1+j=o+(j+1)by omega]at this;simpa using this
def Ad:∀(cs:List AV) (o j:Nat) {b:Nat},dP S w b o cs->dP S w b o (cs.take j)
 | [],_,_,_,_=>by simp[dP]
 | x::r,o,0,b,h=>by simp[dP]
 | x::r,o,j+1,b,h=>by simp only[dP,List.take_succ_cons]at h |-;exact⟨h.1,Ad r (o+1) j h.2⟩
def oI:∀(cs:List AV) (o:Nat) {b:Nat},dP S w b o cs->∃l:List Value,l.length=cs.length/\bN S w cs l/\(∀u∈l,u.oneCell'=true)/\∀j u,l[j]?=some u->w.cell? ⟨b,o+j,none⟩=some u
 | [],_,_,_=>⟨[],rfl,by simp[bN],by simp,by simp⟩
 | x::r,o,b,h=>by
  simp only[dP]at h;obtain⟨⟨u,h1,I,X⟩,O⟩:=h;obtain⟨l,F,U,J,V⟩:=oI r (o+1) O;refine⟨u::l,by simp[F],?_,?_,?_⟩
  ·simp only[bN];exact⟨u,l,rfl,X,U⟩
  ·intro v E;rcases List.mem_cons.1 E with rfl|E
   ·exact I
   ·exact J v E
  ·intro j v E;cases j with
   | zero=>simp at E;subst E;simpa using h1
   | succ j=>rw[show o+(j+1)=o+1+j by omega];exact V j v (by simpa using E)
def vD:∀(es:List (List AV)) (o i:Nat) {b sz:Nat},jE S w b sz o es->i<es.length->(es.getD i []).length=sz/\dP S w b (o+i*sz) (es.getD i [])
 | [],_,_,_,_,_,h=>by simp at h
 | x::r,o,0,b,sz,h,_=>by simp only[jE]at h;simpa using⟨h.1,h.2.1⟩
 | x::r,o,i+1,b,sz,h,hi=>by simp only[jE]at h;have:=vD r (o+sz) i h.2.2 (by simpa using hi);rw[show o+sz+i*sz=o+(i+1)*sz by rw[Nat.add_mul];omega]at this;simpa using this
def Dl:∀(es:List (List AV)) (o i:Nat) {b sz:Nat},jE S w b sz o es->jE S w b sz (o+i*sz) (es.drop i)
 | [],_,_,_,_,_=>by simp[jE]
 | x::r,o,0,b,sz,h=>by simpa using h
 | x::r,o,i+1,b,sz,h=>by simp only[jE]at h;have:=Dl r (o+sz) i h.2.2;rw[show o+sz+i*sz=o+(i+1)*sz by rw[Nat.add_mul];omega]at this;simpa using this
def Ao:∀(es:List (List AV)) (o i:Nat) {b sz:Nat},jE S w b sz o es->jE S w b sz o (es.take i)
 | [],_,_,_,_,_=>by simp[jE]
 | x::r,o,0,b,sz,h=>by simp[jE]
 | x::r,o,i+1,b,sz,h=>by simp only[jE,List.take_succ_cons]at h |-;exact⟨h.1,h.2.1,Ao r _ i h.2.2⟩
def vK:∀(xs E:List AV) (o:Nat) {b:Nat},dP S w b o (xs++E)↔dP S w b o xs/\dP S w b (o+xs.length) E
 | [],E,o,b=>by simp[dP]
 | x::r,E,o,b=>by simp only[List.cons_append,dP,vK r E (o+1),List.length_cons,show o+1+r.length=o+(r.length+1)by omega,and_assoc]
def Ap:∀(es:List (List AV)) (o:Nat) {b sz:Nat},jE S w b sz o es->dP S w b o es.flatten
 | [],_,_,_,_=>by simp[dP]
 | x::r,o,b,sz,h=>by simp only[jE]at h;rw[List.flatten_cons,vK];refine⟨h.2.1,?_⟩;rw[h.1];exact Ap r _ h.2.2
def sY:∀(es:List (List AV)) (o:Nat) {b sz:Nat},(∀cs∈es,cs.length=sz)->dP S w b o es.flatten->jE S w b sz o es
 | [],_,_,_,_,_=>by simp[jE]
 | x::r,o,b,sz,hl,h=>by rw[List.flatten_cons,vK]at h;have E:=hl x (by simp);rw[E]at h;simp only[jE];exact⟨E,h.1,sY r _ (fun cs F=>hl cs (by simp[F])) h.2⟩
def rE:∀(es:List (List AV)) {sz:Nat},(∀cs∈es,cs.length=sz)->es.flatten.length=es.length*sz
 | [],_,_=>by simp
 | x::r,sz,hl=>by rw[List.flatten_cons,List.length_append,hl x (by simp),rE r (fun cs E=>hl cs (by simp[E])),List.length_cons,Nat.add_mul];omega
def iV:∀(x:List AV) (l:List Value),bN S w x l->l.length=x.length
 | [],l,h=>by simp only[bN]at h;simp[h]
 | x::r,l,h=>by simp only[bN]at h;obtain⟨u,t,rfl,_,E⟩:=h;simp[iV r t E]
def EB:∀(x:List AV) (l:List Value) (j:Nat),bN S w x l->j<x.length->∃u,l[j]?=some u/\rep S w (x.getD j .any) u
 | [],_,_,_,h=>by simp at h
 | x::r,l,j,h,hj=>by
  simp only[bN]at h;obtain⟨u,t,rfl,h1,E⟩:=h;cases j with
  | zero=>exact⟨u,by simp,by simpa using h1⟩
  | succ j=>obtain⟨v,F,I⟩:=EB r t j E (by simpa using hj);exact⟨v,by simpa using F,by simpa using I⟩
def eG:∀(x y:List AV) (l m:List Value),bN S w x l->bN S w y m->bN S w (x++y) (l++m)
 | [],y,l,m,h,h'=>by simp only[bN]at h;subst h;simpa using h'
 | x::r,y,l,m,h,h'=>by simp only[bN]at h;obtain⟨u,t,rfl,h1,E⟩:=h;simp only[List.cons_append,bN];exact⟨u,t++m,rfl,h1,eG r y t m E h'⟩
def zM:∀(x:List AV) (l:List Value) (j:Nat),bN S w x l->bN S w (x.drop j) (l.drop j)
 | [],l,j,h=>by simp only[bN]at h;subst h;simp[bN]
 | x::r,l,j,h=>by
  cases j with
  | zero=>simpa using h
  | succ j=>simp only[bN]at h;obtain⟨u,t,rfl,_,E⟩:=h;simpa using zM r t j E
def uZ:∀(x:List AV) (l:List Value) (j:Nat),bN S w x l->bN S w (x.take j) (l.take j)
 | [],l,j,h=>by simp only[bN]at h;subst h;simp[bN]
 | x::r,l,j,h=>by
  cases j with
  | zero=>simp[bN]
  | succ j=>simp only[bN]at h;obtain⟨u,t,rfl,h1,E⟩:=h;simp only[List.take_succ_cons,bN];exact⟨u,t.take j,rfl,h1,uZ r t j E⟩
def kT:∀(x:List AV) (l:List Value) (o:Nat) {b:Nat},bN S w x l->(∀u∈l,u.oneCell'=true)->(∀j u,l[j]?=some u->w.cell? ⟨b,o+j,none⟩=some u)->dP S w b o x
 | [],_,_,_,_,_,_=>by simp[dP]
 | x::r,l,o,b,h,h1,hc=>by simp only[bN]at h;obtain⟨u,t,rfl,I,F⟩:=h;simp only[dP];refine⟨⟨u,by simpa using hc 0 u (by simp),h1 u (by simp),I⟩,kT r t (o+1) F (fun v E=>h1 v (by simp[E])) fun j v E=>?_⟩;rw[show o+1+j=o+(j+1)by omega];exact hc (j+1) v (by simpa using E)
end
end Go.Aw
end
section
namespace Go.Aw
open Go.RowKit
def mR(S:Sg)(w:World):Nat->List (List AV)->List MapEntry->Prop
 | _,[],ms=>ms=[]
 | i,cs::r,ms=>∃m t,ms=m::t/\m.born=i/\bN S w cs [m.key,m.val]/\mR S w (i+1) r t
def N8(S:Sg)(w:World)(k:Nat)(r:Row):Prop:=∃xs,w.ownsRow 0 r.e r.sz (S.loc k) r.es.length xs/\bN S w r.es.flatten xs/\∀u∈xs,u.oneCell'=true
def afW(S:Sg)(w:World)(k:Nat)(r:Row):Prop:=∃g ms,S.loc k=.map (some g)/\w.heap[g]?=some (.map (List.toArray ms) ms.length)/\mR S w 0 r.es ms/\r.sz=2
def auH(a:Option Addr)(n c:Nat):blk (.slice a n c)=(Value.slice a n c).ownBlock:=by cases a <;> rfl
structure RowOK(S:Sg)(w:World)(k:Nat)(r:Row):Prop where
 lt:k<S.N
 sz:r.sz=S.sz k
 pos:0<r.sz
 len:∀cs∈r.es,cs.length=r.sz
 own:N8 S w k r\/afW S w k r
def BY(S:Sg)(w:World)(H:aH):Prop:=∀k r,H k=some r->RowOK S w k r
def RowOK.sl{S:Sg}{w:World}{k:Nat}{r:Row}(h:RowOK S w k r){a:Option Addr}{n c:Nat}(E:S.loc k=.slice a n c):N8 S w k r:=by
 rcases h.own with h1|⟨g,ms,h1,_⟩
 ·exact h1
 ·rw[E]at h1;cases h1
def RowOK.mp{S:Sg}{w:World}{k:Nat}{r:Row}(h:RowOK S w k r){g:Nat}(F:S.loc k=.map (some g)):afW S w k r:=by
 rcases h.own with⟨xs,E,_⟩|h1
 ·rcases E.2 with⟨hv,_⟩|⟨_,_,_,hv,_⟩ <;> (rw[F]at hv;cases hv)
 ·exact h1
structure Agree(S:Sg)(H:aH)(w w':World):Prop where
 kept:iL S w w'
 own:∀k r,H k=some r->∀g,blk (S.loc k)=some g->w'.heap[g]?=w.heap[g]?
def Agree.refl(S:Sg)(H:aH)(w:World):Agree S H w w:=⟨iL.refl S w,fun _ _ _ _ _=>rfl⟩
def As(P:Program)(S:Sg)(H:aH)(w:World)(z:AV)(e:Sem Value):Prop:=
 ∃v,rep S w z v/\∀w',Agree S H w w'->e.run P w'=.ok v w'
section
variable{P:Program}{S:Sg}{H:aH}{w:World}{G:Option Bool}{K:AV->Prop}
def nD{x:Value}:rep S w (.v x) x:=by simp only[rep]
def zE{t:TypeId}{l:Option Nat}(h:ldT P t=some l):∃d,P.underlying t=some d /\
  match l with
  | none=>(∀fs,d≠.struct fs)/\∀n e,d≠.array n e
  | some n=>((∃fs,d=.struct fs)\/∃m e,d=.array m e)/\∃i,P.info? t=some i/\i.size=n:=by
 unfold ldT at h;cases E:P.underlying t with
 | none=>rw[E]at h;simp at h
 | some d=>
  refine⟨d,rfl,?_⟩;rw[E]at h;cases hi:P.info? t with
  | none=>rw[hi]at h;cases d <;> simp at h
  | some i=>rw[hi]at h;cases d <;> simp at h <;> subst h <;> simp
def uQ{t:TypeId}{l:Option Nat}(h:ldT P t=some l)(w:World):(isAgg t).run P w=.ok l.isSome w:=by
 obtain⟨d,E,F⟩:=zE h;cases l with
 | none=>obtain⟨h1,I⟩:=F;simp only[isAgg,Sem.run_bind,run_underlying E,Result.andThen];cases d <;> simp_all
 | some n=>obtain⟨h1,_⟩:=F;simp only[isAgg,Sem.run_bind,run_underlying E,Result.andThen];rcases h1 with⟨fs,rfl⟩|⟨m,e,rfl⟩ <;> simp
def yL{t:TypeId}{n:Nat}(h:ldT P t=some (some n))(w:World):(sizeOf t).run P w=.ok n w:=by obtain⟨d,F,E⟩:=zE h;obtain⟨_,i,hi,rfl⟩:=E;simp[sizeOf,typeInfo,hi]
def AZ{t:TypeId}(h:ldT P t=some none){a:Addr}{v:Value}(E:w.cell? a=some v):(loadVar t a).run P w=.ok v w:=by simp[loadVar,uQ h,E]
def yN{t:TypeId}{l:List Value}(h:ldT P t=some (some l.length)){b o:Nat}(E:∀j v,l[j]?=some v->w.cell? ⟨b,o+j,none⟩=some v):
  (loadVar t ⟨b,o,none⟩).run P w=.ok (.agg l.toArray) w:=by
 have:=run_loadCells_list (P:=P) w ⟨b,o,none⟩ l (fun j v F=>by rw[Addr.add_lit];exact E j v F);simp[loadVar,uQ h,yL h,this]
def RowOK.cells{k:Nat}{r:Row}(h:RowOK S w k r){Y:Option Addr}{U O:Nat}(Z:S.loc k=.slice Y U O)(E:r.es≠[]):∃g n c,S.loc k=.slice (some ⟨g,0,none⟩) n c/\dP S w g 0 r.es.flatten/\n=r.es.length:=by
 obtain⟨xs,F,V,h1⟩:=h.sl Z;rcases F.2 with⟨_,X⟩|⟨g,cap,cur,I,_⟩
 ·exact absurd (List.eq_nil_of_length_eq_zero X) E
 ·refine⟨g,_,cap,I,?_,rfl⟩;refine kT _ xs 0 V h1 fun j u J=>?_
  have:=F.cells (g:=g) (by rw[I];rfl) j u J
  rwa [Addr.add_lit]at this
def RowOK.els{k:Nat}{r:Row}(h:RowOK S w k r){F:Option Addr}{O J:Nat}(U:S.loc k=.slice F O J)(E:r.es≠[]):∃g n c,S.loc k=.slice (some ⟨g,0,none⟩) n c/\jE S w g r.sz 0 r.es/\n=r.es.length:=by obtain⟨g,n,c,h1,I,V⟩:=h.cells U E;exact⟨g,n,c,h1,sY _ _ h.len I,V⟩
def Agree.cell{w':World}(E:Agree S H w w'){b o:Nat}{u:Value}(F:S.ro b)(h:w.cell? ⟨b,o,none⟩=some u):w'.cell? ⟨b,o,none⟩=some u:=(E.kept.cell F).trans h
def Agree.cellOwn{w':World}(I:Agree S H w w'){k g n c o:Nat}{r:Row}{u:Value}(E:H k=some r)(F:S.loc k=.slice (some ⟨g,0,none⟩) n c)(h:w.cell? ⟨g,o,none⟩=some u):w'.cell? ⟨g,o,none⟩=some u:=by have:=I.own k r E g (by rw[F];rfl);exact(World.cell?_of_block (a:=⟨g,o,none⟩) this).trans h
def GH{t:TypeId}{l:Option Nat}{x:AV}(X:ldT P t=some l)(hH:BY S w H)(h:qQ G H l x K):
  ∃z,K z/\(gt G->∀u,rep S w x u->As P S H w z (Instr.loadAt t u)):=by
 unfold qQ at h;split at h
 ·rename_i cs off;cases l with
  | none=>refine⟨_,h.2,fun U u J=>?_⟩;simp only[rep]at J;obtain⟨b,o,rfl,hb,hc⟩:=J;obtain⟨v,h1,_,h3⟩:=B8 cs o off hc (h.1 U);refine⟨v,h3,fun w' O=>?_⟩;simp[Instr.loadAt,Instr.sureAddr,AZ X (O.cell hb h1)]
  | some n=>
   refine⟨_,h.2,fun U u J=>?_⟩;simp only[rep]at J;obtain⟨b,o,rfl,hb,hc⟩:=J;obtain⟨l,I,Z,Y,e4⟩:=oI _ _ (Ad _ _ n (zS cs o off hc));have aa:=h.1 U;have hn:l.length=n:=by rw[I];simp;omega
   refine⟨.agg l.toArray,by simp only[rep];exact⟨l,rfl,Z,Y⟩,fun w' O=>?_⟩;rw[<-hn]at X;simp[Instr.loadAt,Instr.sureAddr,yN X (fun j v hj=>O.cell hb (e4 j v hj))]
 ·rename_i k i f;split at h
  ·rename_i r hk;have hr:=hH k r hk;cases l with
   | none=>
    refine⟨_,h.2,fun U u J=>?_⟩;simp only[rep]at J;obtain⟨_,g,n,c,F,rfl⟩:=J;obtain⟨hi,hf⟩:=h.1 U;have V:r.es≠[]:=fun e=>by rw[e]at hi;simp at hi
    obtain⟨g',n',c',E,he,_⟩:=hr.els F V;rw[F]at E;injection E with I Z Y;injection I with I;injection I with I;subst I;obtain⟨e4,e5⟩:=vD _ 0 i he hi;obtain⟨v,h1,_,h3⟩:=B8 _ _ f e5 (by rw[e4];exact hf);refine⟨v,h3,fun w' O=>?_⟩;rw[<-hr.sz];rw[Nat.zero_add]at h1;simp[Instr.loadAt,Instr.sureAddr,AZ X (O.cellOwn hk F h1)]
   | some m=>
    refine⟨_,h.2,fun U u J=>?_⟩;simp only[rep]at J;obtain⟨_,g,n,c,F,rfl⟩:=J;obtain⟨hi,hf⟩:=h.1 U;have V:r.es≠[]:=fun e=>by rw[e]at hi;simp at hi
    obtain⟨g',n',c',E,he,_⟩:=hr.els F V;rw[F]at E;injection E with I Z Y;injection I with I;injection I with I;subst I;obtain⟨e4,e5⟩:=vD _ 0 i he hi;obtain⟨l,I,Z,Y,e6⟩:=oI _ _ (Ad _ _ m (zS _ _ f e5));have hn:l.length=m:=by rw[I,List.length_take,List.length_drop,e4];omega
    refine⟨.agg l.toArray,by simp only[rep];exact⟨l,rfl,Z,Y⟩,fun w' O=>?_⟩;rw[<-hn]at X;rw[<-hr.sz];rw[Nat.zero_add]at e6;simp[Instr.loadAt,Instr.sureAddr,yN X (fun j v hj=>O.cellOwn hk F (e6 j v hj))]
  ·exact h.elim
 ·exact h.elim
def qT{t:TypeId}(h:ldT P t=some none){l:List Value}{o:Nat}{u:Value}(E:l[o]?=some u):(part t l.toArray o).run P w=.ok u w:=by simp[part,uQ h,E]
def Kx{t:TypeId}{n:Nat}(h:ldT P t=some (some n)){l:List Value}{o:Nat}:(part t l.toArray o).run P w=.ok (.agg ((l.drop o).take n).toArray) w:=by simp[part,uQ h,yL h,List.extract_eq_take_drop]
def GV{t:TypeId}{l:Option Nat}{x:AV}{off:Nat}(I:ldT P t=some l)(h:apart G off l x K):
  ∃z,K z/\(gt G->∀u,rep S w x u->∃cs:Array Value,u=.agg cs/\As P S H w z (part t cs off)):=by
 unfold apart at h;split at h
 ·rename_i cs;cases l with
  | none=>refine⟨_,h.2,fun F u E=>?_⟩;simp only[rep]at E;obtain⟨l,rfl,h1,_⟩:=E;obtain⟨v,J,U⟩:=EB cs l off h1 (h.1 F);exact⟨_,rfl,v,U,fun w' _=>qT I J⟩
  | some n=>refine⟨_,h.2,fun F u E=>?_⟩;simp only[rep]at E;obtain⟨l,rfl,h1,O⟩:=E;refine⟨_,rfl,_,?_,fun w' _=>Kx I⟩;simp only[rep];exact⟨_,rfl,uZ _ _ n (zM _ _ off h1),fun u E=>O u (List.mem_of_mem_drop (List.mem_of_mem_take E))⟩
 ·exact h.elim
def CT{t:TypeId}{f o:Nat}{l:Option Nat}(h:aP P t f=some (o,l)):
  ∃fs E i,P.underlying t=some (.struct fs)/\fs[f]?=some E/\E.offset=o/\P.info? E.type=some i/\i.size≠0/\ldT P E.type=some l:=by
 unfold aP at h;cases J:P.underlying t with
 | none=>simp[J]at h
 | some d=>
  cases d <;> simp only[J]at h <;> try (simp at h;done)
  rename_i fs;cases I:fs[f]? with
  | none=>simp[I]at h
  | some E=>
   simp only[I]at h;cases hi:P.info? E.type with
   | none=>simp[hi]at h
   | some i=>
    simp only[hi]at h;split at h
    ·simp at h
    ·rename_i O;cases F:ldT P E.type with
     | none=>simp[F]at h
     | some l'=>simp[F]at h;obtain⟨rfl,rfl⟩:=h;exact⟨fs,E,i,rfl,I,rfl,hi,O,F⟩
def GF{t:TypeId}{f o:Nat}{l:Option Nat}(h:aP P t f=some (o,l))(b p:Nat)(w:World):
  (Instr.fieldAt t (.pointer (some ⟨b,p,none⟩)) f).run P w=.ok (.pointer (some ⟨b,p+o,none⟩)) w:=by
 obtain⟨fs,J,i,E,I,rfl,hi,F,_⟩:=CT h;simp[Instr.fieldAt,run_underlying E,I,Instr.sureAddr,fieldPlace,sizeOf,typeInfo,hi,F,Addr.add_lit]
def Fo{t:TypeId}{f:Nat}{x:AV}(h:lI P t f x K):
  ∃z,K z/\(gt G->∀u,rep S w x u->As P S H w z (Instr.fieldAt t u f)):=by
 unfold lI at h;split at h
 ·rename_i cs off;split at h
  ·rename_i o l F;refine⟨_,h,fun _ u E=>?_⟩;simp only[rep]at E;obtain⟨b,p,rfl,J,O⟩:=E;refine⟨_,?_,fun w' _=>GF F b (p+off) w'⟩;simp only[rep];exact⟨b,p,by rw[Nat.add_assoc],J,O⟩
  ·exact h.elim
 ·rename_i k i g;split at h
  ·rename_i o l F;refine⟨_,h,fun _ u E=>?_⟩;simp only[rep]at E;obtain⟨h1,b,n,c,I,rfl⟩:=E;refine⟨_,?_,fun w' _=>GF F b _ w'⟩;simp only[rep];exact⟨h1,b,n,c,I,by rw[Nat.add_assoc]⟩
  ·exact h.elim
 ·exact h.elim
def kE{t:TypeId}{e sz E:Nat}(h:cM P t=some (e,sz,E)):
  ∃i z,P.underlying t=some (.slice e)/\P.info? e=some i/\i.size=sz/\i.bytes=E/\0<sz/\0<E/\i.zero=some z/\z.cells.size=sz:=by
 unfold cM at h;cases J:P.underlying t with
 | none=>simp[J]at h
 | some d=>
  cases d <;> simp only[J]at h <;> try (simp at h;done)
  rename_i U;cases hi:P.info? U with
  | none=>simp[hi]at h
  | some i=>
   simp only[hi]at h;split at h
   ·simp at h
   ·rename_i O;simp at h;obtain⟨rfl,rfl,rfl⟩:=h;simp only[not_or,ne_eq,Decidable.not_not]at O;obtain⟨h1,V,I⟩:=O;cases F:i.zero with
    | none=>simp[F]at I
    | some z=>simp[F]at I;exact⟨i,z,rfl,hi,rfl,rfl,by omega,by omega,F,I⟩
def Mi{t:TypeId}{n s:Nat}{l:Option Nat}(h:CM P t=some (n,s,l)):
  ∃e i,P.underlying t=some (.array n e)/\P.info? e=some i/\i.size=s/\s≠0/\ldT P e=some l:=by
 unfold CM at h;cases F:P.underlying t with
 | none=>simp[F]at h
 | some d=>
  cases d <;> simp only[F]at h <;> try (simp at h;done)
  rename_i m e;cases hi:P.info? e with
  | none=>simp[hi]at h
  | some i=>
   simp only[hi]at h;split at h
   ·simp at h
   ·rename_i I;cases E:ldT P e with
    | none=>simp[E]at h
    | some l'=>simp[E]at h;obtain⟨rfl,rfl,rfl⟩:=h;exact⟨e,i,rfl,hi,rfl,I,E⟩
def Bk{t:TypeId}{e sz E:Nat}(h:cM P t=some (e,sz,E))(b o len cap:Nat)(k:IntKind)(i:Int)(h0:0<=i)(h1:i<len)(w:World):
  (Instr.indexAt t (.slice (some ⟨b,o,none⟩) len cap) (.int k i)).run P w=.ok (.pointer (some ⟨b,o+i.toNat*sz,none⟩)) w:=by
 obtain⟨I,z,F,hi,rfl,_⟩:=kE h;simp[Instr.indexAt,run_underlying F,asIntOf,h0,h1,sizeOf,typeInfo,hi,Addr.add_lit]
def A5{t:TypeId}{n s:Nat}{l:Option Nat}(h:CM P t=some (n,s,l))(b o:Nat)(k:IntKind)(i:Int)(h0:0<=i)(h1:i<n)(w:World):
  (Instr.indexAt t (.pointer (some ⟨b,o,none⟩)) (.int k i)).run P w=.ok (.pointer (some ⟨b,o+i.toNat*s,none⟩)) w:=by
 obtain⟨e,F,E,hi,rfl,_⟩:=Mi h;simp[Instr.indexAt,run_underlying E,asIntOf,h0,h1,Instr.sureAddr,sizeOf,typeInfo,hi,Addr.add_lit]
def FV{t:TypeId}{x i:AV}(hH:BY S w H)(h:hJ P G H t x i K):
  ∃z,K z/\(gt G->∀u v,rep S w x u->rep S w i v->As P S H w z (Instr.indexAt t u v)):=by
 unfold hJ at h;split at h
 ·rename_i es k n;split at h
  ·rename_i e sz U Z;refine⟨_,h.2,fun V u v F J=>?_⟩;obtain⟨⟨h0,h1⟩,Y⟩:=h.1 V;simp only[rep]at F J;subst J;obtain⟨ad,m,c,rfl,e1,_,_,e2⟩:=F;rcases e2 with rfl|⟨b,o,ab,rfl,hb,_,X⟩
   ·simp at h1;omega
   ·have I:n.toNat<es.length:=by omega
    obtain⟨e3,e4⟩:=vD es o n.toNat X I;have aa:ab=sz:=by rw[<-e3,Y]
    subst aa;refine⟨_,?_,fun w' _=>Bk Z b o m c k n h0 (by omega) w'⟩;simp only[rep];exact⟨b,_,by rw[Nat.add_zero],hb,e4⟩
  ·exact h.elim
 ·rename_i k ik n;split at h
  ·rename_i r e sz U hk Z;refine⟨_,h.2,fun V u v F J=>?_⟩;obtain⟨⟨h0,h1⟩,Y⟩:=h.1 V;have hr:=hH k r hk;have ac:r.es≠[]:=fun e=>by rw[e]at h1;simp at h1;omega
   simp only[rep]at F J;subst J;obtain⟨I,rfl,_,_,_,O⟩:=F;obtain⟨g,m,c,E,_,hm⟩:=hr.els O ac;rw[E];refine⟨_,?_,fun w' _=>Bk Z g 0 m c ik n h0 (by omega) w'⟩;simp only[rep];exact⟨I,g,m,c,E,by rw[<-hr.sz,Y];simp⟩
  ·exact h.elim
 ·rename_i cs off k n;split at h
  ·rename_i m s l ha;refine⟨_,h.2,fun V u v F J=>?_⟩;obtain⟨h0,h1⟩:=h.1 V;simp only[rep]at F J;subst J;obtain⟨b,o,rfl,hb,hc⟩:=F;refine⟨_,?_,fun w' _=>A5 ha b (o+off) k n h0 h1 w'⟩;simp only[rep];exact⟨b,o,by rw[Nat.add_assoc],hb,hc⟩
  ·exact h.elim
 ·rename_i k j f ik n;split at h
  ·rename_i m s l ha;refine⟨_,h.2,fun V u v F J=>?_⟩;obtain⟨h0,h1⟩:=h.1 V;simp only[rep]at F J;subst J;obtain⟨I,g,n',c,E,rfl⟩:=F;refine⟨_,?_,fun w' _=>A5 ha g _ ik n h0 h1 w'⟩;simp only[rep];exact⟨I,g,n',c,E,by rw[Nat.add_assoc]⟩
  ·exact h.elim
 ·exact h.elim
def BJ{t:TypeId}(h:dC P t=true):∃e,P.underlying t=some (.slice e):=by
 unfold dC at h;split at h
 ·rename_i e E;exact⟨e,E⟩
 ·simp at h
def hY{t:TypeId}(h:fL P t=true):P.underlying t=some .string:=by
 unfold fL at h;split at h
 ·rename_i E;exact E
 ·simp at h
def YP{t:TypeId}(h:JR P t=true):∃e,P.underlying t=some (.pointer e):=by
 unfold JR at h;split at h
 ·rename_i e E;exact⟨e,E⟩
 ·simp at h
def TN{t:TypeId}(h:Cp P t=true):P.underlying t=some .bool:=by
 unfold Cp at h;split at h
 ·rename_i E;exact E
 ·simp at h
def Iw{t ty:TypeId}{x:AV}(Y:BY S w H)(h:Kn P H t x K):
  ∃z,K z/\(gt G->∀u,rep S w x u->As P S H w z (Builtin.len_ #[t] ty #[u])):=by
 unfold Kn at h;split at h
 ·rename_i es;split at h
  ·rename_i I;obtain⟨e,J⟩:=BJ I;refine⟨_,h,fun _ u E=>?_⟩;simp only[rep]at E;obtain⟨ad,m,c,rfl,V,_⟩:=E;refine⟨_,nD,fun w' _=>?_⟩;simp[Builtin.len_,run_underlying J,goInt,V]
  ·exact h.elim
 ·rename_i k;split at h
  ·rename_i r U;split at h
   ·rename_i I;obtain⟨e,J⟩:=BJ I;refine⟨_,h,fun _ u E=>?_⟩;simp only[rep]at E;obtain⟨_,rfl,_,_,_,F⟩:=E;obtain⟨xs,X,_⟩:=(Y k r U).sl F;refine⟨_,nD,fun w' _=>?_⟩;rcases X.2 with⟨O,Z⟩|⟨g,cap,cur,O,_⟩
    ·simp[Builtin.len_,run_underlying J,goInt,O,Z]
    ·simp[Builtin.len_,run_underlying J,goInt,O]
   ·exact h.elim
  ·exact h.elim
 ·rename_i s;split at h
  ·rename_i I;refine⟨_,h,fun _ u E=>?_⟩;simp only[rep]at E;subst E;refine⟨_,nD,fun w' _=>?_⟩;simp[Builtin.len_,run_underlying (hY I),goInt]
  ·exact h.elim
 ·exact h.elim
def IA{x y:AV}{tys:Array TypeId}{ty:TypeId}(h:VS x y K):
  ∃z,K z/\(gt G->∀u v,rep S w x u->rep S w y v->As P S H w z (Builtin.max_ tys ty #[u,v])):=by
 unfold VS at h;split at h
 ·refine⟨_,h,fun _ u v E F=>?_⟩;simp only[rep]at E F;subst E;subst F;exact⟨_,nD,fun w' _=>by simp[Builtin.max_,Builtin.max2,eV]⟩
 ·exact h.elim
def IR{x y:AV}{tys:Array TypeId}{ty:TypeId}(h:Vd x y K):
  ∃z,K z/\(gt G->∀u v,rep S w x u->rep S w y v->As P S H w z (Builtin.min_ tys ty #[u,v])):=by
 unfold Vd at h;split at h
 ·refine⟨_,h,fun _ u v E F=>?_⟩;simp only[rep]at E F;subst E;subst F;exact⟨_,nD,fun w' _=>by simp[Builtin.min_,Builtin.min2,anL]⟩
 ·exact h.elim
end
end Go.Aw
end
section
namespace Go.Aw
open Go.RowKit
section
variable{P:Program}{S:Sg}{H:aH}{w:World}{G:Option Bool}{K:AV->Prop}
def jA{z:AV}{e:Sem Value}{v:Value}(E:rep S w z v)(h:∀w',e.run P w'=.ok v w'):As P S H w z e:=⟨v,E,fun w' _=>h w'⟩
def nR{t:TypeId}{c:Nat}(h:wZ P t=some c):(c=0/\∃k,P.underlying t=some (.int k))\/(c=1/\P.underlying t=some .string)\/(c=2/\P.underlying t=some .bool):=by unfold wZ at h;split at h <;> simp_all
def XF{t:TypeId}{c:Nat}(h:wZ P t=some c)(hi:(P.info? t).isSome=true):ldT P t=some none:=by obtain⟨i,hi⟩:=Option.isSome_iff_exists.1 hi;unfold ldT;rw[hi];rcases nR h with⟨_,k,hk⟩|⟨_,hk⟩|⟨_,hk⟩ <;> rw[hk]
def yU{t:TypeId}{c:Nat}{x y:AV}{u v:Value}{b:Bool}{d:Nat}(J:wZ P t=some c)(h:xY c x y=some b)(F:rep S w x u)(I:rep S w y v)(w':World):
  (Op.equalIn (d+1) t u v).run P w'=.ok b w':=by
 unfold xY at h;split at h
 ·split at h
  ·simp only[rep]at F I;subst F I;rename_i O;subst O;simp at h;rcases nR J with⟨_,k',E⟩|⟨h0,_⟩|⟨h0,_⟩
   ·rw[run_equalIn_int w' d t _ k' _ _ E,h]
   ·simp at h0
   ·simp at h0
  ·simp at h
 ·simp only[rep]at F I;subst F I;rcases nR J with⟨h0,_⟩|⟨_,E⟩|⟨h0,_⟩
  ·simp at h0
  ·rw[run_equalIn_string w' d t _ _ E];injection h with h;rw[h]
  ·simp at h0
 ·simp only[rep]at F I;subst F I;rcases nR J with⟨h0,_⟩|⟨h0,_⟩|⟨_,E⟩
  ·simp at h0
  ·simp at h0
  ·rw[run_equalIn_bool' w' d t _ _ E];injection h with h;rw[h]
 ·simp at h
def wV:∀(fs:List Field) (l:List Nat) (xs ys:List AV) (o:Nat) (us vs pu pv:List Value) (b:Bool) (d:Nat),
  sP P o fs=some l->jC l xs ys=some b->bN S w xs us->bN S w ys vs->pu.length=o->pv.length=o->∀w':World,
  (Op.eqFields (d+1) (pu++us).toArray (pv++vs).toArray fs).run P w'=.ok b w'
 | [],l,xs,ys,o,us,vs,pu,pv,b,d,E,he,_,_,_,_,w'=>by simp only[sP]at E;injection E with E;subst E;cases xs <;> cases ys <;> simp[jC]at he;subst he;simp[Op.eqFields]
 | f::fs,l,xs,ys,o,us,vs,pu,pv,b,d,E,he,hx,hy,e1,e2,w'=>by
  simp only[sP]at E;split at E
  ·rename_i hc;simp only[Bool.and_eq_true,bne_iff_ne,ne_eq,beq_iff_eq]at hc;obtain⟨⟨hn,ho⟩,hi⟩:=hc;cases O:wZ P f.type with
   | none=>simp[O]at E
   | some c=>
    cases Z:sP P (o+1) fs with
    | none=>simp[O,Z]at E
    | some l'=>
     simp[O,Z]at E;subst E;cases xs with
     | nil=>simp[jC]at he
     | cons x xs=>
      cases ys with
      | nil=>simp[jC]at he
      | cons y ys=>
       simp only[jC]at he;cases F:xY c x y with
       | none=>simp[F,PT]at he
       | some b1=>
        cases I:jC l' xs ys with
        | none=>simp[F,I,PT]at he
        | some b2=>
         simp[F,I,PT]at he;simp only[bN]at hx hy;obtain⟨u,J,rfl,hu,X⟩:=hx;obtain⟨v,U,rfl,hv,Y⟩:=hy;have V:=XF O hi;have p1:∀w':World,(part f.type (pu++u::J).toArray f.offset).run P w'=.ok u w':=fun w'=>qT (w:=w') V (by rw[ho,<-e1];simp)
         have p2:∀w':World,(part f.type (pv++v::U).toArray f.offset).run P w'=.ok v w':=fun w'=>qT (w:=w') V (by rw[ho,<-e2];simp)
         have q:=yU (d:=d) O F hu hv;have ih:=wV fs l' xs ys (o+1) J U (pu++[u]) (pv++[v]) b2 d Z I X Y (by simp[e1]) (by simp[e2]) w';simp only[List.append_assoc,List.singleton_append]at ih;simp only[Op.eqFields,hn,ne_eq,not_false_eq_true,if_true,Sem.run_bind,p1,p2,q,Result.andThen_ok,Sem.run_ite];subst he;cases b1
         ·simp
         ·simp only[Bool.not_true,Bool.false_eq_true,if_false,Bool.true_and];exact ih
  ·simp at E
def DT{e:TypeId}{c:Nat}(V:wZ P e=some c)(hi:(P.info? e).isSome=true){d:Nat}:∀(m i:Nat) (xs ys:List AV) (us vs pu pv:List Value) (b:Bool),
   jC (List.replicate m c) xs ys=some b->bN S w xs us->bN S w ys vs->pu.length=i->pv.length=i->∀w':World,
   ((forIn (m := Sem) (List.range' i m) ((none, ()) : Option Bool × Unit) (fun i _ => do
         if !(<-Op.equalIn (d+1) e (<-part e (pu++us).toArray (i*1)) (<-part e (pv++vs).toArray (i*1)))then pure (ForInStep.done (some false,()))
         else pure (ForInStep.yield (none,())))).run P w').andThen (fun r w'=>Sem.run P (match r.1 with
       | some x=>pure x
       | none=>pure true:Sem Bool) w')=.ok b w'
 | 0,i,xs,ys,us,vs,pu,pv,b,he,_,_,_,_,w'=>by cases xs <;> cases ys <;> simp[jC]at he;subst he;simp
 | m+1,i,xs,ys,us,vs,pu,pv,b,he,hx,hy,e1,e2,w'=>by
   rw[List.replicate_succ]at he;cases xs with
   | nil=>simp[jC]at he
   | cons x xs=>
     cases ys with
     | nil=>simp[jC]at he
     | cons y ys=>
       simp only[jC]at he;cases E:xY c x y with
       | none=>simp[E,PT]at he
       | some b1=>
         cases F:jC (List.replicate m c) xs ys with
         | none=>simp[E,F,PT]at he
         | some b2=>
           simp[E,F,PT]at he;simp only[bN]at hx hy;obtain⟨u,I,rfl,Z,U⟩:=hx;obtain⟨v,J,rfl,hv,X⟩:=hy;have O:=XF V hi;have Y:∀w':World,(part e (pu++u::I).toArray (i*1)).run P w'=.ok u w':=fun w'=>qT (w:=w') O (by rw[Nat.mul_one,<-e1];simp)
           have p2:∀w':World,(part e (pv++v::J).toArray (i*1)).run P w'=.ok v w':=fun w'=>qT (w:=w') O (by rw[Nat.mul_one,<-e2];simp)
           have q:=yU (d:=d) V E Z hv;have ih:=DT V hi (d:=d) m (i+1) xs ys I J (pu++[u]) (pv++[v]) b2 F U X (by simp[e1]) (by simp[e2]) w';simp only[List.append_assoc,List.singleton_append]at ih;simp only[List.range'_succ,List.forIn_cons,Sem.run_bind,Y,p2,q,Result.andThen_ok,Sem.run_ite,bind_assoc];subst he;cases b1
           . simp
           . simp only[Bool.not_true,Bool.false_eq_true,if_false,Bool.true_and,Sem.run_pure,Result.andThen_ok];exact ih
def FX{t:TypeId}{l:List Nat}(h:A1 P t=some l){xs I:List AV}{b:Bool}(Y:jC l xs I=some b){J vs:List Value}
  (X:bN S w xs J) (hy:bN S w I vs) (d:Nat) (w':World):(Op.equalIn (d+2) t (.agg J.toArray) (.agg vs.toArray)).run P w'=.ok b w':=by
 unfold A1 at h;split at h
 ·rename_i fs F;split at h
  ·rename_i O;have Z:P.fieldsOf t=fs:=by unfold Program.fieldsOf;rw[F]
   rw[run_equalIn_struct w' (d+1) t _ _ (by rw[Z];exact F) O.1,Z];simpa using wV fs.toList l xs I 0 J vs [] [] b d h Y X hy rfl rfl w'
  ·simp at h
 ·rename_i n e F;split at h
  ·rename_i O;cases U:wZ P e with
   | none=>simp[U]at h
   | some c=>
    simp[U]at h;subst h;cases hi:P.info? e with
    | none=>simp[hi]at O
    | some i=>
     have V:i.size=1:=by simpa[hi]using O.1
     have E:=DT (P:=P) (S:=S) (w:=w) U (by simp[hi]) (d:=d) n 0 xs I J vs [] [] b Y X hy rfl rfl w';simp only[List.nil_append]at E;rw[Op.equalIn];simp only[Sem.run_bind,run_underlying F,Result.andThen_ok,sizeOf,typeInfo,run_program,hi,Sem.run_pure,V];rw[Std.Legacy.Range.forIn_eq_forIn_range'];simp only[Std.Legacy.Range.size,Nat.sub_zero,Nat.add_one_sub_one,Nat.div_one];have e:∀(r:Result (Option Bool×Unit)) (f g:Option Bool×Unit->World->Result Bool),(∀a w,f a w=g a w)->r.andThen f=r.andThen g:=fun r f g h=>by cases r <;> simp[Result.andThen,h]
     exact(e _ _ _ (fun a w=>by rcases a with⟨a,_⟩;cases a <;> rfl)).trans E
  ·simp at h
 ·simp at h
def jG(op:BinOp)(t:TypeId)(x y:Operand)(a b:Value)(h1:a≠.nilIface)(E:∀cs,a≠.agg cs)(w':World):(eqGuard op t x y a b).run P w'=.ok () w':=by cases op <;> simp only[eqGuard] <;> (try rfl) <;> cases a <;> first|rfl|(exact absurd rfl h1)|(exact absurd rfl (E _))
def VB{t:TypeId}{l:List Nat}(h:A1 P t=some l):P.eqGuardType P.depth t=false:=by
 unfold A1 at h;split at h
 ·split at h
  ·rename_i E;exact E.2
  ·simp at h
 ·split at h
  ·rename_i E;exact E.2
  ·simp at h
 ·simp at h
def TZ{op:BinOp}{t:TypeId}{x y:AV}(h:iS P G op t x y K):
   ∃z,K z/\(gt G->∀u v,rep S w x u->rep S w y v->∀J O,As P S H w z (do eqGuard op t J O u v;binOp op t u v)):=by
 unfold iS at h;split at h
 . rename_i k a k' b;split at h
   . rename_i ac;refine⟨_,h.2,fun V u v E I J O=>?_⟩;have U:=h.1 V;simp only[rep]at E I;subst E I;refine jA nD fun w'=>?_
     simp only[Sem.run_bind,jG op t J O (.int k a) (.int k' b) (by simp) (by simp) w',Result.andThen_ok];have ab:¬b<0:=by omega
     cases op <;> simp only[A8,Bool.false_eq_true]at ac <;> simp[binOp,Op.shift,ab,shV]
   split at h
   . rename_i hk;subst hk;have F:∀(z:Value),(∀w',(binOp op t (.int k a) (.int k b)).run P w'=.ok z w')->∀u v,rep S w (.v (.int k a)) u->rep S w (.v (.int k b)) v->∀J O,As P S H w (.v z) (do eqGuard op t J O u v;binOp op t u v):=by
       intro z Y u v E I J O;simp only[rep]at E I;subst E I;refine jA nD fun w'=>?_
       simp only[Sem.run_bind,jG op t J O (.int k a) (.int k b) (by simp) (by simp) w',Result.andThen_ok,Y]
     cases op <;> simp only at h <;> first
       | exact h.elim
       | (refine ⟨_, h, fun _ => F _ (fun w' => ?_)⟩
          first
            | (simp[binOp,Op.intArith,Op.intCmp];done)
            | (simp[binOp];rfl))
       | exact⟨_,h.2,fun V=>F _ (fun w'=>by simp[binOp,Op.intDiv,h.1 V])⟩
   . exact h.elim
 . rename_i a b;have F:∀(z:Value),(∀w',(binOp op t (.string a) (.string b)).run P w'=.ok z w')->∀u v,rep S w (.v (.string a)) u->rep S w (.v (.string b)) v->∀J O,As P S H w (.v z) (do eqGuard op t J O u v;binOp op t u v):=by
     intro z Y u v E I J O;simp only[rep]at E I;subst E I;refine jA nD fun w'=>?_
     simp only[Sem.run_bind,jG op t J O (.string a) (.string b) (by simp) (by simp) w',Result.andThen_ok,Y]
   cases op <;> simp only at h <;> first
     | exact h.elim
     | exact⟨_,h,fun _=>F _ (fun w'=>by simp[binOp,Op.stringOp])⟩
     | exact ⟨_, h.2, fun V => F _ (fun w' => by
         have:=h.1 V;have h2:¬((a.size+b.size:Nat):Int)>IntKind.i64.max:=by omega
         simp only[binOp,Op.stringOp];rw[if_neg h2];rfl)⟩
 . rename_i a b;split at h
   . rename_i U;have X:=TN U;cases op <;> simp only at h <;> first
       | exact h.elim
       | (refine ⟨_, h, fun _ u v E I J O => ?_⟩
          simp only[rep]at E I;subst E I;refine jA nD fun w'=>?_
          simp only[Sem.run_bind,jG _ t J O (.bool a) (.bool b) (by simp) (by simp) w',Result.andThen_ok];simp[binOp,run_equal_bool w' t a b X])
   . exact h.elim
 . rename_i xs ys;split at h
   . rename_i l hl;split at h
     . rename_i b U;cases op <;> simp only at h <;> first
         | exact h.elim
         | (refine ⟨_, h, fun _ u v E I J O => ?_⟩
            simp only[rep]at E I;obtain⟨us,rfl,Z,_⟩:=E;obtain⟨vs,rfl,aa,_⟩:=I;refine jA nD fun w'=>?_
            have q:=FX hl U Z aa 9998 w';simp only[Sem.run_bind,run_eqGuard_agg _ _ _ _ _ _ _ (VB hl),Result.andThen_ok]
            first
              | (rw[run_eql_struct,q];rfl)
              | (rw[run_neq_struct,q];rfl))
     . exact h.elim
   . exact h.elim
 . skip
   split at h
   . rename_i b U;split at h
     . rename_i hp;obtain⟨e,X⟩:=YP hp;have hq:∀u,rep S w x u->∃a,u=.pointer a/\a.isNone=b:=by
         intro u E;unfold HK at U;split at U
         . simp only[rep]at E;exact⟨_,E,by simpa using U⟩
         . simp only[rep]at E;obtain⟨g,o,e,_⟩:=E;exact⟨_,e,by simpa using U⟩
         . simp only[rep]at E;obtain⟨_,g,n,c,_,e⟩:=E;exact⟨_,e,by simpa using U⟩
         . cases U
       have he:∀(a:Option Addr) w',(Op.equal t (.pointer a) (.pointer none)).run P w'=.ok a.isNone w':=by intro a w';have e0:Op.equal t (.pointer a) (.pointer none)=Op.equalIn (9999+1) t (.pointer a) (.pointer none):=rfl;rw[e0];unfold Op.equalIn;cases a <;> simp[run_underlying X]
       cases op <;> simp only at h <;> first
         | exact h.elim
         | (refine ⟨_, h, fun _ u v E I J O => ?_⟩
            obtain⟨a,rfl,rfl⟩:=hq u E;simp only[rep]at I;subst I;refine jA nD fun w'=>?_
            simp only[Sem.run_bind,jG _ t J O (.pointer a) (.pointer none) (by simp) (by simp) w',Result.andThen_ok];simp[binOp,he])
     . exact h.elim
   . exact⟨_,h.2,fun V=>(h.1 V).elim⟩
 . exact⟨_,h.2,fun V=>(h.1 V).elim⟩
end
end Go.Aw
end
