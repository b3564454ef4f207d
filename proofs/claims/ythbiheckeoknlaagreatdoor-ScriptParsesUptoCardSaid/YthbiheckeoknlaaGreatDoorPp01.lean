import Derived.StillTail
import Derived.WalkKit
import Derived.Deep.Quiet
import Derived.Deep.QuietTactic
import Derived.Maps.AppendAt
import Derived.Laws.BytesArg
set_option linter.unusedSimpArgs false
set_option linter.unusedVariables false
set_option linter.defProp false
set_option maxRecDepth 100000
section
namespace Go.Aw
open Go.RowKit
inductive AV where
 | v (x:Value)
 | any
 | sl (es:List (List AV))
 | rp (cs:List AV) (off:Nat)
 | agg (cs:List AV)
 | tup (vs:List AV)
 | os (k:Nat)
 | op (k i f:Nat)
 | gd (g:Bool) (x:AV)
 | fn (f:FuncId) (cap:List AV)
 | oz (k a b:Nat)
 | nf (x:AV)
 | om (k:Nat)
 | cl (es:List (List AV))
 deriving Inhabited
structure Row where
 e:TypeId
 sz:Nat
 es:List (List AV)
abbrev Env:=Nat→AV
abbrev aC:=Nat→Option Row
inductive Ex where
 | normal
 | exit (id:Nat)
 | ret
def upd(ρ:Env)(d:Option Nat)(x:AV):Env:=
 match d with
 | some d=>fun t=>if t=d then x else ρ t
 | none=>ρ
def bG(H:aC)(k:Nat)(r:Option Row):aC:=fun j=>if j=k then r else H j
theorem Sl(ρ:Env)(d:Nat)(x:AV)(t:Nat):upd ρ (some d) x t=if t=d then x else ρ t:=rfl
theorem O4(ρ:Env)(x:AV):upd ρ none x=ρ:=rfl
theorem aD(H:aC)(k:Nat)(r:Option Row):bG H k r k=r:=by simp[bG]
theorem aK(H:aC)(k:Nat)(r:Option Row)(j:Nat)(h:j≠k):bG H k r j=H j:=by simp[bG,h]
def ldT(P:Program)(t:TypeId):Option (Option Nat):=
 match P.underlying t,P.info? t with
 | some (.struct _),some i=>some (some i.size)
 | some (.array _ _),some i=>some (some i.size)
 | some _,some _=>some none
 | _,_=>none
def aT(P:Program)(t:TypeId)(f:Nat):Option (Nat×Option Nat):=
 match P.underlying t with
 | some (.struct fs)=>match fs[f]? with
   | some fd=>match P.info? fd.type with
     | some i=>if i.size=0 then none else(ldT P fd.type).map fun l=>(fd.offset,l)
     | none=>none
   | none=>none
 | _=>none
def cM(P:Program)(t:TypeId):Option (TypeId×Nat×Nat):=
 match P.underlying t with
 | some (.slice e)=>match P.info? e with
   | some i=>if i.size=0∨i.bytes=0∨i.zero.map (·.cells.size)≠some i.size then none else some (e,i.size,i.bytes)
   | none=>none
 | _=>none
def Af(P:Program)(t:TypeId):Option (Nat×Nat×Option Nat):=
 match P.underlying t with
 | some (.array n e)=>match P.info? e with
   | some i=>if i.size=0 then none else(ldT P e).map fun l=>(n,i.size,l)
   | none=>none
 | _=>none
def lU:Value→AV
 | .slice none 0 0=>.sl []
 | x=>.v x
def eC(P:Program)(t:TypeId):Option (List AV):=
 match P.info? t with
 | some i=>match i.zero with
   | some z=>if z.cells.size=i.size∧i.size≠0∧z.cells.toList.all (·.oneCell')=true then some (z.cells.toList.map lU)else none
   | none=>none
 | none=>none
def Fa(P:Program):Nat→TypeId→Nat→List (Nat×TypeId×Nat)
 | 0,_,_=>[]
 | n+1,t,o=>match P.underlying t with
   | some (.slice _)=>match cM P t with
     | some (e,sz,_)=>[(o,e,sz)]
     | none=>[]
   | some (.struct fs)=>fs.toList.flatMap fun f=>Fa P n f.type (o+f.offset)
   | some (.array m e)=>(List.range m).flatMap fun j=>Fa P n e (o+j*((P.info? e).map (·.size)).getD 0)
   | _=>[]
def OI:Option Value→Bool
 | some (.slice none 0 0)=>true
 | _=>false
def kT(P:Program)(t:TypeId):Option (List (Nat×TypeId×Nat)):=
 match P.info? t with
 | some i=>match i.zero with
   | some z=>if(Fa P 8 t 0).all (fun x=>OI z.cells.toList[x.1]?&&decide (0<x.2.2))=true then some (Fa P 8 t 0)else none
   | none=>none
 | none=>none
def eU(P:Program)(t:TypeId):Option (List (Nat×Nat)):=
 match P.underlying t with
 | some (.struct fs)=>fs.toList.mapM fun f=>(P.info? f.type).map fun i=>(f.offset,i.size)
 | some (.array n e)=>(P.info? e).map fun i=>(List.range n).map fun j=>(j*i.size,i.size)
 | _=>none
def dG(P:Program)(t:TypeId):Bool:=match P.underlying t with|some .string=>true|_=>false
def dY(P:Program)(t:TypeId):Bool:=match P.underlying t with|some (.slice _)=>true|_=>false
def vQ(P:Program)(t:TypeId):Bool:=match P.underlying t with|some .bool=>true|_=>false
def JV(P:Program)(t:TypeId):Bool:=match P.underlying t with|some (.pointer _)=>true|_=>false
def Lx(P:Program)(t:TypeId):Bool:=match P.underlying t with|some (.pointer e)=>(P.info? e).isSome|_=>false
def Jh:AV→Option Bool
 | .v (.pointer none)=>some true
 | .rp ..=>some false
 | .op ..=>some false
 | _=>none
def aev(ρ:Env):Operand→AV
 | .tmp t=>ρ t
 | .const v=>lU v
 | .global _=>.any
 | .func f=>.v (.func (.func f) #[] #[])
def Fg(ρ:Env):Operand→AV
 | .const v=>.v v
 | x=>aev ρ x
def gt:Option Bool→Prop
 | none=>True
 | some b=>b=true
def gok:Option Bool→Bool→Prop
 | none,g=>g=true
 | some b,g=>b=true→g=true
def wr:Option Bool→AV→AV
 | none,x=>x
 | some b,x=>.gd b x
def bJ(G:Option Bool)(x:AV)(k:AV→Prop):Prop:=
 match x with
 | .gd g y=>gok G g∧k y
 | x=>k x
def iP(x:AV)(K:List AV→Prop):Prop:=
 match x with
 | .agg cs=>K cs
 | .v y=>y.oneCell'=true∧K [.v y]
 | .sl es=>K [.sl es]
 | .rp cs o=>K [.rp cs o]
 | .os k=>K [.os k]
 | .op k i f=>K [.op k i f]
 | .oz k a b=>K [.oz k a b]
 | .om k=>K [.om k]
 | _=>False
def mG(P:Program)(t:TypeId):Option Nat:=match P.underlying t with|some (.int _)=>some 0|some .string=>some 1|some .bool=>some 2|_=>none
def kA(c:Nat)(x y:AV):Option Bool:=
 match c,x,y with
 | 0,.v (.int k a),.v (.int k' b)=>if k=k' then some (a == b)else none
 | 1,.v (.string a),.v (.string b)=>some (a.toList == b.toList)
 | 2,.v (.bool a),.v (.bool b)=>some (a == b)
 | _,_,_=>none
def rW:Option Bool→Option Bool→Option Bool
 | some a,some b=>some (a&&b)
 | _,_=>none
def cZ:List Nat→List AV→List AV→Option Bool
 | [],[],[]=>some true
 | c::l,x::r,y::s=>rW (kA c x y) (cZ l r s)
 | _,_,_=>none
def iE(P:Program):Nat→List Field→Option (List Nat)
 | _,[]=>some []
 | o,f::r=>if f.name != "_" && f.offset == o&&(P.info? f.type).isSome then match mG P f.type,iE P (o+1) r with
   | some c,some l=>some (c::l)
   | _,_=>none
   else none
def pI(P:Program)(t:TypeId):Option (List Nat):=
 match P.underlying t with
 | some (.struct fs)=>if P.stoodInHeld t=false∧P.eqGuardType P.depth t=false then iE P 0 fs.toList else none
 | some (.array n e)=>if(P.info? e).map (·.size)=some 1∧P.eqGuardType P.depth t=false then(mG P e).map (List.replicate n)else none
 | _=>none
def vH:BinOp→Bool
 | .shl=>true
 | .shr=>true
 | _=>false
def shV(op:BinOp)(k:IntKind)(a b:Int):Int:=match op with
 | .shl=>k.wrap (a*2^min b.toNat k.bits)
 | _=>a.fdiv (2^min b.toNat k.bits)
def Pz(op:BinOp)(k:IntKind)(a b:Int):Int:=match op with
 | .and=>k.wrap ((BitVec.ofInt k.bits a &&& BitVec.ofInt k.bits b).toNat:Nat)
 | .or=>k.wrap ((BitVec.ofInt k.bits a ||| BitVec.ofInt k.bits b).toNat:Nat)
 | .xor=>k.wrap ((BitVec.ofInt k.bits a ^^^ BitVec.ofInt k.bits b).toNat:Nat)
 | _=>k.wrap ((BitVec.ofInt k.bits a &&& ~~~(BitVec.ofInt k.bits b)).toNat:Nat)
def gQ(P:Program)(G:Option Bool)(op:BinOp)(t:TypeId)(x y:AV)(K:AV→Prop):Prop:=
 match x,y with
 | .v (.int k a),.v (.int k' b)=>
   if vH op=true then(gt G→0≤b)∧K (.v (.int k (shV op k a b)))
   else if k=k' then
     match op with
     | .and=>K (.v (.int k (Pz .and k a b)))
     | .or=>K (.v (.int k (Pz .or k a b)))
     | .xor=>K (.v (.int k (Pz .xor k a b)))
     | .andNot=>K (.v (.int k (Pz .andNot k a b)))
     | .add=>K (.v (.int k (k.wrap (a+b))))
     | .sub=>K (.v (.int k (k.wrap (a-b))))
     | .mul=>K (.v (.int k (k.wrap (a*b))))
     | .quo=>(gt G→b≠0)∧K (.v (.int k (k.wrap (a.tdiv b))))
     | .rem=>(gt G→b≠0)∧K (.v (.int k (a.tmod b)))
     | .eql=>K (.v (.bool (a == b)))
     | .neq=>K (.v (.bool (a != b)))
     | .lss=>K (.v (.bool (decide (a<b))))
     | .leq=>K (.v (.bool (decide (a≤b))))
     | .gtr=>K (.v (.bool (decide (a>b))))
     | .geq=>K (.v (.bool (decide (a≥b))))
     | _=>False
   else False
 | .v (.string a),.v (.string b)=>
   match op with
   | .add=>(gt G→((a.size+b.size:Nat):Int)≤IntKind.i64.max)∧K (.v (.string (a++b)))
   | .eql=>K (.v (.bool (a.toList == b.toList)))
   | .neq=>K (.v (.bool !(a.toList == b.toList)))
   | .lss=>K (.v (.bool (Op.bytesLess a.toList b.toList)))
   | _=>False
 | .v (.bool a),.v (.bool b)=>
   if vQ P t then
     match op with
     | .eql=>K (.v (.bool (a == b)))
     | .neq=>K (.v (.bool !(a == b)))
     | _=>False
   else False
 | .agg xs,.agg ys=>match pI P t with
   | some l=>match cZ l xs ys with
     | some b=>match op with
       | .eql=>K (.v (.bool b))
       | .neq=>K (.v (.bool !b))
       | _=>False
     | none=>False
   | none=>False
 | .op a b c, .op a' b' c' => if a = a' ∧ b = b' ∧ c = c' ∧ Lx P t = true then
     match op with
     | .eql=>K (.v (.bool true))
     | .neq=>K (.v (.bool false))
     | _=>False
   else(gt G→False)∧K .any
 | x,.v (.pointer none)=>match Jh x with
   | some b => if JV P t then
       match op with
       | .eql=>K (.v (.bool b))
       | .neq=>K (.v (.bool !b))
       | _=>False
     else False
   | none=>(gt G→False)∧K .any
 | _,_=>(gt G→False)∧K .any
def FS(P:Program)(t:TypeId):Option (TypeId×TypeId):=match P.underlying t with|some (.map k e)=>some (k,e)|_=>none
def Bq(P:Program)(t:TypeId):Option AV:=
 match P.info? t with
 | some i=>match i.zero with
   | some (.agg cs)=>if cs.toList.all (·.oneCell')=true then some (.agg (cs.toList.map lU))else none
   | some v=>if v.oneCell'=true then some (lU v)else none
   | none=>none
 | none=>none
def jO(P:Program)(kt:TypeId)(x y:AV):Option Bool:=
 match x,y with
 | .v a,.v b=>match mG P kt with
   | some c=>kA c (.v a) (.v b)
   | none=>none
 | .agg xs,.agg ys=>match pI P kt with
   | some l=>cZ l xs ys
   | none=>none
 | _,_=>none
def xP(P:Program)(t:TypeId):Bool:=match P.underlying t with|some (.struct _)=>true|_=>false
def kM(P:Program)(kt:TypeId):AV→Bool
 | .v (.int _ _)=>mG P kt == some 0
 | .v (.string _)=>mG P kt == some 1
 | .v (.bool _)=>mG P kt == some 2
 | .agg xs=>xP P kt&&match pI P kt with|some l=>cZ l xs xs == some true|none=>false
 | _=>false
def mN(eq:AV→Option Bool):List (List AV)→Nat→Option (Option Nat)
 | [],_=>some none
 | e::r,i=>match eq (e.getD 0 .any)with
   | some true=>some (some i)
   | some false=>mN eq r (i+1)
   | none=>none
def BB(ok:Bool)(z:AV)(es:List (List AV))(oi:Option Nat):AV:=
 match oi with
 | some i=>if ok=true then .tup [(es.getD i []).getD 1 .any,.v (.bool true)]else(es.getD i []).getD 1 .any
 | none=>if ok=true then .tup [z,.v (.bool false)]else z
def Np(es:List (List AV))(oi:Option Nat)(k v:AV):List (List AV):=
 match oi with
 | some i=>es.set i [k,v]
 | none=>es++[[k,v]]
def zH(P:Program)(H:aC)(t:TypeId)(x key:AV)(K:Nat→Row→TypeId×TypeId→Option Nat→Prop):Prop:=
 match x with
 | .om j=>match H j,FS P t with
   | some r,some kt=>match mN (jO P kt.1 key) r.es 0 with
     | some oi=>kM P kt.1 key=true∧K j r kt oi
     | none=>False
   | _,_=>False
 | _=>False
def oH(P:Program)(H:aC)(t:TypeId)(x key:AV)(ok:Bool)(K:AV→Prop):Prop:=
 zH P H t x key fun _ r kt oi=>match Bq P kt.2 with
   | some z=>K (BB ok z r.es oi)
   | none=>False
def rO(c:Bool):AV→AV→AV
 | .v (.bool true),.v (.bool b)=>.v (.bool (c||b))
 | .v (.bool a),.v (.bool false)=>.v (.bool (c&&a))
 | .v (.bool a),.v (.bool b)=>.v (.bool (bif c then a else b))
 | x,y=>bif c then x else y
def uP(G:Option Bool)(c:Bool)(x y:AV)(K:AV→Prop):Prop:=
 match x,y with
 | .gd g x,.gd g' y=>(gt G→c=true→g=true)∧(gt G→c=false→g'=true)∧K (rO c x y)
 | .gd g x,y=>(gt G→c=true→g=true)∧K (rO c x y)
 | x,.gd g' y=>(gt G→c=false→g'=true)∧K (rO c x y)
 | x,y=>K (rO c x y)
def kE(G:Option Bool)(H:aC)(l:Option Nat)(x:AV)(K:AV→Prop):Prop:=
 match x with
 | .rp cs off=>match l with
   | none=>(gt G→off<cs.length)∧K (cs.getD off .any)
   | some n=>(gt G→off+n≤cs.length)∧K (.agg ((cs.drop off).take n))
 | .op k i f=>match H k with
   | some r=>match l with
     | none=>(gt G→i<r.es.length∧f<r.sz)∧K ((r.es.getD i []).getD f .any)
     | some n=>(gt G→i<r.es.length∧f+n≤r.sz)∧K (.agg (((r.es.getD i []).drop f).take n))
   | none=>False
 | _=>False
def apart(G:Option Bool)(off:Nat)(l:Option Nat)(x:AV)(K:AV→Prop):Prop:=
 match x with
 | .agg cs=>match l with
   | none=>(gt G→off<cs.length)∧K (cs.getD off .any)
   | some n=>(gt G→off+n≤cs.length)∧K (.agg ((cs.drop off).take n))
 | _=>False
def Au(P:Program)(H:aC)(t:TypeId)(x:AV)(K:AV→Prop):Prop:=
 match x with
 | .sl es=>if dY P t then K (.v (.int .i64 es.length))else False
 | .os k=>match H k with
   | some r=>if dY P t then K (.v (.int .i64 r.es.length))else False
   | none=>False
 | .oz _ a b=>if dY P t then K (.v (.int .i64 (b-a:Nat)))else False
 | .v (.string s)=>if dG P t then K (.v (.int .i64 s.size))else False
 | _=>False
def Sj(a b:Int):Int:=if b>a then b else a
def R0(a b:Int):Int:=if b<a then b else a
def JE(x y:AV)(K:AV→Prop):Prop:=
 match x,y with
 | .v (.int k a),.v (.int _ b)=>K (.v (.int k (Sj a b)))
 | _,_=>False
def J5(x y:AV)(K:AV→Prop):Prop:=
 match x,y with
 | .v (.int k a),.v (.int _ b)=>K (.v (.int k (R0 a b)))
 | _,_=>False
def eW(P:Program)(G:Option Bool)(H:aC)(t:TypeId)(x i:AV)(K:AV→Prop):Prop:=
 match x,i with
 | .sl es,.v (.int _ n)=>match cM P t with
   | some (_,sz,_)=>(gt G→(0≤n∧n<es.length)∧(es.getD n.toNat []).length=sz)∧K (.rp (es.getD n.toNat []) 0)
   | none=>False
 | .os k,.v (.int _ n)=>match H k,cM P t with
   | some r,some (_,sz,_)=>(gt G→(0≤n∧n<r.es.length)∧r.sz=sz)∧K (.op k n.toNat 0)
   | _,_=>False
 | .oz k a b,.v (.int _ n)=>match H k,cM P t with
   | some r,some (_,sz,_)=>(gt G→(0≤n∧n<(b-a:Nat))∧r.sz=sz)∧K (.op k (a+n.toNat) 0)
   | _,_=>False
 | .rp cs off,.v (.int _ n)=>match Af P t with
   | some (m,s,_)=>(gt G→0≤n∧n<m)∧K (.rp cs (off+n.toNat*s))
   | none=>False
 | .op k j f,.v (.int _ n)=>match Af P t with
   | some (m,s,_)=>(gt G→0≤n∧n<m)∧K (.op k j (f+n.toNat*s))
   | none=>False
 | _,_=>False
def gN(P:Program)(t:TypeId)(f:Nat)(x:AV)(K:AV→Prop):Prop:=
 match x with
 | .rp cs off=>match aT P t f with
   | some (o,_)=>K (.rp cs (off+o))
   | none=>False
 | .op k i g=>match aT P t f with
   | some (o,_)=>K (.op k i (g+o))
   | none=>False
 | _=>False
def mO(places:List (Nat×Nat)):List AV→List (Nat×List AV)→Option (List AV)
 | cs,[]=>some cs
 | cs,(i,x)::rest=>match places[i]? with
   | some (off,n)=>if x.length=n∧off+n≤cs.length then mO places (cs.take off++x++cs.drop (off+n)) rest else none
   | none=>none
def lG(G:Option Bool)(ρ:Env):List (Nat×Operand)→(List (Nat×List AV)→Prop)→Prop
 | [],K=>K []
 | (i,x)::rest,K=>bJ G (aev ρ x) fun y=>iP y fun cs=>lG G ρ rest fun l=>K ((i,cs)::l)
def uN(G:Option Bool)(ρ:Env):List Operand→(List AV→Prop)→Prop
 | [],K=>K []
 | x::rest,K=>bJ G (aev ρ x) fun y=>uN G ρ rest fun l=>K (y::l)
def pX(P:Program)(t:TypeId)(parts:List (Nat×List AV))(K:AV→Prop):Prop:=
 match eC P t,eU P t with
 | some z,some pl=>match mO pl z parts with
   | some cs=>K (.agg cs)
   | none=>False
 | _,_=>False
def EG:Nat→Nat→List Nat
 | _,0=>[]
 | i,n+1=>i::EG (i+1) n
def dF(n:Nat):List (List AV)→Prop
 | []=>True
 | cs::r=>cs.length=n∧dF n r
def jP(P:Program)(G:Option Bool)(t:TypeId)(x:AV)(lo hi:Option AV)(K:AV→Prop):Prop:=
 match x,lo,hi with
 | .sl es,some (.v (.int _ a)),some (.v (.int _ b))=>match cM P t with
   | some (_,sz,_)=>(gt G→(0≤a∧a≤b∧b≤es.length)∧dF sz es)∧K (.sl ((es.take b.toNat).drop a.toNat))
   | none=>False
 | .sl es,some (.v (.int _ a)),none=>match cM P t with
   | some (_,sz,_)=>(gt G→(0≤a∧a≤es.length)∧dF sz es)∧K (.sl (es.drop a.toNat))
   | none=>False
 | .sl es,none,some (.v (.int _ b))=>match cM P t with
   | some _=>(gt G→0≤b∧b≤es.length)∧K (.sl (es.take b.toNat))
   | none=>False
 | .v (.string s),some (.v (.int _ a)),some (.v (.int _ b))=>
   if dG P t then(gt G→0≤a∧a≤b∧b≤s.size)∧K (.v (.string (s.extract a.toNat b.toNat)))else False
 | .v (.string s),some (.v (.int _ a)),none=>
   if dG P t then(gt G→0≤a∧a≤s.size)∧K (.v (.string (s.extract a.toNat s.size)))else False
 | .v (.string s),none,some (.v (.int _ b))=>
   if dG P t then(gt G→0≤b∧b≤s.size)∧K (.v (.string (s.extract 0 b.toNat)))else False
 | _,_,_=>False
def asl(P:Program)(G:Option Bool)(H:aC)(t:TypeId)(x:AV)(lo hi:Option AV)(K:AV→Prop):Prop:=
 match x with
 | .os k=>match H k,cM P t with
   | some r,some (_,sz,_)=>match lo,hi with
     | some (.v (.int _ a)),some (.v (.int _ b))=>(gt G→(0≤a∧a≤b∧b≤r.es.length)∧r.sz=sz)∧K (.oz k a.toNat b.toNat)
     | some (.v (.int _ a)),none=>(gt G→(0≤a∧a≤r.es.length)∧r.sz=sz)∧K (.oz k a.toNat r.es.length)
     | none,some (.v (.int _ b))=>(gt G→(0≤b∧b≤r.es.length)∧r.sz=sz)∧K (.oz k 0 b.toNat)
     | _,_=>False
   | _,_=>False
 | .oz k a b=>match H k,cM P t with
   | some r,some (_,sz,_)=>match lo,hi with
     | some (.v (.int _ l)),none=>(gt G→(0≤l∧l≤(b-a:Nat))∧r.sz=sz)∧K (.oz k (a+l.toNat) b)
     | _,_=>False
   | _,_=>False
 | x=>jP P G t x lo hi K
def Dj(P:Program)(G:Option Bool)(t:TypeId)(x a b:AV)(K:AV→Prop):Prop:=
 match x,a,b with
 | .sl es,.v (.int _ a),.v (.int _ b)=>match cM P t with
   | some _=>(gt G→a=es.length∧b=es.length)∧K (.cl es)
   | none=>False
 | _,_,_=>False
def xJ(P:Program)(G:Option Bool)(H:aC)(t:TypeId)(x a b m:AV)(K:AV→Prop):Prop:=
 match x,a,b,m with
 | .os k,.v (.int _ a),.v (.int _ b),.v (.int _ m)=>match H k,cM P t with
   | some r,some (_,sz,_)=>(gt G→(a=0∧0≤b∧b≤m∧m≤r.es.length)∧r.sz=sz)∧K (.oz k 0 b.toNat)
   | _,_=>False
 | _,_,_,_=>False
def uU(P:Program)(G:Option Bool)(t:TypeId)(x i:AV)(K:AV→Prop):Prop:=
 match x,i with
 | .v (.string s),.v (.int _ n)=>
   if dG P t then(gt G→0≤n∧n<s.size)∧K (.v (.int .u8 ((s.data.getD n.toNat 0).toNat:Int)))else False
 | .agg cs,.v (.int _ n)=>match Af P t with
   | some (m,s,l)=>(gt G→0≤n∧n<m)∧apart G (n.toNat*s) l (.agg cs) K
   | none=>False
 | _,_=>False
def aun(op:UnOp)(x:AV)(K:AV→Prop):Prop:=
 match op,x with
 | .not,.v (.bool b)=>K (.v (.bool !b))
 | .neg,.v (.int k n)=>K (.v (.int k (k.wrap (0-n))))
 | _,_=>False
def mK:List (List AV)→Option (List Int)
 | []=>some []
 | [.v (.int .u8 n)]::r=>(mK r).map (n::·)
 | _=>none
def xM(P:Program)(t:TypeId):Bool:=
 match P.underlying t with
 | some (.slice e)=>match P.underlying e with
   | some (.int .u8)=>true
   | _=>false
 | _=>false
def yN(P:Program)(t:TypeId):Option IntKind:=match P.underlying t with|some (.int k)=>some k|_=>none
def rN(P:Program)(src dst:TypeId)(x:AV)(K:AV→Prop):Prop:=
 match x with
 | .v (.int _ n)=>match yN P dst,yN P src with
   | some k,some _=>K (.v (.int k (k.wrap n)))
   | none,some _=>dG P dst=true∧(0≤n∧n<128)∧K (.v (.string (strOfNums [n])))
   | _,_=>False
 | .v (.string s)=>if dG P src∧dG P dst then K (.v (.string s))else False
 | .sl es => if xM P src ∧ dG P dst then
     match mK es with
     | some ns=>K (.v (.string (strOfNums ns)))
     | none=>False
   else False
 | _=>False
def Ll:Operand→Bool
 | .const .nilIface=>true
 | _=>false
def uE(P:Program)(t:TypeId):Bool:=match P.underlying t with|some (.interface _)=>true|_=>false
def sK(P:Program)(t:TypeId)(op:BinOp)(x:AV)(K:AV→Prop):Prop:=
 match op,x with
 | .eql,.v .nilIface=>uE P t=true∧K (.v (.bool true))
 | .neq,.v .nilIface=>uE P t=true∧K (.v (.bool false))
 | .neq,.v (.iface _ _)=>uE P t=true∧K (.v (.bool true))
 | _,_=>False
def nS:Operand→Bool
 | .const (.slice none 0 0)=>true
 | _=>false
def BN(H:aC)(j:Nat):Prop:=∀r,H j=some r→r.es=[]
def mM(H:aC)(op:BinOp)(x:AV)(K:AV→Prop):Prop:=
 match op,x with
 | .eql,.sl es=>(es=[]→K (.v (.bool true)))∧K (.v (.bool false))
 | .neq,.sl es=>(es=[]→K (.v (.bool false)))∧K (.v (.bool true))
 | .eql,.os j=>(BN H j→K (.v (.bool true)))∧K (.v (.bool false))
 | .neq,.os j=>(BN H j→K (.v (.bool false)))∧K (.v (.bool true))
 | .eql,.v (.slice none 0 0)=>K (.v (.bool true))
 | .neq,.v (.slice none 0 0)=>K (.v (.bool false))
 | _,_=>False
def tW(P:Program)(t:TypeId):Bool:=match P.underlying t with
 | some (.interface _)=>false
 | some _=>true
 | none=>false
def xQ(P:Program)(t:TypeId)(x:AV)(K:AV→Prop):Prop:=
 match x with
 | .v a=>tW P t=true∧K (.v (.iface t a))
 | _=>False
def tU(P:Program)(t:TypeId)(x:AV)(K:AV→Prop):Prop:=
 match x with
 | .v (.iface d a)=>tW P t=true∧if d=t then K (.tup [.v a,.v (.bool true)])else ∃z,Bq P t=some z∧K (.tup [z,.v (.bool false)])
 | _=>False
def fO(P:Program)(G:Option Bool)(ρ:Env)(H:aC)(op:Op)(K:AV→Prop):Prop:=
 match op with
 | .move x| .assign x=>bJ G (aev ρ x) K
 | .pick c a b=>bJ G (aev ρ c) fun
   | .v (.bool c)=>uP G c (aev ρ a) (aev ρ b) K
   | .any=>(gt G→False)∧∃b:Bool,K (.v (.bool b))
   | _=>False
 | .build t parts=>lG G ρ parts.toList fun l=>pX P t l K
 | .load t a=>match ldT P t with
   | some l=>bJ G (aev ρ a) fun a=>kE G H l a K
   | none=>False
 | .nilCheck x=>bJ G (aev ρ x) fun
   | .rp cs off=>K (.rp cs off)
   | .op k i f=>K (.op k i f)
   | .v (.pointer none)=>(gt G→False)∧∃cs off,K (.rp cs off)
   | _=>False
 | .binOp op t x y _=>if nS y=true then bJ G (aev ρ x) fun x=>dY P t=true∧mM H op x K else if Ll y=true then bJ G (aev ρ x) fun x=>sK P t op x K else bJ G (aev ρ x) fun x=>bJ G (aev ρ y) fun y=>gQ P G op t x y K
 | .unOp op _ x=>bJ G (aev ρ x) fun x=>aun op x K
 | .convert src dst x=>bJ G (aev ρ x) fun x=>rN P src dst x K
 | .slice t x lo hi none=>bJ G (aev ρ x) fun x=>match lo,hi with
   | some lo,some hi=>bJ G (aev ρ lo) fun lo=>bJ G (aev ρ hi) fun hi=>asl P G H t x (some lo) (some hi) K
   | some lo,none=>bJ G (aev ρ lo) fun lo=>asl P G H t x (some lo) none K
   | none,some hi=>bJ G (aev ρ hi) fun hi=>asl P G H t x none (some hi) K
   | none,none=>False
 | .slice t x none (some hi) (some m)=>bJ G (aev ρ x) fun x=>bJ G (aev ρ hi) fun hi=>bJ G (aev ρ m) fun m=>Dj P G t x hi m K
 | .slice t x (some lo) (some hi) (some m)=>bJ G (aev ρ x) fun x=>bJ G (aev ρ lo) fun lo=>bJ G (aev ρ hi) fun hi=>bJ G (aev ρ m) fun m=>xJ P G H t x lo hi m K
 | .fieldAddr t x f=>bJ G (aev ρ x) fun x=>gN P t f x K
 | .field t x f=>match aT P t f with
   | some (o,l)=>bJ G (aev ρ x) fun x=>apart G o l x K
   | none=>False
 | .indexAddr t x i=>bJ G (aev ρ x) fun x=>bJ G (aev ρ i) fun i=>eW P G H t x i K
 | .index t x i=>bJ G (aev ρ x) fun x=>bJ G (aev ρ i) fun i=>uU P G t x i K
 | .extract x i=>bJ G (aev ρ x) fun
   | .tup vs=>(gt G→i<vs.length)∧K (vs.getD i .any)
   | _=>False
 | .lookup t x i ok=>bJ G (aev ρ x) fun x=>bJ G (aev ρ i) fun i=>oH P H t x i ok K
 | .makeFunc f first cap=>match f with
   | .func f=>first=#[]∧uN G ρ cap.toList fun l=>K (.fn f l)
   | _=>False
 | .makeInterface t x=>bJ G (aev ρ x) fun x=>xQ P t x K
 | .typeAssert x _ t true=>bJ G (aev ρ x) fun x=>tU P t x K
 | _=>False
def bZ(ops:Array Oper)(ρ:Env)(g:Option (Nat×Bool))(K:Option Bool→Prop):Prop:=
 match g with
 | none=>K none
 | some (j,want)=>match (ops[j]?).bind (·.dst)with
   | some t=>match ρ t with
     | .v (.bool b)=>K (some (b == want))
     | .gd g (.v (.bool b))=>K (some (g&&(b == want)))
     | .gd false _=>K (some false)
     | _=>False
   | none=>False
def mP(mt:Nat→Bool):Option Nat→Bool
 | some d=>mt d
 | none=>false
def kQ(H:aC)(r:Row)(K:Nat→aC→Prop):Prop:=∀k,H k=none→K k (bG H k (some r))
def oO(cs:List AV)(f:Nat)(xs:List AV):List AV:=cs.take f++xs++cs.drop (f+xs.length)
def iF:List (Nat×TypeId×Nat)→List AV→aC→(List AV→aC→Prop)→Prop
 | [],cs,H,K=>K cs H
 | x::r,cs,H,K=>kQ H ⟨x.2.1,x.2.2,[]⟩ fun k H'=>iF r (cs.set x.1 (.os k)) H' K
def wM(P:Program)(mt:Nat→Bool)(quiet:Bool)(G:Option Bool)(o:Oper)(x:Operand)(ρ:Env)(H:aC)(K:Env→aC→Prop):Prop:=
 if mP mt o.dst=true∧G=none∧quiet=false∧nS x=true then
   match cM P o.type with
   | some (e,sz,_)=>kQ H ⟨e,sz,[]⟩ fun k H'=>K (upd ρ o.dst (.os k)) H'
   | none=>False
 else bJ G (aev ρ x) fun y=>K (upd ρ o.dst (wr G y)) H
def Q8(mt:Nat→Bool)(o:Oper)(t:TypeId)(cs:List AV)(ρ:Env)(H:aC)(K:Env→aC→Prop):Prop:=
 if mP mt o.dst=true then
   0<cs.length∧kQ H ⟨t,cs.length,[cs]⟩ fun k H'=>K (upd ρ o.dst (.op k 0 0)) H'
 else K (upd ρ o.dst (.rp cs 0)) H
def kG(P:Program)(mt:Nat→Bool)(G:Option Bool)(o:Oper)(t:TypeId)(n:Nat)(parts:List (Nat×List AV))(ρ:Env)(H:aC)(K:Env→aC→Prop):Prop:=
 match cM P t with
 | some (e,sz,_)=>
   (parts.map (·.1)=EG 0 n∧dF sz (parts.map (·.2))∧n*sz≤16777216) ∧
   (if mP mt o.dst=true∧G=none then kQ H ⟨e,sz,parts.map (·.2)⟩ fun k H'=>K (upd ρ o.dst (.os k)) H'
    else K (upd ρ o.dst (wr G (.sl (parts.map (·.2))))) H)
 | none=>False
def tA(P:Program)(o:Oper)(t:TypeId)(a:AV)(cs:List AV)(ρ:Env)(H:aC)(K:Env→aC→Prop):Prop:=
 match a with
 | .op k i f=>match H k,ldT P t with
   | some r, some l => (i < r.es.length ∧ cs.length = l.getD 1 ∧ f + cs.length ≤ r.sz ∧ (l = none → ∃ i, P.info? t = some i ∧ i.size = 1)) ∧
       K (upd ρ o.dst .any) (bG H k (some { r with es:=r.es.set i (oO (r.es.getD i []) f cs) }))
   | _,_=>False
 | _=>False
def oB(P:Program)(o:Oper)(t:TypeId)(a:AV)(cs:List AV)(ρ:Env)(H:aC)(K:Env→aC→Prop):Prop:=
 tA P o t a cs ρ H K∨((ldT P t).isSome=true∧∃nl:List (Nat×TypeId×Nat),(∀x∈nl,cs[x.1]?=some (.v (.slice none 0 0))∧0<x.2.2)∧iF nl cs H fun cs H=>tA P o t a cs ρ H K)
def tM(x:Operand)(ρ:Env)(d:Option Nat)(H:aC)(K:Env→aC→Prop):Prop:=
 match x with
 | .tmp t=>match ρ t with
   | .os j=>match H j with
     | some r=>∀Hr:aC,Hr j=none→(∀k,k≠j→Hr k=H k)→K (upd (upd ρ (some t) (.sl r.es)) d (.sl r.es)) Hr
     | none=>False
   | _=>False
 | _=>False
theorem Ee{t j:Nat}{r:Row}{ρ:Env}{d:Option Nat}{H:aC}{K:Env→aC→Prop}(hj:ρ t=.os j)(hr:H j=some r)(h:∀Hr:aC,Hr j=none→(∀k,k≠j→Hr k=H k)→K (upd (upd ρ (some t) (.sl r.es)) d (.sl r.es)) Hr):tM (.tmp t) ρ d H K:=by unfold tM;simp only[hj,hr];exact h
def CK(l:List Nat)(H:aC):List AV→List AV→Prop
 | [],[]=>True
 | x::xs,y::ys=>(x=y∨∃j r,j∈l∧x=.os j∧H j=some r∧y=.sl r.es)∧CK l H xs ys
 | _,_=>False
def Dz(x:AV)(ρ:Env)(d:Option Nat)(H:aC)(K:Env→aC→Prop):Prop:=
 match x with
 | .agg cs=>∃(l:List Nat) (ys:List AV),CK l H cs ys∧∀Hr:aC,(∀k,k∈l→Hr k=none)→(∀k,¬k∈l→Hr k=H k)→K (upd ρ d (.agg ys)) Hr
 | _=>False
def qJ(H:aC)(x:AV)(K:List (List AV)→Prop):Prop:=
 match x with
 | .sl es=>K es
 | .os k=>match H k with
   | some r=>K r.es
   | none=>False
 | .oz k a b=>match H k with
   | some r=>K ((r.es.take b).drop a)
   | none=>False
 | _=>False
def QB(H:aC)(x:AV)(K:Nat→Nat→Nat→Row→Prop):Prop:=
 match x with
 | .os k=>match H k with
   | some r=>K k 0 r.es.length r
   | none=>False
 | .oz k a b=>match H k with
   | some r=>K k a (b-a) r
   | none=>False
 | _=>False
def Oe(P:Program)(o:Oper)(t:TypeId)(x y:AV)(ρ:Env)(H:aC)(K:Env→aC→Prop):Prop:=
 QB H x fun k a n r=>qJ H y fun news=>match cM P t with
   | some (_,sz,_)=>(r.sz=sz∧dF sz news)∧K (upd ρ o.dst (.v (.int .i64 (min news.length n:Nat)))) (bG H k (some { r with es:=r.es.take a++news.take (min news.length n)++r.es.drop (a+min news.length n) }))
   | none=>False
def Kl(P:Program)(o:Oper)(t:TypeId)(x:AV)(ρ:Env)(H:aC)(K:Env→aC→Prop):Prop:=
 QB H x fun k a n r=>match cM P t with
   | some (e,sz,_)=>match eC P e with
     | some zs=>r.sz=sz∧K (upd ρ o.dst .any) (bG H k (some { r with es:=r.es.take a++List.replicate n zs++r.es.drop (a+n) }))
     | none=>False
   | none=>False
def qK(P:Program)(o:Oper)(t:TypeId)(s x:AV)(ρ:Env)(H:aC)(K:Env→aC→Prop):Prop:=
 match s,cM P t with
 | .os k,some (e,sz,bytes)=>match H k with
   | some r => qJ H x fun news =>
       (r.e=e∧r.sz=sz∧dF sz news∧(r.es.length+news.length)*bytes≤140737488355328) ∧
       ∀k',H k'=none→K (upd ρ o.dst (.os k')) (bG (bG H k none) k' (some ⟨e,sz,r.es++news⟩))
   | none=>False
 | .cl es, some (e, sz, bytes) => qJ H x fun news =>
     (news≠[]∧dF sz es∧dF sz news∧(es.length+news.length)*bytes≤140737488355328) ∧
     ∀k',H k'=none→K (upd ρ o.dst (.os k')) (bG H k' (some ⟨e,sz,es++news⟩))
 | .oz k a b,some (e,sz,bytes)=>match H k with
   | some r => qJ H x fun news =>
       (r.e=e∧r.sz=sz∧news≠[]∧dF sz news∧b=r.es.length∧(r.es.length+news.length)*bytes≤140737488355328) ∧
       ∀(k':Nat) (pre:List (List AV)),pre.length≤a→H k'=none→K (upd ρ o.dst (.oz k' pre.length (pre.length+(b-a)+news.length))) (bG (bG H k none) k' (some ⟨e,sz,pre++(r.es.drop a++news)⟩))
   | none=>False
 | .v (.slice none 0 0), some (e, sz, bytes) => qJ H x fun news =>
     (news=[]∧K (upd ρ o.dst (.v (.slice none 0 0))) H) ∨
     (news≠[]∧dF sz ([]:List (List AV))∧dF sz news∧(([]:List (List AV)).length+news.length)*bytes≤140737488355328) ∧
     ∀k',H k'=none→K (upd ρ o.dst (.os k')) (bG H k' (some ⟨e,sz,[]++news⟩))
 | .sl es,some _=>qJ H x fun news=>news=[]∧K (upd ρ o.dst (.sl es)) H
 | _,_=>False
def Ly(P:Program)(e:TypeId):Bool:=match P.info? e with
 | some i=>match i.zero with
   | some (.int .u8 0)=>i.size == 1&&i.bytes == 1
   | _=>false
 | none=>false
def HO(s:ByteArray):List (List AV):=s.data.toList.map fun b=>[AV.v (.int .u8 b.toNat)]
def tD(P:Program)(o:Oper)(t t':TypeId)(s x:AV)(ρ:Env)(H:aC)(K:Env→aC→Prop):Prop:=
 match s,x,cM P t with
 | .os k,.v (.string b),some (e,_)=>match H k with
   | some r => (r.e = e ∧ r.sz = 1 ∧ (Ly P e && dG P t') = true ∧ r.es.length + b.size ≤ 140737488355328) ∧
       ∀k',H k'=none→K (upd ρ o.dst (.os k')) (bG (bG H k none) k' (some ⟨e,1,r.es++HO b⟩))
   | none=>False
 | _,_,_=>False
def C4:List (Nat×TypeId×Nat)→List AV→List AV
 | [],z=>z
 | x::r,z=>C4 r (z.set x.1 (.v (.slice none 0 0)))
def tY(P:Program)(o:Oper)(t:TypeId)(parts:List (Nat×Operand))(ρ:Env)(H:aC)(K:Env→aC→Prop):Prop:=
 lG none ρ parts fun l=>match eC P t,eU P t,kT P t with
   | some z,some pl,some nl=>match mO pl (C4 nl z) l with
     | some cs=>K (upd ρ o.dst (.agg cs)) H
     | none=>False
   | _,_,_=>False
def wP(P:Program)(o:Oper)(t:TypeId)(parts:List (Nat×Operand))(ρ:Env)(H:aC)(K:Env→aC→Prop):Prop:=
 lG none ρ parts fun l=>match eC P t,eU P t,kT P t with
   | some z,some pl,some nl=>iF nl z H fun z H=>match mO pl z l with
     | some cs=>K (upd ρ o.dst (.agg cs)) H
     | none=>False
   | _,_,_=>False
def iY(P:Program)(o:Oper)(t:TypeId)(m x v:AV)(ρ:Env)(H:aC)(K:Env→aC→Prop):Prop:=
 zH P H t m x fun j r _ oi=>K (upd ρ o.dst .any) (bG H j (some { r with es:=Np r.es oi x v }))
def tK(P:Program)(o:Oper)(t:TypeId)(m x:AV)(ρ:Env)(H:aC)(K:Env→aC→Prop):Prop:=
 zH P H t m x fun j r kt oi=>match oi with
   | some i=>K (upd ρ o.dst (.tup [(r.es.getD i []).getD 1 .any,.v (.int .i64 i)])) H
   | none=>match Bq P kt.2 with
     | some z=>K (upd ρ o.dst (.tup [z,.v (.int .i64 r.es.length)])) (bG H j (some { r with es:=r.es++[[x,z]] }))
     | none=>False
def oJ(o:Oper)(m s v:AV)(ρ:Env)(H:aC)(K:Env→aC→Prop):Prop:=
 match m,s with
 | .om j,.v (.int _ i)=>match H j with
   | some r=>(0≤i∧i<r.es.length)∧K (upd ρ o.dst .any) (bG H j (some { r with es:=r.es.set i.toNat [(r.es.getD i.toNat []).getD 0 .any,v] }))
   | none=>False
 | _,_=>False
def nK(P:Program)(o:Oper)(t:TypeId)(l c:AV)(ρ:Env)(H:aC)(K:Env→aC→Prop):Prop:=
 match l,c with
 | .v (.int _ a),.v (.int _ b)=>match cM P t with
   | some (e,sz,bytes)=>match eC P e with
     | some z=>((0≤a∧a≤b)∧(bytes:Int)*b≤140737488355328)∧kQ H ⟨e,sz,List.replicate a.toNat z⟩ fun k H'=>K (upd ρ o.dst (.os k)) H'
     | none=>False
   | none=>False
 | _,_=>False
def Il:AV→Option (FuncId×List AV×List AV)
 | .v (.func (.func f) first captured)=>some (f,first.toList.map .v,captured.toList.map .v)
 | .fn f cap=>some (f,[],cap)
 | _=>none
def aF(P:Program)(f:FuncId):Bool:=match P.funcs[f]? with|some fn=>fn.name != "runtime.NumGoroutine" && fn.body.isSome|none=>false
abbrev jC:=FuncId→List AV→aC→(AV→aC→Prop)→Prop
def nfq(quiet:Bool)(r:AV)(K:AV→Prop):Prop:=match quiet,r with
 | true,.nf _=>False
 | false,.nf x=>K x
 | _,r=>K r
def wK(P:Program)(C:jC)(PC:FuncId→List AV→aC→AV→Prop)(nl quiet:Bool)(G:Option Bool)(o:Oper)(c:Call)(ρ:Env)(H:aC)(K:Env→aC→Prop):Prop:=
 match c.callee with
 | .builtin b=>uN G ρ c.args.toList fun l=>match b,l,c.argTypes.toList with
   | .len,[x],[t]=>Au P H t x fun y=>K (upd ρ o.dst (wr G y)) H
   | .append,[s,x],[t,t']=>if t=t'∧G=none∧quiet=false then qK P o t s x ρ H K else if G=none∧quiet=false then tD P o t t' s x ρ H K else False
   | .copy,[x,y],[t,_]=>if G=none∧quiet=false then Oe P o t x y ρ H K else False
   | .clear,[x],[t]=>if G=none∧quiet=false then Kl P o t x ρ H K else False
   | .max,[x,y],[_,_]=>JE x y fun z=>K (upd ρ o.dst (wr G z)) H
   | .min,[x,y],[_,_]=>J5 x y fun z=>K (upd ρ o.dst (wr G z)) H
   | _,_,_=>False
 | .value f=>bJ G (aev ρ f) fun x=>match Il x with
   | some (f,first,captured)=>if nl=true then gt G∧quiet=false∧aF P f=true∧C f (first++c.args.toList.map (Fg ρ)++captured) H fun r H'=>K (upd ρ o.dst r) H' else uN G ρ c.args.toList fun l=>
     aF P f=true∧if G=none∧quiet=false then C f (first++l++captured) H fun r H'=>K (upd ρ o.dst r) H'
     else ∃r,(gt G→PC f (first++l++captured) H r)∧nfq quiet r fun r=>K (upd ρ o.dst (wr G r)) H
   | none=>False
 | .invoke _ _=>False
def aop(P:Program)(C:jC)(PC:FuncId→List AV→aC→AV→Prop)(mt:Nat→Bool)(quiet:Bool)(ops:Array Oper)(o:Oper)(ρ:Env)(H:aC)(K:Env→aC→Prop):Prop:=
 bZ ops ρ o.guard fun G=>
 match o.op with
 | .assign x=>wM P mt quiet G o x ρ H K
 | .alloc t=>match eC P t with
   | some z => G = none ∧ quiet = false ∧ (if mP mt o.dst = true then match kT P t with
       | some nl=>iF nl z H fun z H=>kQ H ⟨t,z.length,[z]⟩ fun k H'=>K (upd ρ o.dst (.op k 0 0)) H'
       | none=>False
     else kQ H ⟨t,z.length,[z]⟩ fun k H'=>K (upd ρ o.dst (.op k 0 0)) H')
   | none=>False
 | .box t x=>G=none∧quiet=false∧bJ G (aev ρ x) fun x=>iP x fun cs=>Q8 mt o t cs ρ H K
 | .buildSlice t n parts=>quiet=false∧lG G ρ parts.toList fun l=>kG P mt G o t n l ρ H K
 | .store t a x => G = none ∧ quiet = false ∧ (if nS x = true then bJ G (aev ρ a) fun a => match cM P t with
       | some (e,sz,_)=>kQ H ⟨e,sz,[]⟩ fun k H=>oB P o t a [.os k] ρ H K
       | none=>False
     else bJ G (aev ρ a) fun a=>bJ G (aev ρ x) fun x=>iP x fun cs=>oB P o t a cs ρ H K)
 | .call c=>wK P C PC (mP mt o.dst) quiet G o c ρ H K
 | .move x=>if mP mt o.dst=true then G=none∧quiet=false∧tM x ρ o.dst H K else fO P G ρ H (.move x) fun x=>K (upd ρ o.dst (wr G x)) H
 | .pick c a b=>fO P G ρ H (.pick c a b) fun x=>K (upd ρ o.dst (wr G x)) H
 | .build t parts=>if mP mt o.dst=true then G=none∧(if quiet=true then tY P o t parts.toList ρ H K else wP P o t parts.toList ρ H K)else fO P G ρ H (.build t parts) fun x=>K (upd ρ o.dst (wr G x)) H
 | .load t a=>if mP mt o.dst=true then G=none∧quiet=false∧fO P none ρ H (.load t a) fun x=>Dz x ρ o.dst H K else fO P G ρ H (.load t a) fun x=>K (upd ρ o.dst (wr G x)) H
 | .nilCheck x=>fO P G ρ H (.nilCheck x) fun x=>K (upd ρ o.dst (wr G x)) H
 | .binOp op t x y t'=>fO P G ρ H (.binOp op t x y t') fun x=>K (upd ρ o.dst (wr G x)) H
 | .unOp op t x=>fO P G ρ H (.unOp op t x) fun x=>K (upd ρ o.dst (wr G x)) H
 | .convert s d x=>fO P G ρ H (.convert s d x) fun x=>K (upd ρ o.dst (wr G x)) H
 | .slice t x lo hi m=>fO P G ρ H (.slice t x lo hi m) fun x=>K (upd ρ o.dst (wr G x)) H
 | .fieldAddr t x f=>fO P G ρ H (.fieldAddr t x f) fun x=>K (upd ρ o.dst (wr G x)) H
 | .field t x f=>fO P G ρ H (.field t x f) fun x=>K (upd ρ o.dst (wr G x)) H
 | .indexAddr t x i=>fO P G ρ H (.indexAddr t x i) fun x=>K (upd ρ o.dst (wr G x)) H
 | .index t x i=>fO P G ρ H (.index t x i) fun x=>K (upd ρ o.dst (wr G x)) H
 | .extract x i=>fO P G ρ H (.extract x i) fun x=>K (upd ρ o.dst (wr G x)) H
 | .makeFunc f a b=>fO P G ρ H (.makeFunc f a b) fun x=>K (upd ρ o.dst (wr G x)) H
 | .makeInterface t x=>fO P G ρ H (.makeInterface t x) fun x=>K (upd ρ o.dst (wr G x)) H
 | .typeAssert x t t' b=>fO P G ρ H (.typeAssert x t t' b) fun x=>K (upd ρ o.dst (wr G x)) H
 | .makeSlice t l c=>G=none∧quiet=false∧bJ G (aev ρ l) fun l=>bJ G (aev ρ c) fun c=>nK P o t l c ρ H K
 | .lookup t x i ok=>fO P G ρ H (.lookup t x i ok) fun x=>K (upd ρ o.dst (wr G x)) H
 | .makeMap _ none=>G=none∧quiet=false∧kQ H ⟨0,2,[]⟩ fun k H'=>K (upd ρ o.dst (.om k)) H'
 | .mapUpdate t m x v=>G=none∧quiet=false∧bJ G (aev ρ m) fun m=>bJ G (aev ρ x) fun x=>bJ G (aev ρ v) fun v=>iY P o t m x v ρ H K
 | .insert t m x v=>G=none∧quiet=false∧bJ G (aev ρ m) fun m=>bJ G (aev ρ x) fun x=>bJ G (aev ρ v) fun v=>iY P o t m x v ρ H K
 | .mapEntry t m x=>G=none∧quiet=false∧bJ G (aev ρ m) fun m=>bJ G (aev ρ x) fun x=>tK P o t m x ρ H K
 | .entryStore _ m s v=>G=none∧quiet=false∧bJ G (aev ρ m) fun m=>bJ G (aev ρ s) fun s=>bJ G (aev ρ v) fun v=>oJ o m s v ρ H K
 | _=>False
def pY(P:Program)(C:jC)(PC:FuncId→List AV→aC→AV→Prop)(mt:Nat→Bool)(quiet:Bool)(ops:Array Oper)(K:Env→aC→Prop):List Oper→Env→aC→Prop
 | [],ρ,H=>K ρ H
 | o::rest,ρ,H=>aop P C PC mt quiet ops o ρ H (pY P C PC mt quiet ops K rest)
def Ex.seq(K:Env→aC→Prop)(Q:Ex→Env→aC→Prop):Ex→Env→aC→Prop
 | .normal,ρ,H=>K ρ H
 | e,ρ,H=>Q e ρ H
def Ex.blk(id:Nat)(Q:Ex→Env→aC→Prop):Ex→Env→aC→Prop
 | .exit i,ρ,H=>if i=id then Q .normal ρ H else Q (.exit i) ρ H
 | e,ρ,H=>Q e ρ H
def L5(W:(Ex→Env→aC→Prop)→Env→aC→Prop)(Q:Ex→Env→aC→Prop)(ρ:Env)(H:aC):Prop:=
 ∃(I:Env→aC→Prop) (μ:Env→aC→Nat),I ρ H∧∀ρ' H',I ρ' H'→W (Ex.seq (fun ρ'' H''=>I ρ'' H''∧μ ρ'' H''<μ ρ' H') Q) ρ' H'
def RO(mt:Nat→Bool)(o:Oper):Bool:=match o.op with
 | .alloc _=>true
 | .buildSlice ..=>true
 | .store ..=>true
 | .makeSlice ..=>true
 | .makeMap ..=>true
 | .mapUpdate ..=>true
 | .insert ..=>true
 | .mapEntry ..=>true
 | .entryStore ..=>true
 | .call ⟨.builtin .append,_,_⟩=>true
 | .call ⟨.builtin .copy,_,_⟩=>true
 | .call ⟨.builtin .clear,_,_⟩=>true
 | _=>mP mt o.dst
def L7(mt:Nat→Bool):List Oper→Nat
 | []=>0
 | o::r=>if RO mt o=true then 0 else L7 mt r+1
def LA(ops:Array Oper)(n:Nat):Bool:=Region.noSelect ops&&decide (n≤ops.size)&&Region.lexHead .any ops (ops.size-n) n 0 (Array.replicate ops.size false)
def qH(o:Oper)(H:aC):aC:=match o.op with
 | .slice ..=>H
 | _=>fun _=>none
def sE(P:Program)(C:jC)(PC:FuncId→List AV→aC→AV→Prop)(mt:Nat→Bool)(ops:Array Oper)(K:Env→aC→Prop):List (Nat×Bool)→Env→aC→Prop
 | [],ρ,H=>K ρ H
 | (k,b)::f,ρ,H=>match ops[k]? with
   | some o=>if b=true then aop P C PC mt true ops o ρ (qH o H) fun ρ' _=>sE P C PC mt ops K f ρ' H
     else aop P C PC mt false ops o ρ H (sE P C PC mt ops K f)
   | none=>False
def pL(P:Program)(C:jC)(PC:FuncId→List AV→aC→AV→Prop)(mt:Nat→Bool)(ops:Array Oper)(K:Env→aC→Prop)(Hp:aC):List (Nat×Bool)→Env→aC→Prop
 | [],ρ,H=>K ρ H
 | (k,b)::f,ρ,H=>match ops[k]? with
   | some o=>if b=true then aop P C PC mt true ops o ρ Hp fun ρ' _=>pL P C PC mt ops K Hp f ρ' H
     else aop P C PC mt false ops o ρ H (pL P C PC mt ops K Hp f)
   | none=>False
def oQ(l:List Nat)(H:aC)(K:Env→aC→Prop)(ρ':Env)(H':aC):Prop:=
 (∀k,k∈l→H' k=none)→∀Hm:aC,(∀k,k∈l→Hm k=H k)→(∀k,k∉l→Hm k=H' k)→K ρ' Hm
theorem cV{l:List Nat}{H:aC}{K:Env→aC→Prop}{ρ':Env}{H':aC}(h:(∀k,k∈l→H' k=none)→∀Hm:aC,(∀k,k∈l→Hm k=H k)→(∀k,k∉l→Hm k=H' k)→K ρ' Hm):oQ l H K ρ' H':=h
def lS(ops:Array Oper):List (Nat×Bool)→Array Bool→Bool
 | [],listed=>(Region.ready .any ops listed).isEmpty
 | (k,true)::f,listed=>(Region.ready .any ops listed).contains k&&Region.free .any ops listed k&&lS ops f (listed.setIfInBounds k true)
 | (k,false)::f,listed=>decide (Region.ready .any ops listed=[k])&&lS ops f (listed.setIfInBounds k true)
def Kt(ops:Array Oper)(f:List (Nat×Bool)):Bool:=Region.noSelect ops&&decide (f.length=ops.size)&&lS ops f (Array.replicate ops.size false)
inductive Mx where
 | nil
 | q (k:Nat) (t:Mx)
 | a1 (k:Nat) (t:Mx)
 | a2 (k:Nat) (t:Mx) (k':Nat) (t':Mx)
 | a3 (k:Nat) (t:Mx) (k':Nat) (t':Mx) (k'':Nat) (t'':Mx)
def wC(P:Program)(C:jC)(PC:FuncId→List AV→aC→AV→Prop)(mt:Nat→Bool)(quiet:Bool)(ops:Array Oper)(k:Nat)(ρ:Env)(H:aC)(K:Env→aC→Prop):Prop:=
 match ops[k]? with
 | some o=>aop P C PC mt quiet ops o ρ H K
 | none=>False
def jM(P:Program)(C:jC)(PC:FuncId→List AV→aC→AV→Prop)(mt:Nat→Bool)(ops:Array Oper)(K:Env→aC→Prop)(Hp:aC):Mx→Env→aC→Prop
 | .nil,ρ,H=>K ρ H
 | .q k t,ρ,H=>wC P C PC mt true ops k ρ Hp fun ρ' _=>jM P C PC mt ops K Hp t ρ' H
 | .a1 k t,ρ,H=>wC P C PC mt false ops k ρ H (jM P C PC mt ops K Hp t)
 | .a2 k t k' t',ρ,H=>wC P C PC mt false ops k ρ H (jM P C PC mt ops K Hp t)∧wC P C PC mt false ops k' ρ H (jM P C PC mt ops K Hp t')
 | .a3 k t k' t' k'' t'',ρ,H=>wC P C PC mt false ops k ρ H (jM P C PC mt ops K Hp t)∧wC P C PC mt false ops k' ρ H (jM P C PC mt ops K Hp t')∧wC P C PC mt false ops k'' ρ H (jM P C PC mt ops K Hp t'')
def eB(ops:Array Oper):Mx→Nat→Array Bool→Bool
 | .nil,0,listed=>(Region.ready .any ops listed).isEmpty
 | .q k t,n+1,listed=>(Region.ready .any ops listed).contains k&&Region.free .any ops listed k&&eB ops t n (listed.setIfInBounds k true)
 | .a1 k t,n+1,listed=>decide (Region.ready .any ops listed=[k])&&eB ops t n (listed.setIfInBounds k true)
 | .a2 k t k' t',n+1,listed=>decide (Region.ready .any ops listed=[k,k'])&&eB ops t n (listed.setIfInBounds k true)&&eB ops t' n (listed.setIfInBounds k' true)
 | .a3 k t k' t' k'' t'',n+1,listed=>decide (Region.ready .any ops listed=[k,k',k''])&&eB ops t n (listed.setIfInBounds k true)&&eB ops t' n (listed.setIfInBounds k' true)&&eB ops t'' n (listed.setIfInBounds k'' true)
 | _,_,_=>false
def zJ(ops:Array Oper)(t:Mx):Bool:=Region.noSelect ops&&eB ops t ops.size (Array.replicate ops.size false)
def rY(P:Program)(C:jC)(PC:FuncId→List AV→aC→AV→Prop)(mt:Nat→Bool)(ops:Array Oper)(K:Env→aC→Prop)(m:Nat)(ρ:Env)(H:aC):Prop:=
 (m=ops.size∧Region.lexB .any ops=true∧pY P C PC mt true ops K ops.toList ρ H) ∨
 (LA ops m=true∧pY P C PC mt true ops (fun ρ' _=>pY P C PC mt false ops K (ops.toList.drop m) ρ' H) (ops.toList.take m) ρ fun _=>none) ∨
 (∃f,Kt ops f=true∧sE P C PC mt ops K f ρ H) ∨
 ∃l t,(∀k,k∈l→(H k).isSome=true)∧zJ ops t=true∧∀Hp Hr:aC,(∀k,k∈l→Hp k=H k)→(∀k,k∉l→Hr k=H k)→(∀k,k∉l→Hp k=none)→(∀k,k∈l→Hr k=none)→jM P C PC mt ops (oQ l H K) Hp t ρ Hr
theorem lK{P:Program}{C:jC}{PC:FuncId→List AV→aC→AV→Prop}{mt:Nat→Bool}{l:List Oper}{K:Env→aC→Prop}{m:Nat}{ρ:Env}{H:aC}(hm:(m == l.length)=true)(hl:Region.lexB .any l.toArray=true)
 (h:pY P C PC mt true l.toArray K l ρ H):rY P C PC mt l.toArray K m ρ H:=.inl ⟨by simpa using hm,hl,h⟩
theorem Fl{P:Program}{C:jC}{PC:FuncId→List AV→aC→AV→Prop}{mt:Nat→Bool}{l:List Oper}{K:Env→aC→Prop}{m:Nat}{ρ:Env}{H:aC}(hB:LA l.toArray m=true)
 (h:pY P C PC mt true l.toArray (fun ρ' _=>pY P C PC mt false l.toArray K (l.drop m) ρ' H) (l.take m) ρ fun _=>none):rY P C PC mt l.toArray K m ρ H:=.inr (.inl ⟨hB,h⟩)
theorem bX{P:Program}{C:jC}{PC:FuncId→List AV→aC→AV→Prop}{mt:Nat→Bool}{l:List Oper}{K:Env→aC→Prop}{m:Nat}{ρ:Env}{H:aC}(f:List (Nat×Bool))(hB:Kt l.toArray f=true)
 (h:sE P C PC mt l.toArray K f ρ H):rY P C PC mt l.toArray K m ρ H:=.inr (.inr (.inl ⟨f,hB,h⟩))
theorem lO{P:Program}{C:jC}{PC:FuncId→List AV→aC→AV→Prop}{mt:Nat→Bool}{ops:List Oper}{K:Env→aC→Prop}{m:Nat}{ρ:Env}{H:aC}(l:List Nat)(t:Mx)(hl:∀k,k∈l→(H k).isSome=true)(hB:zJ ops.toArray t=true)
 (h:∀Hp Hr:aC,(∀k,k∈l→Hp k=H k)→(∀k,k∉l→Hr k=H k)→(∀k,k∉l→Hp k=none)→(∀k,k∈l→Hr k=none)→jM P C PC mt ops.toArray (oQ l H K) Hp t ρ Hr):rY P C PC mt ops.toArray K m ρ H:=.inr (.inr (.inr ⟨l,t,hl,hB,h⟩))
def mxL:List (Nat×Bool)→Mx
 | []=>.nil
 | (k,true)::f=>.q k (mxL f)
 | (k,false)::f=>.a1 k (mxL f)
theorem Pu{P:Program}{C:jC}{PC:FuncId→List AV→aC→AV→Prop}{mt:Nat→Bool}{ops:Array Oper}{K:Env→aC→Prop}(Hp:aC):∀f,pL P C PC mt ops K Hp f=jM P C PC mt ops K Hp (mxL f)
 | []=>by funext ρ H;simp only[pL,mxL,jM]
 | (k,b)::f=>by funext ρ H;cases b <;> simp[pL,mxL,jM,wC,Pu Hp f]
theorem Tb{ops:Array Oper}{f:List (Nat×Bool)}(h:Kt ops f=true):zJ ops (mxL f)=true:=by
 have hh:∀(f:List (Nat×Bool)) (l:Array Bool),lS ops f l=true→eB ops (mxL f) f.length l=true:=by
  intro f;induction f with
  | nil=>intro l h;simpa[lS,mxL,eB]using h
  | cons x f ih=>
   intro l h;obtain⟨k,b⟩:=x;cases b <;> simp only[lS,Bool.and_eq_true]at h <;> simp only[mxL,eB,List.length_cons,Bool.and_eq_true]
   ·exact⟨h.1,ih _ h.2⟩
   ·exact⟨h.1,ih _ h.2⟩
 simp only[Kt,Bool.and_eq_true,decide_eq_true_eq]at h;simp only[zJ,Bool.and_eq_true];have e:=hh f _ h.2;rw[h.1.2]at e;exact⟨h.1.1,e⟩
theorem rM{P:Program}{C:jC}{PC:FuncId→List AV→aC→AV→Prop}{mt:Nat→Bool}{ops:List Oper}{K:Env→aC→Prop}{m:Nat}{ρ:Env}{H:aC}(l:List Nat)(f:List (Nat×Bool))(hl:∀k,k∈l→(H k).isSome=true)(hB:Kt ops.toArray f=true)
 (h:∀Hp Hr:aC,(∀k,k∈l→Hp k=H k)→(∀k,k∉l→Hr k=H k)→(∀k,k∉l→Hp k=none)→(∀k,k∈l→Hr k=none)→pL P C PC mt ops.toArray (oQ l H K) Hp f ρ Hr):rY P C PC mt ops.toArray K m ρ H:=lO l (mxL f) hl (Tb hB) fun Hp Hr h1 h2 h3 h4=>by rw[←Pu Hp f];exact h Hp Hr h1 h2 h3 h4
def awp(P:Program)(C:jC)(PC:FuncId→List AV→aC→AV→Prop)(mt:Nat→Bool):Code→(Ex→Env→aC→Prop)→Env→aC→Prop
 | .skip,Q,ρ,H=>Q .normal ρ H
 | .region _ ops draw,Q,ρ,H=>if draw=true then rY P C PC mt ops (Q .normal) (L7 mt ops.toList) ρ H else pY P C PC mt false ops (Q .normal) ops.toList ρ H
 | .seq a b,Q,ρ,H=>awp P C PC mt a (Ex.seq (awp P C PC mt b Q) Q) ρ H
 | .cond c a b,Q,ρ,H=>match aev ρ c with
   | .v (.bool t)=>(t=true→awp P C PC mt a Q ρ H)∧(t=false→awp P C PC mt b Q ρ H)
   | _=>False
 | .block id c,Q,ρ,H=>awp P C PC mt c (Ex.blk id Q) ρ H
 | .loop c,Q,ρ,H=>L5 (awp P C PC mt c) Q ρ H
 | .scope c,Q,ρ,H=>awp P C PC mt c Q ρ H
 | .label _,Q,ρ,H=>Q .normal ρ H
 | .exit id,Q,ρ,H=>Q (.exit id) ρ H
 | .ret,Q,ρ,H=>Q .ret ρ H
 | _,_,_,_=>False
def rX(x:AV)(A B:Env→aC→Prop)(ρ:Env)(H:aC):Prop:=
 match x with
 | .v (.bool t)=>(t=true→A ρ H)∧(t=false→B ρ H)
 | _=>False
section
variable{P:Program}{C:jC}{PC:FuncId→List AV→aC→AV→Prop}{mt:Nat→Bool}{Q:Ex→Env→aC→Prop}{K:Env→aC→Prop}{ρ:Env}{H:aC}{a b c:Code}{id:Nat}{ops:Array Oper}{draw:Bool}
theorem N7:awp P C PC mt .skip Q ρ H=Q .normal ρ H:=(rfl)
theorem BM:awp P C PC mt (.region id ops false) Q ρ H=pY P C PC mt false ops (Q .normal) ops.toList ρ H:=by simp[awp]
theorem Hl:awp P C PC mt (.region id ops true) Q ρ H=rY P C PC mt ops (Q .normal) (L7 mt ops.toList) ρ H:=by simp[awp]
@[congr] theorem adraw_c {m m':Nat} (h:m=m'):rY P C PC mt ops K m ρ H=rY P C PC mt ops K m' ρ H:=h▸rfl
theorem KW:awp P C PC mt (.seq a b) Q ρ H=awp P C PC mt a (Ex.seq (awp P C PC mt b Q) Q) ρ H:=(rfl)
theorem HA{x:Operand}:awp P C PC mt (.cond x a b) Q ρ H=rX (aev ρ x) (awp P C PC mt a Q) (awp P C PC mt b Q) ρ H:=(rfl)
theorem Db:awp P C PC mt (.block id c) Q ρ H=awp P C PC mt c (Ex.blk id Q) ρ H:=(rfl)
theorem I0:awp P C PC mt (.loop c) Q ρ H=L5 (awp P C PC mt c) Q ρ H:=(rfl)
theorem DS:awp P C PC mt (.scope c) Q ρ H=awp P C PC mt c Q ρ H:=(rfl)
theorem MT{l:Nat}:awp P C PC mt (.label l) Q ρ H=Q .normal ρ H:=(rfl)
theorem PO:awp P C PC mt (.exit id) Q ρ H=Q (.exit id) ρ H:=(rfl)
theorem QX:awp P C PC mt .ret Q ρ H=Q .ret ρ H:=(rfl)
theorem NO:pY P C PC mt draw ops K [] ρ H=K ρ H:=(rfl)
theorem M2{o:Oper}{r:List Oper}:pY P C PC mt draw ops K (o::r) ρ H=aop P C PC mt draw ops o ρ H (pY P C PC mt draw ops K r):=(rfl)
theorem JD:Ex.seq K Q .normal ρ H=K ρ H:=(rfl)
theorem Ny:Ex.seq K Q (.exit id) ρ H=Q (.exit id) ρ H:=(rfl)
theorem Qt:Ex.seq K Q .ret ρ H=Q .ret ρ H:=(rfl)
theorem JW:Ex.blk id Q .normal ρ H=Q .normal ρ H:=(rfl)
theorem Ma:Ex.blk id Q .ret ρ H=Q .ret ρ H:=(rfl)
theorem GK:Ex.blk id Q (.exit id) ρ H=Q .normal ρ H:=by simp[Ex.blk]
theorem MY{i:Nat}(h:(i == id)=false):Ex.blk id Q (.exit i) ρ H=Q (.exit i) ρ H:=by
 have:i≠id:=by simpa using h
 simp[Ex.blk,this]
end
@[congr] theorem wopd_c {G x x' k} (h:x=x'):bJ G x k=bJ G x' k:=h▸rfl
@[congr] theorem abin_c {P G op t x x' y y' k} (h:x=x') (h':y=y'):gQ P G op t x y k=gQ P G op t x' y' k:=h▸h'▸rfl
@[congr] theorem apick_c {G c c' x x' y y' k} (h0:c=c') (h:x=x') (h':y=y'):uP G c x y k=uP G c' x' y' k:=h0▸h▸h'▸rfl
@[congr] theorem aload_c {G H l l' x x' k} (h:l=l') (h':x=x'):kE G H l x k=kE G H l' x' k:=h▸h'▸rfl
@[congr] theorem apart_c {G o o' l l' x x' k} (h0:o=o') (h:l=l') (h':x=x'):apart G o l x k=apart G o' l' x' k:=h0▸h▸h'▸rfl
@[congr] theorem alen_c {P H t x x' k} (h':x=x'):Au P H t x k=Au P H t x' k:=h'▸rfl
@[congr] theorem aindexAddr_c {P G H t x x' y y' k} (h:x=x') (h':y=y'):eW P G H t x y k=eW P G H t x' y' k:=h▸h'▸rfl
@[congr] theorem aindex_c {P G t x x' y y' k} (h:x=x') (h':y=y'):uU P G t x y k=uU P G t x' y' k:=h▸h'▸rfl
@[congr] theorem afieldAddr_c {P t f x x' k} (h':x=x'):gN P t f x k=gN P t f x' k:=h'▸rfl
@[congr] theorem abuild_c {P t l l' k} (h':l=l'):pX P t l k=pX P t l' k:=h'▸rfl
@[congr] theorem aslice_c {P G t x x' lo lo' hi hi' k} (h:x=x') (h1:lo=lo') (h2:hi=hi'):jP P G t x lo hi k=jP P G t x' lo' hi' k:=h▸h1▸h2▸rfl
@[congr] theorem aun_c {op x x' k} (h':x=x'):aun op x k=aun op x' k:=h'▸rfl
@[congr] theorem aiface_c {P t x x' k} (h':x=x'):xQ P t x k=xQ P t x' k:=h'▸rfl
@[congr] theorem aassert_c {P t x x' k} (h':x=x'):tU P t x k=tU P t x' k:=h'▸rfl
@[congr] theorem aconv_c {P s t x x' k} (h':x=x'):rN P s t x k=rN P s t x' k:=h'▸rfl
@[congr] theorem wcells_c {x x' K} (h:x=x'):iP x K=iP x' K:=h▸rfl
@[congr] theorem acond_c {x x' A B ρ H} (h':x=x'):rX x A B ρ H=rX x' A B ρ H:=h'▸rfl
@[congr] theorem abox_c {mt o t x x' ρ H K} (h:x=x'):Q8 mt o t x ρ H K=Q8 mt o t x' ρ H K:=h▸rfl
@[congr] theorem abuildSlice_c {P mt G o t n x x' ρ H K} (h:x=x'):kG P mt G o t n x ρ H K=kG P mt G o t n x' ρ H K:=h▸rfl
@[congr] theorem astore_c {P o t a a' x x' ρ H K} (h:a=a') (h':x=x'):tA P o t a x ρ H K=tA P o t a' x' ρ H K:=h▸h'▸rfl
@[congr] theorem aappendS_c {P o t t' a a' x x' ρ H K} (h:a=a') (h':x=x'):tD P o t t' a x ρ H K=tD P o t t' a' x' ρ H K:=h▸h'▸rfl
@[congr] theorem aappend_c {P o t a a' x x' ρ H K} (h:a=a') (h':x=x'):qK P o t a x ρ H K=qK P o t a' x' ρ H K:=h▸h'▸rfl
@[congr] theorem asrc_c {H x x' K} (h:x=x'):qJ H x K=qJ H x' K:=h▸rfl
@[congr] theorem anew_c {H r r' K} (h:r=r'):kQ H r K=kQ H r' K:=h▸rfl
theorem aA{t:Bool}{A B:Env→aC→Prop}{ρ:Env}{H:aC}(h1:t=true→A ρ H)(h2:t=false→B ρ H):rX (.v (.bool t)) A B ρ H:=⟨h1,h2⟩
def uY(args:List AV):Env:=fun t=>args.getD t .any
def bO:AV→Nat
 | .v (.int _ n)=>n.toNat
 | _=>0
theorem aE{k n}:bO (.v (.int k n))=n.toNat:=(rfl)
section
variable{G:Option Bool}{k:AV→Prop}
theorem N9{x}:bJ G (.v x) k=k (.v x):=(rfl)
theorem IJ:bJ G .any k=k .any:=(rfl)
theorem KY{x}:bJ G (.sl x) k=k (.sl x):=(rfl)
theorem KT{x o}:bJ G (.rp x o) k=k (.rp x o):=(rfl)
theorem Iv{x}:bJ G (.agg x) k=k (.agg x):=(rfl)
theorem Ig{x}:bJ G (.tup x) k=k (.tup x):=(rfl)
theorem L2{x}:bJ G (.os x) k=k (.os x):=(rfl)
theorem LU{x i f}:bJ G (.op x i f) k=k (.op x i f):=(rfl)
theorem LY{f l}:bJ G (.fn f l) k=k (.fn f l):=(rfl)
theorem La{j a b}:bJ G (.oz j a b) k=k (.oz j a b):=(rfl)
theorem LZ{es}:bJ G (.cl es) k=k (.cl es):=(rfl)
theorem LG{j}:bJ G (.om j) k=k (.om j):=(rfl)
theorem K6{g x}:bJ G (.gd g x) k=(gok G g∧k x):=(rfl)
end
def K3(K:Env→aC→Prop)(ρ:Env)(d:Option Tmp)(j:Nat)(H:aC):Prop:=K (upd ρ d (.os j)) H
def KZ(K:Env→aC→Prop)(ρ:Env)(d:Option Tmp)(j:Nat)(H:aC):Prop:=K (upd ρ d (.op j 0 0)) H
def I4(K:Env→aC→Prop)(ρ:Env)(d:Option Tmp)(r:AV)(H:aC):Prop:=K (upd ρ d r) H
theorem Gq{K ρ d j H}:K3 K ρ d j H=K (upd ρ d (.os j)) H:=(rfl)
theorem Hy{K ρ d j H}:KZ K ρ d j H=K (upd ρ d (.op j 0 0)) H:=(rfl)
theorem Gx{K ρ d r H}:I4 K ρ d r H=K (upd ρ d r) H:=(rfl)
def IF(G:Option Bool)(c x y:AV)(k:AV→Prop):Prop:=match c with
 | .v (.bool c)=>uP G c x y k
 | .any=>(gt G→False)∧∃b:Bool,k (.v (.bool b))
 | _=>False
@[congr] theorem wpick_c {G c c' x y k} (h:c=c'):IF G c x y k=IF G c' x y k:=h▸rfl
theorem Ed{G x y k}:IF G .any x y k=((gt G→False)∧∃b:Bool,k (.v (.bool b))):=(rfl)
theorem Lb{G c x y k}:IF G (.v (.bool c)) x y k=uP G c x y k:=(rfl)
def MD(G:Option Bool)(x:AV)(k:AV→Prop):Prop:=match x with
 | .rp cs off=>k (.rp cs off)
 | .op j i f=>k (.op j i f)
 | .v (.pointer none)=>(gt G→False)∧∃cs off,k (.rp cs off)
 | _=>False
@[congr] theorem wptr_c {G x x' k} (h:x=x'):MD G x k=MD G x' k:=h▸rfl
theorem Lw{G cs o k}:MD G (.rp cs o) k=k (.rp cs o):=(rfl)
theorem LP{G j i f k}:MD G (.op j i f) k=k (.op j i f):=(rfl)
theorem FP{G k}:MD G (.v (.pointer none)) k=((gt G→False)∧∃cs off,k (.rp cs off)):=(rfl)
def Qa(G:Option Bool)(x:AV)(i:Nat)(k:AV→Prop):Prop:=match x with
 | .tup vs=>(gt G→i<vs.length)∧k (vs.getD i .any)
 | _=>False
@[congr] theorem wtup_c {G x x' i k} (h:x=x'):Qa G x i k=Qa G x' i k:=h▸rfl
theorem Lq{G vs i k}:Qa G (.tup vs) i k=((gt G→i<vs.length)∧k (vs.getD i .any)):=(rfl)
def Mv(P:Program)(d:Option Tmp)(t:TypeId)(a:AV)(cs:List AV)(ρ:Env)(H:aC)(K:Env→aC→Prop):Prop:=oB P ⟨d,.move (.tmp 0),0,"",#[],none⟩ t a cs ρ H K
@[congr] theorem wput_c {P d t a a' cs cs' ρ H K} (h:a=a') (h':cs=cs'):Mv P d t a cs ρ H K=Mv P d t a' cs' ρ H K:=h▸h'▸rfl
def KK(P:Program)(d:Option Tmp)(t:TypeId)(s x:AV)(ρ:Env)(H:aC)(K:Env→aC→Prop):Prop:=qK P ⟨d,.move (.tmp 0),0,"",#[],none⟩ t s x ρ H K
def Pf(P:Program)(d:Option Tmp)(t t':TypeId)(s x:AV)(ρ:Env)(H:aC)(K:Env→aC→Prop):Prop:=tD P ⟨d,.move (.tmp 0),0,"",#[],none⟩ t t' s x ρ H K
@[congr] theorem wappS_c {P d t t' s s' x x' ρ H K} (h:s=s') (h':x=x'):Pf P d t t' s x ρ H K=Pf P d t t' s' x' ρ H K:=h▸h'▸rfl
@[congr] theorem wapp_c {P d t s s' x x' ρ H K} (h:s=s') (h':x=x'):KK P d t s x ρ H K=KK P d t s' x' ρ H K:=h▸h'▸rfl
def IZ(P:Program)(d:Option Tmp)(t:TypeId)(l c:AV)(ρ:Env)(H:aC)(K:Env→aC→Prop):Prop:=nK P ⟨d,.move (.tmp 0),0,"",#[],none⟩ t l c ρ H K
@[congr] theorem wmake_c {P d t s s' x x' ρ H K} (h:s=s') (h':x=x'):IZ P d t s x ρ H K=IZ P d t s' x' ρ H K:=h▸h'▸rfl
def Ns(P:Program)(d:Option Tmp)(t:TypeId)(x y:AV)(ρ:Env)(H:aC)(K:Env→aC→Prop):Prop:=Oe P ⟨d,.move (.tmp 0),0,"",#[],none⟩ t x y ρ H K
@[congr] theorem wcopy_c {P d t s s' x x' ρ H K} (h:s=s') (h':x=x'):Ns P d t s x ρ H K=Ns P d t s' x' ρ H K:=h▸h'▸rfl
def Je(P:Program)(d:Option Tmp)(t:TypeId)(x:AV)(ρ:Env)(H:aC)(K:Env→aC→Prop):Prop:=Kl P ⟨d,.move (.tmp 0),0,"",#[],none⟩ t x ρ H K
@[congr] theorem wclear_c {P d t s s' ρ H K} (h:s=s'):Je P d t s ρ H K=Je P d t s' ρ H K:=h▸rfl
theorem Me{P:Program}{d:Option Tmp}{t:TypeId}{s x:AV}{ρ:Env}{H:aC}{K:Env→aC→Prop}{e:TypeId×Nat×Nat}(he:cM P t=some e)(hs:s=.v (.slice none 0 0)∨∃es,s=.sl es)
  (hx:x=.sl []∨∃i r',x=.os i∧H i=some r'∧r'.es=[]) (h:K (upd ρ d s) H):KK P d t s x ρ H K:=by
 unfold KK qK;obtain⟨e,sz,b⟩:=e;simp only[he];rcases hs with rfl|⟨es,rfl⟩ <;> rcases hx with rfl|⟨i,r',rfl,hi,h0⟩
 ·exact .inl ⟨rfl,h⟩
 ·simp only[qJ,hi];exact .inl ⟨h0,h⟩
 ·exact⟨rfl,h⟩
 ·simp only[qJ,hi];exact⟨h0,h⟩
theorem cN{H:aC}{r:Row}{F:Nat→aC→Prop}(h:∀j,H j=none→F j (bG H j (some r))):kQ H r F:=h
def bN{α:Type}(o:Option α)(f:α→Prop):Prop:=match o with|some x=>f x|none=>False
theorem BA{α:Type}{x:α}{f:α→Prop}:bN (some x) f=f x:=(rfl)
@[congr] theorem withO_c {α:Type} {o o':Option α} {f:α→Prop} (h:o=o'):bN o f=bN o' f:=h▸rfl
section
variable{P:Program}{C:jC}{PC:FuncId→List AV→aC→AV→Prop}{mt:Nat→Bool}{q:Bool}{ops:Array Oper}{d:Option Tmp}{ty:TypeId}{pos:String}{aft:Array Edge}{ρ:Env}{H:aC}{K:Env→aC→Prop}{G:Option Bool}{k:AV→Prop}
theorem Lc{t}:aev ρ (.tmp t)=ρ t:=(rfl)
theorem Eb{v}:aev ρ (.const v)=lU v:=(rfl)
theorem F8{f}:aev ρ (.func f)=.v (.func (.func f) #[] #[]):=(rfl)
theorem Iy{t n a b}:gQ P G .add t (.v (.int n a)) (.v (.int n b)) k=k (.v (.int n (n.wrap (a+b)))):=by simp[gQ,vH]
theorem Hn{t n a b}:gQ P G .sub t (.v (.int n a)) (.v (.int n b)) k=k (.v (.int n (n.wrap (a-b)))):=by simp[gQ,vH]
theorem GL{t n a b}:gQ P G .mul t (.v (.int n a)) (.v (.int n b)) k=k (.v (.int n (n.wrap (a*b)))):=by simp[gQ,vH]
theorem Ga{t n a b}:gQ P G .quo t (.v (.int n a)) (.v (.int n b)) k=((gt G→b≠0)∧k (.v (.int n (n.wrap (a.tdiv b))))):=by simp[gQ,vH]
theorem Iz{t n a b}:gQ P G .rem t (.v (.int n a)) (.v (.int n b)) k=((gt G→b≠0)∧k (.v (.int n (a.tmod b)))):=by simp[gQ,vH]
theorem Ia{t n a b}:gQ P G .eql t (.v (.int n a)) (.v (.int n b)) k=k (.v (.bool (a == b))):=by simp[gQ,vH]
theorem FL{t n a b}:gQ P G .neq t (.v (.int n a)) (.v (.int n b)) k=k (.v (.bool (a != b))):=by simp[gQ,vH]
theorem IU{t n a b}:gQ P G .lss t (.v (.int n a)) (.v (.int n b)) k=k (.v (.bool (decide (a<b)))):=by simp[gQ,vH]
theorem I8{t n a b}:gQ P G .leq t (.v (.int n a)) (.v (.int n b)) k=k (.v (.bool (decide (a≤b)))):=by simp[gQ,vH]
theorem HG{t n a b}:gQ P G .gtr t (.v (.int n a)) (.v (.int n b)) k=k (.v (.bool (decide (a>b)))):=by simp[gQ,vH]
theorem IS{t n a b}:gQ P G .geq t (.v (.int n a)) (.v (.int n b)) k=k (.v (.bool (decide (a≥b)))):=by simp[gQ,vH]
theorem FU{t n m a b}:gQ P G .shl t (.v (.int n a)) (.v (.int m b)) k=((gt G→0≤b)∧k (.v (.int n (shV .shl n a b)))):=by simp[gQ,vH]
theorem KU{t n a b}:gQ P G .or t (.v (.int n a)) (.v (.int n b)) k=k (.v (.int n (Pz .or n a b))):=by simp[gQ,vH]
theorem DM{op t x}:gQ P G op t (.v x) .any k=((gt G→False)∧k .any):=by cases x <;> rfl
theorem C0{op t x}:gQ P G op t .any (.v x) k=((gt G→False)∧k .any):=by cases x with
 | pointer a=>cases a <;> rfl
 | _=>rfl
theorem BX{x}:rO true (.v x) .any=.v x:=by cases x with
 | bool b=>cases b <;> rfl
 | _=>rfl
theorem El{t a b}:gQ P G .add t (.v (.string a)) (.v (.string b)) k=((gt G→((a.size+b.size:Nat):Int)≤IntKind.i64.max)∧k (.v (.string (a++b)))):=(rfl)
theorem DL{t a b}:gQ P G .eql t (.v (.string a)) (.v (.string b)) k=k (.v (.bool (a.toList == b.toList))):=(rfl)
theorem Df{t a b}:gQ P G .neq t (.v (.string a)) (.v (.string b)) k=k (.v (.bool !(a.toList == b.toList))):=(rfl)
theorem Dv{t a b}:gQ P G .eql t (.v (.bool a)) (.v (.bool b)) k=if vQ P t then k (.v (.bool (a == b)))else False:=(rfl)
theorem D9{t a b}:gQ P G .neq t (.v (.bool a)) (.v (.bool b)) k=if vQ P t then k (.v (.bool !(a == b)))else False:=(rfl)
theorem DE{t x y}:gQ P G .eql t (.agg x) (.agg y) k=bN (pI P t) fun l=>bN (cZ l x y) fun b=>k (.v (.bool b)):=by
 cases h1:pI P t with
 | none=>simp[gQ,bN,h1]
 | some l=>cases h2:cZ l x y <;> simp[gQ,bN,h1,h2]
theorem GJ{c x y}:uP G c (.v x) (.v y) k=k (rO c (.v x) (.v y)):=(rfl)
theorem IB{c x g y}:uP G c (.v x) (.gd g y) k=((gt G→c=false→g=true)∧k (rO c (.v x) y)):=(rfl)
theorem It{c g x y}:uP G c (.gd g x) (.v y) k=((gt G→c=true→g=true)∧k (rO c x (.v y))):=(rfl)
theorem LO{c b}:rO c (.v (.bool true)) (.v (.bool b))=.v (.bool (c||b)):=(rfl)
theorem L1{c a}:rO c (.v (.bool a)) (.v (.bool false))=.v (.bool (c&&a)):=by cases a <;> cases c <;> rfl
theorem Dx{cs o}:kE G H none (.rp cs o) k=((gt G→o<cs.length)∧k (cs.getD o .any)):=(rfl)
theorem C3{cs o n}:kE G H (some n) (.rp cs o) k=((gt G→o+n≤cs.length)∧k (.agg ((cs.drop o).take n))):=(rfl)
theorem Dd{j i f}:kE G H none (.op j i f) k=bN (H j) fun r=>(gt G→i<r.es.length∧f<r.sz)∧k ((r.es.getD i []).getD f .any):=by cases h1:H j <;> simp[kE,bN,h1]
theorem C5{j i f n}:kE G H (some n) (.op j i f) k=bN (H j) fun r=>(gt G→i<r.es.length∧f+n≤r.sz)∧k (.agg (((r.es.getD i []).drop f).take n)):=by cases h1:H j <;> simp[kE,bN,h1]
theorem Lh{o cs}:apart G o none (.agg cs) k=((gt G→o<cs.length)∧k (cs.getD o .any)):=(rfl)
theorem LB{o n cs}:apart G o (some n) (.agg cs) k=((gt G→o+n≤cs.length)∧k (.agg ((cs.drop o).take n))):=(rfl)
theorem L8{t es}:Au P H t (.sl es) k=if dY P t then k (.v (.int .i64 es.length))else False:=(rfl)
theorem KV{t j}:Au P H t (.os j) k=bN (H j) fun r=>if dY P t then k (.v (.int .i64 r.es.length))else False:=by cases h1:H j <;> simp[Au,bN,h1]
theorem Lu{t j a b}:Au P H t (.oz j a b) k=if dY P t then k (.v (.int .i64 (b-a:Nat)))else False:=(rfl)
theorem K9{t s}:Au P H t (.v (.string s)) k=if dG P t then k (.v (.int .i64 s.size))else False:=(rfl)
theorem uM{t es n i}:eW P G H t (.sl es) (.v (.int n i)) k=bN (cM P t) fun e=>(gt G→(0≤i∧i<es.length)∧(es.getD i.toNat []).length=e.2.1)∧k (.rp (es.getD i.toNat []) 0):=by cases h1:cM P t <;> simp[eW,bN,h1]
theorem uQ{t j n i}:eW P G H t (.os j) (.v (.int n i)) k=bN (H j) fun r=>bN (cM P t) fun e=>(gt G→(0≤i∧i<r.es.length)∧r.sz=e.2.1)∧k (.op j i.toNat 0):=by cases h1:H j <;> cases h2:cM P t <;> simp[eW,bN,h1,h2]
theorem uJ{t cs o n i}:eW P G H t (.rp cs o) (.v (.int n i)) k=bN (Af P t) fun e=>(gt G→0≤i∧i<e.1)∧k (.rp cs (o+i.toNat*e.2.1)):=by cases h1:Af P t <;> simp[eW,bN,h1]
theorem uO{t j a o n i}:eW P G H t (.op j a o) (.v (.int n i)) k=bN (Af P t) fun e=>(gt G→0≤i∧i<e.1)∧k (.op j a (o+i.toNat*e.2.1)):=by cases h1:Af P t <;> simp[eW,bN,h1]
theorem uL{t f cs o}:gN P t f (.rp cs o) k=bN (aT P t f) fun e=>k (.rp cs (o+e.1)):=by cases h1:aT P t f <;> simp[gN,bN,h1]
theorem uI{t f j i o}:gN P t f (.op j i o) k=bN (aT P t f) fun e=>k (.op j i (o+e.1)):=by cases h1:aT P t f <;> simp[gN,bN,h1]
theorem K8{b}:aun .not (.v (.bool b)) k=k (.v (.bool !b)):=(rfl)
theorem LH{n i}:aun .neg (.v (.int n i)) k=k (.v (.int n (n.wrap (0-i)))):=(rfl)
def DZ{α:Type}(o:Option α)(f:α→Prop)(d:Prop):Prop:=match o with|some x=>f x|none=>d
theorem AK{α:Type}{x:α}{f d}:DZ (some x) f d=f x:=(rfl)
theorem AA{α:Type}{f:α→Prop}{d}:DZ none f d=d:=(rfl)
theorem Rr{α:Type}{o o':Option α}{f d}(h:o=o'):DZ o f d=DZ o' f d:=h▸rfl
attribute [congr] Rr
theorem HN{t a}:xQ P t (.v a) k=(tW P t=true∧k (.v (.iface t a))):=(rfl)
theorem AP{t d a}:tU P t (.v (.iface d a)) k=(tW P t=true∧if d=t then k (.tup [.v a,.v (.bool true)])else ∃z,Bq P t=some z∧k (.tup [z,.v (.bool false)])):=(rfl)
theorem DG{s t n i}:rN P s t (.v (.int n i)) k=DZ (yN P t) (fun m=>bN (yN P s) fun _=>k (.v (.int m (m.wrap i)))) (bN (yN P s) fun _=>dG P t=true∧(0≤i∧i<128)∧k (.v (.string (strOfNums [i])))):=by cases h1:yN P t <;> cases h2:yN P s <;> simp[rN,bN,DZ,h1,h2]
theorem DQ{s t x}:rN P s t (.v (.string x)) k=if dG P s∧dG P t then k (.v (.string x))else False:=(rfl)
theorem G9{s t es}:rN P s t (.sl es) k=if xM P s∧dG P t then bN (mK es) fun ns=>k (.v (.string (strOfNums ns)))else False:=by
 by_cases hc:xM P s∧dG P t
 ·cases h1:mK es <;> simp[rN,bN,hc,h1]
 ·simp[rN,hc]
theorem C9{t es n a m b}:jP P G t (.sl es) (some (.v (.int n a))) (some (.v (.int m b))) k=bN (cM P t) fun e=>(gt G→(0≤a∧a≤b∧b≤es.length)∧dF e.2.1 es)∧k (.sl ((es.take b.toNat).drop a.toNat)):=by cases h1:cM P t <;> simp[jP,bN,h1]
theorem FT{t es n a}:jP P G t (.sl es) (some (.v (.int n a))) none k=bN (cM P t) fun e=>(gt G→(0≤a∧a≤es.length)∧dF e.2.1 es)∧k (.sl (es.drop a.toNat)):=by cases h1:cM P t <;> simp[jP,bN,h1]
theorem IM{t es m b}:jP P G t (.sl es) none (some (.v (.int m b))) k=bN (cM P t) fun _=>(gt G→0≤b∧b≤es.length)∧k (.sl (es.take b.toNat)):=by cases h1:cM P t <;> simp[jP,bN,h1]
theorem Bg{t s n a m b}:jP P G t (.v (.string s)) (some (.v (.int n a))) (some (.v (.int m b))) k=if dG P t then(gt G→0≤a∧a≤b∧b≤s.size)∧k (.v (.string (s.extract a.toNat b.toNat)))else False:=(rfl)
theorem CW{t s n a}:jP P G t (.v (.string s)) (some (.v (.int n a))) none k=if dG P t then(gt G→0≤a∧a≤s.size)∧k (.v (.string (s.extract a.toNat s.size)))else False:=(rfl)
theorem DJ{t s m b}:jP P G t (.v (.string s)) none (some (.v (.int m b))) k=if dG P t then(gt G→0≤b∧b≤s.size)∧k (.v (.string (s.extract 0 b.toNat)))else False:=(rfl)
@[congr] theorem aclip3_c {P:Program} {H:aC} {t x x' a a' b b' m m'} (h:x=x') (h1:a=a') (h2:b=b') (h3:m=m'):xJ P G H t x a b m k=xJ P G H t x' a' b' m' k:=h▸h1▸h2▸h3▸rfl
@[congr] theorem aclip_c {P:Program} {t x x' a a' b b'} (h:x=x') (h1:a=a') (h2:b=b'):Dj P G t x a b k=Dj P G t x' a' b' k:=h▸h1▸h2▸rfl
theorem Dh{t s n i}:uU P G t (.v (.string s)) (.v (.int n i)) k=if dG P t then(gt G→0≤i∧i<s.size)∧k (.v (.int .u8 ((s.data.getD i.toNat 0).toNat:Int)))else False:=(rfl)
theorem BE{cs}{k:List AV→Prop}:iP (.agg cs) k=k cs:=(rfl)
theorem IN{v}{k:List AV→Prop}:iP (.v v) k=(v.oneCell'=true∧k [.v v]):=(rfl)
theorem Dk{es}{k:List AV→Prop}:iP (.sl es) k=k [.sl es]:=(rfl)
theorem Dn{cs o}{k:List AV→Prop}:iP (.rp cs o) k=k [.rp cs o]:=(rfl)
theorem DK{j}{k:List AV→Prop}:iP (.os j) k=k [.os j]:=(rfl)
theorem CT{j i f}{k:List AV→Prop}:iP (.op j i f) k=k [.op j i f]:=(rfl)
theorem CP{j a b}{k:List AV→Prop}:iP (.oz j a b) k=k [.oz j a b]:=(rfl)
theorem CN{j}{k:List AV→Prop}:iP (.om j) k=k [.om j]:=(rfl)
theorem DD{t l}:pX P t l k=bN (eC P t) fun z=>bN (eU P t) fun pl=>bN (mO pl z l) fun cs=>k (.agg cs):=by
 cases h1:eC P t with
 | none=>simp[pX,bN,h1]
 | some z=>cases h2:eU P t with
  | none=>simp[pX,bN,h1,h2]
  | some pl=>cases h3:mO pl z l <;> simp[pX,bN,h1,h2,h3]
def wgd(x:AV)(w:Bool)(F:Option Bool→Prop):Prop:=match x with
 | .v (.bool b)=>F (some (b == w))
 | .gd g (.v (.bool b))=>F (some (g&&(b == w)))
 | .gd false _=>F (some false)
 | _=>False
@[congr] theorem wgd_c {x x' w F} (h:x=x'):wgd x w F=wgd x' w F:=h▸rfl
theorem RH{b w F}:wgd (.v (.bool b)) w F=F (some (b == w)):=(rfl)
theorem RJ{g b w F}:wgd (.gd g (.v (.bool b))) w F=F (some (g&&(b == w))):=(rfl)
theorem RK{w F}:wgd (.gd false .any) w F=F (some false):=(rfl)
theorem zB{F}:bZ ops ρ none F=F none:=(rfl)
theorem zV{j w F}:bZ ops ρ (some (j,w)) F=bN ((ops[j]?).bind (·.dst)) fun t=>wgd (ρ t) w F:=by
 cases h1:(ops[j]?).bind (·.dst)with
 | none=>simp[bZ,bN,h1]
 | some t=>simp only[bZ,bN,h1,wgd]
def iT(K:Env→aC→Prop)(ρ:Env)(d:Option Tmp)(G:Option Bool)(H:aC)(x:AV):Prop:=K (upd ρ d (wr G x)) H
theorem DR{x}:iT K ρ d none H x=K (upd ρ d x) H:=(rfl)
theorem Du{b x}:iT K ρ d (some b) H x=K (upd ρ d (.gd b x)) H:=(rfl)
end
section
variable{P:Program}{C:jC}{PC:FuncId→List AV→aC→AV→Prop}{mt:Nat→Bool}{q:Bool}{ops:Array Oper}{d:Option Tmp}{ty:TypeId}{pos:String}{aft:Array Edge}{gd:Option (Nat×Bool)}{ρ:Env}{H:aC}{K:Env→aC→Prop}
theorem OR{x}:aop P C PC mt q ops ⟨d,.move x,ty,pos,aft,gd⟩ ρ H K=bZ ops ρ gd fun G=>if mP mt d=true then G=none∧q=false∧tM x ρ d H K else bJ G (aev ρ x) (iT K ρ d G H):=(rfl)
theorem Nu{c a b}:aop P C PC mt q ops ⟨d,.pick c a b,ty,pos,aft,gd⟩ ρ H K=bZ ops ρ gd fun G=>bJ G (aev ρ c) fun x=>IF G x (aev ρ a) (aev ρ b) (iT K ρ d G H):=(rfl)
theorem MJ{t l}: aop P C PC mt q ops ⟨d, .build t l, ty, pos, aft, gd⟩ ρ H K = bZ ops ρ gd fun G => if mP mt d = true then G = none ∧ (if q = true then lG none ρ l.toList (fun l => bN (eC P t) fun z => bN (eU P t) fun pl => bN (kT P t) fun nl => bN (mO pl (C4 nl z) l) fun cs => iT K ρ d none H (.agg cs)) else
   lG none ρ l.toList (fun l=>bN (eC P t) fun z=>bN (eU P t) fun pl=>bN (kT P t) fun nl=>iF nl z H fun z H=>bN (mO pl z l) fun cs=>iT K ρ d none H (.agg cs)))
  else lG G ρ l.toList fun l=>pX P t l (iT K ρ d G H):=by
 show bZ ops ρ gd (fun G=>if mP mt d=true then G=none∧(if q=true then tY P ⟨d,.build t l,ty,pos,aft,gd⟩ t l.toList ρ H K else wP P ⟨d,.build t l,ty,pos,aft,gd⟩ t l.toList ρ H K)else _)=_
 congr 1;funext G;congr 3
 ·unfold tY
  congr 1;funext l
  cases h1:eC P t with
  | none=>simp[bN]
  | some z=>cases h2:eU P t with
   | none=>simp[bN]
   | some pl=>cases h3:kT P t with
    | none=>simp[bN]
    | some nl=>simp only[bN];cases h4:mO pl (C4 nl z) l <;> rfl
 unfold wP
 congr 1;funext l
 cases h1:eC P t with
 | none=>simp[bN]
 | some z=>cases h2:eU P t with
  | none=>simp[bN]
  | some pl=>cases h3:kT P t with
   | none=>simp[bN]
   | some nl=>simp only[bN];congr 1;funext z H;cases h4:mO pl z l <;> rfl
theorem OH{t x}:aop P C PC mt q ops ⟨d,.load t x,ty,pos,aft,gd⟩ ρ H K=bZ ops ρ gd fun G=>if mP mt d=true then G=none∧q=false∧bN (ldT P t) fun l=>bJ none (aev ρ x) fun y=>kE none H l y fun z=>Dz z ρ d H K else bN (ldT P t) fun l=>bJ G (aev ρ x) fun y=>kE G H l y (iT K ρ d G H):=by
 show bZ ops ρ gd (fun G=>if mP mt d=true then G=none∧q=false∧fO P none ρ H (.load t x) fun z=>Dz z ρ d H K else fO P G ρ H (.load t x) (iT K ρ d G H))=_
 congr 1;funext G;cases h1:ldT P t <;> simp[fO,bN,h1]
theorem FD{x}:aop P C PC mt q ops ⟨d,.nilCheck x,ty,pos,aft,gd⟩ ρ H K=bZ ops ρ gd fun G=>bJ G (aev ρ x) fun y=>MD G y (iT K ρ d G H):=(rfl)
theorem Q0{op t x y t'}:aop P C PC mt q ops ⟨d,.binOp op t x y t',ty,pos,aft,gd⟩ ρ H K=bZ ops ρ gd fun G=>if nS y=true then bJ G (aev ρ x) fun x=>dY P t=true∧mM H op x (iT K ρ d G H)else if Ll y=true then bJ G (aev ρ x) fun x=>sK P t op x (iT K ρ d G H)else bJ G (aev ρ x) fun x=>bJ G (aev ρ y) fun y=>gQ P G op t x y (iT K ρ d G H):=(rfl)
theorem RY{op t x}:aop P C PC mt q ops ⟨d,.unOp op t x,ty,pos,aft,gd⟩ ρ H K=bZ ops ρ gd fun G=>bJ G (aev ρ x) fun x=>aun op x (iT K ρ d G H):=(rfl)
theorem Pq{t x}:aop P C PC mt q ops ⟨d,.makeInterface t x,ty,pos,aft,gd⟩ ρ H K=bZ ops ρ gd fun G=>bJ G (aev ρ x) fun x=>xQ P t x (iT K ρ d G H):=(rfl)
theorem Kd{x xt t}:aop P C PC mt q ops ⟨d,.typeAssert x xt t true,ty,pos,aft,gd⟩ ρ H K=bZ ops ρ gd fun G=>bJ G (aev ρ x) fun x=>tU P t x (iT K ρ d G H):=(rfl)
theorem Od{s t x}:aop P C PC mt q ops ⟨d,.convert s t x,ty,pos,aft,gd⟩ ρ H K=bZ ops ρ gd fun G=>bJ G (aev ρ x) fun x=>rN P s t x (iT K ρ d G H):=(rfl)
theorem E9{t x lo hi}:aop P C PC mt q ops ⟨d,.slice t x (some lo) (some hi) none,ty,pos,aft,gd⟩ ρ H K=bZ ops ρ gd fun G=>bJ G (aev ρ x) fun x=>bJ G (aev ρ lo) fun lo=>bJ G (aev ρ hi) fun hi=>asl P G H t x (some lo) (some hi) (iT K ρ d G H):=(rfl)
theorem Gt{t x hi m}:aop P C PC mt q ops ⟨d,.slice t x none (some hi) (some m),ty,pos,aft,gd⟩ ρ H K=bZ ops ρ gd fun G=>bJ G (aev ρ x) fun x=>bJ G (aev ρ hi) fun hi=>bJ G (aev ρ m) fun m=>Dj P G t x hi m (iT K ρ d G H):=(rfl)
theorem Fm{t x lo hi m}:aop P C PC mt q ops ⟨d,.slice t x (some lo) (some hi) (some m),ty,pos,aft,gd⟩ ρ H K=bZ ops ρ gd fun G=>bJ G (aev ρ x) fun x=>bJ G (aev ρ lo) fun lo=>bJ G (aev ρ hi) fun hi=>bJ G (aev ρ m) fun m=>xJ P G H t x lo hi m (iT K ρ d G H):=(rfl)
theorem Gl{t x lo}:aop P C PC mt q ops ⟨d,.slice t x (some lo) none none,ty,pos,aft,gd⟩ ρ H K=bZ ops ρ gd fun G=>bJ G (aev ρ x) fun x=>bJ G (aev ρ lo) fun lo=>asl P G H t x (some lo) none (iT K ρ d G H):=(rfl)
theorem Hz{t x hi}:aop P C PC mt q ops ⟨d,.slice t x none (some hi) none,ty,pos,aft,gd⟩ ρ H K=bZ ops ρ gd fun G=>bJ G (aev ρ x) fun x=>bJ G (aev ρ hi) fun hi=>asl P G H t x none (some hi) (iT K ρ d G H):=(rfl)
theorem CA{t x f}:aop P C PC mt q ops ⟨d,.fieldAddr t x f,ty,pos,aft,gd⟩ ρ H K=bZ ops ρ gd fun G=>bJ G (aev ρ x) fun x=>gN P t f x (iT K ρ d G H):=(rfl)
theorem Ck{t x i}:aop P C PC mt q ops ⟨d,.indexAddr t x i,ty,pos,aft,gd⟩ ρ H K=bZ ops ρ gd fun G=>bJ G (aev ρ x) fun x=>bJ G (aev ρ i) fun i=>eW P G H t x i (iT K ρ d G H):=(rfl)
theorem MV{t x i}:aop P C PC mt q ops ⟨d,.index t x i,ty,pos,aft,gd⟩ ρ H K=bZ ops ρ gd fun G=>bJ G (aev ρ x) fun x=>bJ G (aev ρ i) fun i=>uU P G t x i (iT K ρ d G H):=(rfl)
theorem IL{x i}:aop P C PC mt q ops ⟨d,.extract x i,ty,pos,aft,gd⟩ ρ H K=bZ ops ρ gd fun G=>bJ G (aev ρ x) fun x=>Qa G x i (iT K ρ d G H):=(rfl)
theorem I9{x}:aop P C PC mt q ops ⟨d,.assign x,ty,pos,aft,gd⟩ ρ H K=bZ ops ρ gd fun G=>if mP mt d=true∧G=none∧q=false∧nS x=true then bN (cM P ty) fun e=>kQ H ⟨e.1,e.2.1,[]⟩ (K3 K ρ d)else bJ G (aev ρ x) (iT K ρ d G H):=by
 show bZ ops ρ gd (fun G=>wM P mt q G ⟨d,.assign x,ty,pos,aft,gd⟩ x ρ H K)=_
 congr 1;funext G
 unfold wM;cases h1:cM P ty <;> rfl
theorem Mp{t}:aop P C PC mt q ops ⟨d,.alloc t,ty,pos,aft,gd⟩ ρ H K=bZ ops ρ gd fun G=>bN (eC P t) fun z=>G=none∧q=false∧(if mP mt d=true then bN (kT P t) fun nl=>iF nl z H fun z H=>kQ H ⟨t,z.length,[z]⟩ (KZ K ρ d)else kQ H ⟨t,z.length,[z]⟩ (KZ K ρ d)):=by
 show bZ ops ρ gd (fun G=>match eC P t with
   | some z => G = none ∧ q = false ∧ (if mP mt d = true then match kT P t with
       | some nl=>iF nl z H fun z H=>kQ H ⟨t,z.length,[z]⟩ fun k H'=>K (upd ρ d (.op k 0 0)) H'
       | none=>False
     else kQ H ⟨t,z.length,[z]⟩ fun k H'=>K (upd ρ d (.op k 0 0)) H')
   | none=>False)=_
 congr 1;funext G;cases h1:eC P t <;> cases h2:kT P t <;> rfl
theorem QO{t x}:aop P C PC mt q ops ⟨d,.box t x,ty,pos,aft,gd⟩ ρ H K=bZ ops ρ gd fun G=>G=none∧q=false∧bJ G (aev ρ x) fun x=>iP x fun cs=>if mP mt d=true then 0<cs.length∧kQ H ⟨t,cs.length,[cs]⟩ (KZ K ρ d)else K (upd ρ d (.rp cs 0)) H:=(rfl)
theorem BJ{t n l}:aop P C PC mt q ops ⟨d,.buildSlice t n l,ty,pos,aft,gd⟩ ρ H K=bZ ops ρ gd fun G=>q=false∧lG G ρ l.toList fun l=>bN (cM P t) fun e=>(l.map (·.1)=EG 0 n∧dF e.2.1 (l.map (·.2))∧n*e.2.1≤16777216)∧(if mP mt d=true∧G=none then kQ H ⟨e.1,e.2.1,l.map (·.2)⟩ (K3 K ρ d)else iT K ρ d G H (.sl (l.map (·.2)))):=by
 show bZ ops ρ gd (fun G=>q=false∧lG G ρ l.toList fun l'=>kG P mt G ⟨d,.buildSlice t n l,ty,pos,aft,gd⟩ t n l' ρ H K)=_
 congr 1;funext G;congr 2;funext l;unfold kG;cases h1:cM P t <;> rfl
theorem Nl{t x y}:aop P C PC mt q ops ⟨d,.store t x y,ty,pos,aft,gd⟩ ρ H K=bZ ops ρ gd fun G=>G=none∧q=false∧(if nS y=true then bJ G (aev ρ x) fun x=>bN (cM P t) fun e=>kQ H ⟨e.1,e.2.1,[]⟩ (fun j H=>Mv P d t x [.os j] ρ H K)else bJ G (aev ρ x) fun x=>bJ G (aev ρ y) fun y=>iP y fun cs=>Mv P d t x cs ρ H K):=by
 show bZ ops ρ gd (fun G => G = none ∧ q = false ∧ (if nS y = true then bJ G (aev ρ x) fun a => match cM P t with
       | some (e,sz,_)=>kQ H ⟨e,sz,[]⟩ fun k H=>oB P _ t a [.os k] ρ H K
       | none=>False
     else bJ G (aev ρ x) fun a=>bJ G (aev ρ y) fun x=>iP x fun cs=>oB P _ t a cs ρ H K))=_
 congr 1;funext G;congr 4;funext a
 cases h1:cM P t <;> rfl
theorem PY:sE P C PC mt ops K [] ρ H=K ρ H:=(rfl)
theorem SV{k f}:sE P C PC mt ops K ((k,true)::f) ρ H=bN ops[k]? fun o=>aop P C PC mt true ops o ρ (qH o H) fun ρ' _=>sE P C PC mt ops K f ρ' H:=by cases h:ops[k]? <;> simp[sE,bN,h]
theorem RQ{k f}:sE P C PC mt ops K ((k,false)::f) ρ H=bN ops[k]? fun o=>aop P C PC mt false ops o ρ H (sE P C PC mt ops K f):=by cases h:ops[k]? <;> simp[sE,bN,h]
theorem M9{Hp}:pL P C PC mt ops K Hp [] ρ H=K ρ H:=(rfl)
theorem QF{Hp k f}:pL P C PC mt ops K Hp ((k,true)::f) ρ H=bN ops[k]? fun o=>aop P C PC mt true ops o ρ Hp fun ρ' _=>pL P C PC mt ops K Hp f ρ' H:=by cases h:ops[k]? <;> simp[pL,bN,h]
theorem QU{Hp k f}:pL P C PC mt ops K Hp ((k,false)::f) ρ H=bN ops[k]? fun o=>aop P C PC mt false ops o ρ H (pL P C PC mt ops K Hp f):=by cases h:ops[k]? <;> simp[pL,bN,h]
theorem RV{k}:wC P C PC mt q ops k ρ H K=bN ops[k]? fun o=>aop P C PC mt q ops o ρ H K:=by cases h:ops[k]? <;> simp[wC,bN,h]
theorem Nm{Hp}:jM P C PC mt ops K Hp .nil ρ H=K ρ H:=(rfl)
theorem Qw{Hp k t}:jM P C PC mt ops K Hp (.q k t) ρ H=wC P C PC mt true ops k ρ Hp fun ρ' _=>jM P C PC mt ops K Hp t ρ' H:=(rfl)
theorem QQ{Hp k t}:jM P C PC mt ops K Hp (.a1 k t) ρ H=wC P C PC mt false ops k ρ H (jM P C PC mt ops K Hp t):=(rfl)
theorem ES{f cap}:aop P C PC mt q ops ⟨d,.makeFunc (.func f) #[] cap,ty,pos,aft,gd⟩ ρ H K=bZ ops ρ gd fun G=>uN G ρ cap.toList fun l=>iT K ρ d G H (.fn f l):=by
 show bZ ops ρ gd (fun G=>fO P G ρ H (.makeFunc (.func f) #[] cap) (iT K ρ d G H))=_
 congr 1;funext G;simp[fO]
def Ru(K:Env→aC→Prop)(ρ:Env)(d:Option Tmp)(j:Nat)(H:aC):Prop:=K (upd ρ d (.om j)) H
theorem HJ{j}:Ru K ρ d j H=K (upd ρ d (.om j)) H:=(rfl)
theorem Jo{t x i ok}:aop P C PC mt q ops ⟨d,.lookup t x i ok,ty,pos,aft,gd⟩ ρ H K=bZ ops ρ gd fun G=>bJ G (aev ρ x) fun x=>bJ G (aev ρ i) fun i=>oH P H t x i ok (iT K ρ d G H):=(rfl)
theorem GB{t}:aop P C PC mt q ops ⟨d,.makeMap t none,ty,pos,aft,gd⟩ ρ H K=bZ ops ρ gd fun G=>G=none∧q=false∧kQ H ⟨0,2,[]⟩ (Ru K ρ d):=(rfl)
def Da(P:Program)(d:Option Tmp)(t:TypeId)(m x v:AV)(ρ:Env)(H:aC)(K:Env→aC→Prop):Prop:=iY P ⟨d,.move (.tmp 0),0,"",#[],none⟩ t m x v ρ H K
@[congr] theorem wmapU_c {P d t m m' x x' v v' ρ H K} (h0:m=m') (h1:x=x') (h2:v=v'):Da P d t m x v ρ H K=Da P d t m' x' v' ρ H K:=h0▸h1▸h2▸rfl
def Ox(P:Program)(d:Option Tmp)(t:TypeId)(m x:AV)(ρ:Env)(H:aC)(K:Env→aC→Prop):Prop:=tK P ⟨d,.move (.tmp 0),0,"",#[],none⟩ t m x ρ H K
@[congr] theorem wmapE_c {P d t m m' x x' ρ H K} (h0:m=m') (h1:x=x'):Ox P d t m x ρ H K=Ox P d t m' x' ρ H K:=h0▸h1▸rfl
def NV(d:Option Tmp)(m s v:AV)(ρ:Env)(H:aC)(K:Env→aC→Prop):Prop:=oJ ⟨d,.move (.tmp 0),0,"",#[],none⟩ m s v ρ H K
@[congr] theorem wmapS_c {d m m' x x' v v' ρ H K} (h0:m=m') (h1:x=x') (h2:v=v'):NV d m x v ρ H K=NV d m' x' v' ρ H K:=h0▸h1▸h2▸rfl
@[congr] theorem alookup_c {P H t x x' i i' ok k} (h0:x=x') (h1:i=i'):oH P H t x i ok k=oH P H t x' i' ok k:=h0▸h1▸rfl
theorem Cp{t m x v}:aop P C PC mt q ops ⟨d,.mapUpdate t m x v,ty,pos,aft,gd⟩ ρ H K=bZ ops ρ gd fun G=>G=none∧q=false∧bJ G (aev ρ m) fun m=>bJ G (aev ρ x) fun x=>bJ G (aev ρ v) fun v=>Da P d t m x v ρ H K:=(rfl)
theorem JJ{t m x v}:aop P C PC mt q ops ⟨d,.insert t m x v,ty,pos,aft,gd⟩ ρ H K=bZ ops ρ gd fun G=>G=none∧q=false∧bJ G (aev ρ m) fun m=>bJ G (aev ρ x) fun x=>bJ G (aev ρ v) fun v=>Da P d t m x v ρ H K:=(rfl)
theorem Fw{t m x}:aop P C PC mt q ops ⟨d,.mapEntry t m x,ty,pos,aft,gd⟩ ρ H K=bZ ops ρ gd fun G=>G=none∧q=false∧bJ G (aev ρ m) fun m=>bJ G (aev ρ x) fun x=>Ox P d t m x ρ H K:=(rfl)
theorem By{t m s v}:aop P C PC mt q ops ⟨d,.entryStore t m s v,ty,pos,aft,gd⟩ ρ H K=bZ ops ρ gd fun G=>G=none∧q=false∧bJ G (aev ρ m) fun m=>bJ G (aev ρ s) fun s=>bJ G (aev ρ v) fun v=>NV d m s v ρ H K:=(rfl)
theorem CH{t j key ok k r kt oi z}(hj:H j=some r)(ht:FS P t=some kt)(hp:kM P kt.1 key=true)(hf:mN (jO P kt.1 key) r.es 0=some oi)(hz:Bq P kt.2=some z)(h:k (BB ok z r.es oi)):oH P H t (.om j) key ok k:=by unfold oH zH;simp only[hj,ht,hf,hz];exact⟨hp,h⟩
theorem LM{t j key v r kt oi}(hj:H j=some r)(ht:FS P t=some kt)(hp:kM P kt.1 key=true)(hf:mN (jO P kt.1 key) r.es 0=some oi)(h:K (upd ρ d .any) (bG H j (some { r with es:=Np r.es oi key v }))):Da P d t (.om j) key v ρ H K:=by unfold Da iY zH;simp only[hj,ht,hf];exact⟨hp,h⟩
theorem Cu{t l c}:aop P C PC mt q ops ⟨d,.makeSlice t l c,ty,pos,aft,gd⟩ ρ H K=bZ ops ρ gd fun G=>G=none∧q=false∧bJ G (aev ρ l) fun l=>bJ G (aev ρ c) fun c=>IZ P d t l c ρ H K:=(rfl)
theorem MR{t args tys}:aop P C PC mt q ops ⟨d,.call ⟨.value (.tmp t),args,tys⟩,ty,pos,aft,gd⟩ ρ H K=bZ ops ρ gd fun G=>bJ G (ρ t) fun x=>bN (Il x) fun y=>if mP mt d=true then gt G∧q=false∧aF P y.1=true∧C y.1 (y.2.1++args.toList.map (Fg ρ)++y.2.2) H (I4 K ρ d)else uN G ρ args.toList fun l=>aF P y.1=true∧(if G=none∧q=false then C y.1 (y.2.1++l++y.2.2) H (I4 K ρ d)else ∃r,(gt G→PC y.1 (y.2.1++l++y.2.2) H r)∧nfq q r (iT K ρ d G H)):=by
 show bZ ops ρ gd (fun G=>wK P C PC (mP mt d) q G ⟨d,.call ⟨.value (.tmp t),args,tys⟩,ty,pos,aft,gd⟩ ⟨.value (.tmp t),args,tys⟩ ρ H K)=_
 congr 1;funext G
 simp only[wK,aev]
 congr 1;funext x
 cases h:Il x with
 | none=>simp[bN]
 | some y=>obtain⟨a,b,c⟩:=y;rfl
theorem NX{f args tys}:aop P C PC mt q ops ⟨d,.call ⟨.value (.func f),args,tys⟩,ty,pos,aft,gd⟩ ρ H K=bZ ops ρ gd fun G=>if mP mt d=true then gt G∧q=false∧aF P f=true∧C f (args.toList.map (Fg ρ)) H (I4 K ρ d)else uN G ρ args.toList fun l=>aF P f=true∧(if G=none∧q=false then C f l H (I4 K ρ d)else ∃r,(gt G→PC f l H r)∧nfq q r (iT K ρ d G H)):=by
 show bZ ops ρ gd (fun G=>wK P C PC (mP mt d) q G ⟨d,.call ⟨.value (.func f),args,tys⟩,ty,pos,aft,gd⟩ ⟨.value (.func f),args,tys⟩ ρ H K)=_
 congr 1;funext G
 simp only[wK,aev,bJ,Il,List.map_nil,List.nil_append,List.append_nil];rfl
theorem HI{t}:Fg ρ (.tmp t)=ρ t:=(rfl)
theorem AQ{v}:Fg ρ (.const v)=.v v:=(rfl)
theorem Ec{f}:Fg ρ (.func f)=.v (.func (.func f) #[] #[]):=(rfl)
theorem QT{x t}:aop P C PC mt q ops ⟨d,.call ⟨.builtin .len,#[x],#[t]⟩,ty,pos,aft,gd⟩ ρ H K=bZ ops ρ gd fun G=>bJ G (aev ρ x) fun x=>Au P H t x (iT K ρ d G H):=(rfl)
theorem QY{x y t t'}:aop P C PC mt q ops ⟨d,.call ⟨.builtin .max,#[x,y],#[t,t']⟩,ty,pos,aft,gd⟩ ρ H K=bZ ops ρ gd fun G=>bJ G (aev ρ x) fun x=>bJ G (aev ρ y) fun y=>JE x y (iT K ρ d G H):=(rfl)
theorem Qg{x y t t'}:aop P C PC mt q ops ⟨d,.call ⟨.builtin .min,#[x,y],#[t,t']⟩,ty,pos,aft,gd⟩ ρ H K=bZ ops ρ gd fun G=>bJ G (aev ρ x) fun x=>bJ G (aev ρ y) fun y=>J5 x y (iT K ρ d G H):=(rfl)
theorem O0{n m a b}{k:AV→Prop}:JE (.v (.int n a)) (.v (.int m b)) k=k (.v (.int n (Sj a b))):=(rfl)
theorem Py{n m a b}{k:AV→Prop}:J5 (.v (.int n a)) (.v (.int m b)) k=k (.v (.int n (R0 a b))):=(rfl)
theorem NK{x y t t'}:aop P C PC mt q ops ⟨d,.call ⟨.builtin .copy,#[x,y],#[t,t']⟩,ty,pos,aft,gd⟩ ρ H K=bZ ops ρ gd fun G=>bJ G (aev ρ x) fun x=>bJ G (aev ρ y) fun y=>if G=none∧q=false then Ns P d t x y ρ H K else False:=(rfl)
theorem Mq{x t}:aop P C PC mt q ops ⟨d,.call ⟨.builtin .clear,#[x],#[t]⟩,ty,pos,aft,gd⟩ ρ H K=bZ ops ρ gd fun G=>bJ G (aev ρ x) fun x=>if G=none∧q=false then Je P d t x ρ H K else False:=(rfl)
theorem OX{G:Option Bool}{k:AV→Prop}{t es lo hi}:asl P G H t (.sl es) lo hi k=jP P G t (.sl es) lo hi k:=(rfl)
theorem RM{G:Option Bool}{k:AV→Prop}{t v lo hi}:asl P G H t (.v v) lo hi k=jP P G t (.v v) lo hi k:=(rfl)
theorem Gs{H:aC}{k:AV→Prop}{es}:mM H .eql (.sl es) k=((es=[]→k (.v (.bool true)))∧k (.v (.bool false))):=(rfl)
theorem FM{H:aC}{k:AV→Prop}{es}:mM H .neq (.sl es) k=((es=[]→k (.v (.bool false)))∧k (.v (.bool true))):=(rfl)
theorem DV{H:aC}{k:AV→Prop}{j}:mM H .eql (.os j) k=((BN H j→k (.v (.bool true)))∧k (.v (.bool false))):=(rfl)
theorem DO{H:aC}{k:AV→Prop}:mM H .eql (.v (.slice none 0 0)) k=k (.v (.bool true)):=(rfl)
theorem Gm{t}{k:AV→Prop}:sK P t .eql (.v .nilIface) k=(uE P t=true∧k (.v (.bool true))):=(rfl)
theorem GO{t}{k:AV→Prop}:sK P t .neq (.v .nilIface) k=(uE P t=true∧k (.v (.bool false))):=(rfl)
theorem HZ{t u v}{k:AV→Prop}:sK P t .neq (.v (.iface u v)) k=(uE P t=true∧k (.v (.bool true))):=(rfl)
theorem CL{H:aC}{k:AV→Prop}:mM H .neq (.v (.slice none 0 0)) k=k (.v (.bool false)):=(rfl)
theorem Ea{H:aC}{k:AV→Prop}{j}:mM H .neq (.os j) k=((BN H j→k (.v (.bool false)))∧k (.v (.bool true))):=(rfl)
theorem Ja{s x t t'}:aop P C PC mt q ops ⟨d,.call ⟨.builtin .append,#[s,x],#[t,t']⟩,ty,pos,aft,gd⟩ ρ H K=bZ ops ρ gd fun G=>bJ G (aev ρ s) fun s=>bJ G (aev ρ x) fun x=>if t=t'∧G=none∧q=false then KK P d t s x ρ H K else if G=none∧q=false then Pf P d t t' s x ρ H K else False:=(rfl)
end
section
variable{P:Program}{d:Option Tmp}{ρ:Env}{H:aC}{K:Env→aC→Prop}
theorem LQ{t n a m b}:IZ P d t (.v (.int n a)) (.v (.int m b)) ρ H K=bN (cM P t) fun e=>bN (eC P e.1) fun z=>((0≤a∧a≤b)∧(e.2.2:Int)*b≤140737488355328)∧kQ H ⟨e.1,e.2.1,List.replicate a.toNat z⟩ (K3 K ρ d):=by
 unfold IZ nK;cases h1:cM P t with
 | none=>simp[bN]
 | some e=>obtain⟨x,y,z⟩:=e;cases h2:eC P x <;> simp[bN,h2] <;> intros <;> rfl
theorem RW{f first captured}:Il (.v (.func (.func f) first captured))=some (f,first.toList.map .v,captured.toList.map .v):=(rfl)
theorem RA{q x}{k:AV→Prop}:nfq q (.v x) k=k (.v x):=by cases q <;> rfl
theorem PQ{x}{k:AV→Prop}:nfq false (.nf x) k=k x:=(rfl)
theorem Qr{f l}:Il (.fn f l)=some (f,[],l):=(rfl)
end
attribute [go_sem ↓] DM C0 BX
attribute [go_sem] DM C0 BX
@[congr] theorem asl_c {P G H t x x' lo lo' hi hi' k} (h:x=x') (h1:lo=lo') (h2:hi=hi'):asl P G H t x lo hi k=asl P G H t x' lo' hi' k:=h▸h1▸h2▸rfl
@[congr] theorem aifNil_c {Q:Program} {t:TypeId} {op x x' k} (h:x=x'):sK Q t op x k=sK Q t op x' k:=h▸rfl
@[congr] theorem aeqNil_c {H:aC} {op x x' k} (h:x=x'):mM H op x k=mM H op x' k:=h▸rfl
theorem EI{α:Type}{a:α}{l r:List α}:List.append (a::l) r=a::List.append l r:=(rfl)
theorem I7{α:Type}{r:List α}:List.append [] r=r:=(rfl)
attribute [go_sem] EI I7
attribute [go_sem] qH
@[congr] theorem amax_c {x x' y y' K} (h:x=x') (h':y=y'):JE x y K=JE x' y' K:=h▸h'▸rfl
@[congr] theorem amin_c {x x' y y' K} (h:x=x') (h':y=y'):J5 x y K=J5 x' y' K:=h▸h'▸rfl
attribute [go_sem ↓] QY Qg O0 Py
attribute [go_sem] O0 Py
@[congr] theorem pinEnd_c {l l' H K ρ H'} (h:l=l'):oQ l H K ρ H'=oQ l' H K ρ H':=h▸rfl
attribute [go_sem] C4 List.set_cons_zero List.set_cons_succ
attribute [go_sem ↓] Nm Qw QQ RV
attribute [go_sem ↓] M9 QF QU
attribute [go_sem ↓] PY SV RQ NK Mq OX RM Gs FM DV Ea DO CL Gm GO HZ
attribute [go_sem ↓] Lu
attribute [go_sem] Lu
attribute [go_sem] OX RM Gs FM DV Ea DO CL Gm GO HZ
attribute [go_sem ↓] RA PQ
attribute [go_sem ↓] Jo GB Cp JJ Fw By LG HJ
attribute [go_sem] LG HJ
attribute [go_sem] RA PQ
attribute [go_sem ↓] Fm ES Cu MR LQ FU KU LY La LZ Gt
attribute [go_sem] LQ FU KU LY La LZ RW Qr
attribute [go_sem] L7 RO
@[congr] theorem ownNils_c {l l' z z' H K} (h:l=l') (h':z=z'):iF l z H K=iF l' z' H K:=h▸h'▸rfl
theorem Gn{z H K}:iF [] z H K=K z H:=(rfl)
theorem Fs{o e sz r z H K}:iF ((o,e,sz)::r) z H K=kQ H ⟨e,sz,[]⟩ fun k H'=>iF r (z.set o (.os k)) H' K:=(rfl)
attribute [go_sem ↓] Gn Fs
attribute [go_sem ↓] N7 BM Hl KW HA Db DS MT I0 PO QX NO M2 JD Ny Qt JW Ma GK MY
attribute [go_sem ↓] uN lG Pq Kd OR Nu MJ OH FD Q0 RY Od E9 Gl Hz CA Ck MV IL I9 Mp QO BJ Nl NX QT Ja
attribute [go_sem ↓] HN AP Ed Lb Lw LP FP Lq Iy Hn GL Ga Iz Ia FL IU I8 HG IS El DL Df Dv D9 DE GJ IB It LO L1 Dx C3 Dd C5 Lh LB L8 KV K9 uM uQ uJ uO uL uI K8 LH DG AK AA DQ G9 C9 FT IM Bg CW DJ Dh BE IN Dk Dn DK CT CP CN DD RH RJ RK zB zV N9 IJ KY KT Iv Ig L2 LU K6 BA DR Du Gq Hy Gx Lc Eb F8 HI AQ Ec
attribute [go_sem] Jh HN AP Ed Lb Lw LP FP Lq Iy Hn GL Ga Iz Ia FL IU I8 HG IS El DL Df Dv D9 DE GJ IB It LO L1 Dx C3 Dd C5 Lh LB L8 KV K9 uM uQ uJ uO uL uI K8 LH DG AK AA DQ G9 C9 FT IM Bg CW DJ Dh BE IN Dk Dn DK CT CP CN DD RH RJ RK zB zV N9 IJ KY KT Iv Ig L2 LU K6 BA DR Du Gq Hy Gx Lc Eb F8 HI AQ Ec
attribute [go_sem] Sl O4 mP nS Ll lU uY gt gok wr kA cZ rW Value.oneCell' EG dF mK Option.map_some mO oO aD
attribute [go_sem] Bool.false_eq_true if_false if_true reduceCtorEq true_and and_true false_and and_false false_implies true_implies implies_true forall_const and_self imp_self ne_eq not_true_eq_false not_false_eq_true
attribute [go_sem] List.getD_cons_zero List.getD_cons_succ List.getD_nil List.length_cons List.length_nil List.drop_zero List.drop_succ_cons List.take_succ_cons List.take_zero Option.getD_some Option.getD_none Nat.zero_add Nat.add_zero List.map_cons List.map_nil List.cons_append List.nil_append List.append_nil
attribute [go_sem] Option.bind_some List.getElem?_toArray List.getElem?_cons_zero List.getElem?_cons_succ
attribute [go_sem ↓] reduceIte
attribute [go_sem] Nat.reduceEqDiff Nat.reduceAdd Nat.reduceMul Nat.reduceSub Nat.reduceLT Nat.reduceLeDiff Nat.reduceBEq
end Go.Aw
end
section
namespace Go.Aw
open Go.RowKit
structure Sg where
 ro:Nat→Prop
 fz:Nat→Prop
 loc:Nat→Value
 sz:Nat→Nat
 N:Nat
mutual
def rep(S:Sg)(w:World):AV→Value→Prop
 | .v x,y=>y=x
 | .any,_=>True
 | .sl es,y=>∃ad n c,y=.slice ad n c∧es.length=n∧n≤c∧c≤maxLen∧(es=[]∨∃b o sz,ad=some ⟨b,o,none⟩∧S.ro b∧0<sz∧fV S w b sz o es)
 | .rp cs off,y=>∃b o,y=.pointer (some ⟨b,o+off,none⟩)∧S.ro b∧cR S w b o cs
 | .agg cs,y=>∃l:List Value,y=.agg l.toArray∧aV S w cs l∧∀u∈l,u.oneCell'=true
 | .tup vs,y=>∃l:List Value,y=.tuple l.toArray∧aV S w vs l
 | .os k,y=>k<S.N∧y=S.loc k∧∃a n c,y=.slice a n c
 | .op k i f,y=>k<S.N∧∃g n c,S.loc k=.slice (some ⟨g,0,none⟩) n c∧y=.pointer (some ⟨g,i*S.sz k+f,none⟩)
 | .gd g x,y=>(g=true→rep S w x y)∧(g=false→y=undef)
 | .nf x,y=>rep S w x y
 | .fn f cap,y=>∃l:List Value,y=.func (.func f) #[] l.toArray∧aV S w cap l
 | .om k,y=>k<S.N∧y=S.loc k∧∃g,y=.map (some g)
 | .cl es,y=>∃ad n,y=.slice ad n n∧es.length=n∧n≤maxLen∧(es=[]∨∃b o sz,ad=some ⟨b,o,none⟩∧S.ro b∧0<sz∧fV S w b sz o es)
 | .oz k a b,y=>k<S.N∧∃ad n c ad' cc,S.loc k=.slice ad n c∧y=.slice ad' (b-a) cc∧a≤b∧b≤n∧(0<cc→∃g,ad=some ⟨g,0,none⟩∧ad'=some ⟨g,a*S.sz k,none⟩)∧(a=0→ad'=ad)∧n≤c∧b-a≤cc∧cc≤c-a
def aV(S:Sg)(w:World):List AV→List Value→Prop
 | [],l=>l=[]
 | x::r,l=>∃u t,l=u::t∧rep S w x u∧aV S w r t
def cR(S:Sg)(w:World)(b:Nat):Nat→List AV→Prop
 | _,[]=>True
 | o,x::r=>(∃u,w.cell? ⟨b,o,none⟩=some u∧u.oneCell'=true∧rep S w x u)∧cR S w b (o+1) r
def fV(S:Sg)(w:World)(b sz:Nat):Nat→List (List AV)→Prop
 | _,[]=>True
 | o,cs::r=>cs.length=sz∧cR S w b o cs∧fV S w b sz (o+sz) r
end
structure Sg.le(S S':Sg):Prop where
 ro:∀k,S.ro k→S'.ro k
 N:S.N≤S'.N
 loc:∀k,k<S.N→S'.loc k=S.loc k
 sz:∀k,k<S.N→S'.sz k=S.sz k
theorem Sg.le_refl(S:Sg):S.le S:=⟨fun _ h=>h,Nat.le_refl _,fun _ _=>rfl,fun _ _=>rfl⟩
theorem Sg.le_trans{S S' S'':Sg}(h:S.le S')(h':S'.le S''):S.le S'':=
 ⟨fun k hk=>h'.ro k (h.ro k hk),Nat.le_trans h.N h'.N,fun k hk=>(h'.loc k (Nat.lt_of_lt_of_le hk h.N)).trans (h.loc k hk),
  fun k hk=>(h'.sz k (Nat.lt_of_lt_of_le hk h.N)).trans (h.sz k hk)⟩
def blk:Value→Option Nat
 | .slice (some a) _ _=>some a.block
 | .map (some g)=>some g
 | _=>none
def fI(S:Sg)(w w':World):Prop:=∀k,S.ro k→w'.heap[k]?=w.heap[k]?
theorem fI.refl(S:Sg)(w:World):fI S w w:=fun _ _=>rfl
section
variable{S S':Sg}{w w':World}
theorem fI.cell(h:fI S w w'){b o:Nat}(hb:S.ro b):w'.cell? ⟨b,o,none⟩=w.cell? ⟨b,o,none⟩:=World.cell?_of_block (a:=⟨b,o,none⟩) (h b hb)
mutual
theorem gB(hS:S.le S')(hw:fI S w w'):∀(x:AV) (y:Value),rep S w x y→rep S' w' x y
 | .v _,_,h=>h
 | .any,_,_=>trivial
 | .sl es,y,h=>by
  simp only[rep]at h ⊢;obtain⟨ad,n,c,rfl,h1,h2,h3,h4⟩:=h;refine⟨ad,n,c,rfl,h1,h2,h3,?_⟩;rcases h4 with h4|⟨b,o,sz,rfl,hb,hs,he⟩
  ·exact .inl h4
  ·exact .inr ⟨b,o,sz,rfl,hS.ro b hb,hs,vK hS hw hb sz o es he⟩
 | .rp cs off,y,h=>by simp only[rep]at h ⊢;obtain⟨b,o,rfl,hb,hc⟩:=h;exact⟨b,o,rfl,hS.ro b hb,rK hS hw hb o cs hc⟩
 | .agg cs,y,h=>by simp only[rep]at h ⊢;obtain⟨l,rfl,hl,h1⟩:=h;exact⟨l,rfl,dN hS hw cs l hl,h1⟩
 | .tup vs,y,h=>by simp only[rep]at h ⊢;obtain⟨l,rfl,hl⟩:=h;exact⟨l,rfl,dN hS hw vs l hl⟩
 | .os k,y,h=>by simp only[rep]at h ⊢;exact⟨Nat.lt_of_lt_of_le h.1 hS.N,by rw[hS.loc k h.1];exact h.2⟩
 | .op k i f,y,h=>by simp only[rep]at h ⊢;refine⟨Nat.lt_of_lt_of_le h.1 hS.N,?_⟩;rw[hS.loc k h.1,hS.sz k h.1];exact h.2
 | .gd g x,y,h=>by simp only[rep]at h ⊢;exact⟨fun hg=>gB hS hw x y (h.1 hg),h.2⟩
 | .nf x,y,h=>by simp only[rep]at h ⊢;exact gB hS hw x y h
 | .fn f cap,y,h=>by simp only[rep]at h ⊢;obtain⟨l,rfl,hl⟩:=h;exact⟨l,rfl,dN hS hw cap l hl⟩
 | .om k,y,h=>by simp only[rep]at h ⊢;exact⟨Nat.lt_of_lt_of_le h.1 hS.N,by rw[hS.loc k h.1];exact h.2⟩
 | .oz k a b,y,h=>by simp only[rep]at h ⊢;refine⟨Nat.lt_of_lt_of_le h.1 hS.N,?_⟩;rw[hS.loc k h.1,hS.sz k h.1];exact h.2
 | .cl es,y,h=>by
  simp only[rep]at h ⊢;obtain⟨ad,n,rfl,h1,h3,h4⟩:=h;refine⟨ad,n,rfl,h1,h3,?_⟩;rcases h4 with h4|⟨b,o,sz,rfl,hb,hs,he⟩
  ·exact .inl h4
  ·exact .inr ⟨b,o,sz,rfl,hS.ro b hb,hs,vK hS hw hb sz o es he⟩
theorem dN(hS:S.le S')(hw:fI S w w'):∀(x:List AV) (l:List Value),aV S w x l→aV S' w' x l
 | [],_,h=>h
 | x::r,l,h=>by simp only[aV]at h ⊢;obtain⟨u,t,rfl,h1,h2⟩:=h;exact⟨u,t,rfl,gB hS hw x u h1,dN hS hw r t h2⟩
theorem rK(hS:S.le S')(hw:fI S w w'){b:Nat}(hb:S.ro b):∀(o:Nat) (x:List AV),cR S w b o x→cR S' w' b o x
 | _,[],_=>trivial
 | o,x::r,h=>by simp only[cR]at h ⊢;obtain⟨⟨u,h1,h2,h3⟩,h4⟩:=h;exact⟨⟨u,by rw[hw.cell hb];exact h1,h2,gB hS hw x u h3⟩,rK hS hw hb (o+1) r h4⟩
theorem vK(hS:S.le S')(hw:fI S w w'){b:Nat}(hb:S.ro b)(sz:Nat):∀(o:Nat) (x:List (List AV)),fV S w b sz o x→fV S' w' b sz o x
 | _,[],_=>trivial
 | o,x::r,h=>by simp only[fV]at h ⊢;exact⟨h.1,rK hS hw hb o x h.2.1,vK hS hw hb sz (o+sz) r h.2.2⟩
end
theorem sP:∀(cs:List AV) (o j:Nat) {b:Nat},cR S w b o cs→j<cs.length→∃u,w.cell? ⟨b,o+j,none⟩=some u∧u.oneCell'=true∧rep S w (cs.getD j .any) u
 | [],_,_,_,_,h=>by simp at h
 | x::r,o,0,b,h,_=>by simp only[cR]at h;simpa using h.1
 | x::r,o,j+1,b,h,hj=>by simp only[cR]at h;have:=sP r (o+1) j h.2 (by simpa using hj);rw[show o+1+j=o+(j+1)by omega]at this;simpa using this
theorem rH:∀(cs:List AV) (o j:Nat) {b:Nat},cR S w b o cs→cR S w b (o+j) (cs.drop j)
 | [],_,_,_,_=>by simp[cR]
 | x::r,o,0,b,h=>by simpa using h
 | x::r,o,j+1,b,h=>by simp only[cR]at h;have:=rH r (o+1) j h.2;rw[show o+1+j=o+(j+1)by omega]at this;simpa using this
theorem qR:∀(cs:List AV) (o j:Nat) {b:Nat},cR S w b o cs→cR S w b o (cs.take j)
 | [],_,_,_,_=>by simp[cR]
 | x::r,o,0,b,h=>by simp[cR]
 | x::r,o,j+1,b,h=>by simp only[cR,List.take_succ_cons]at h ⊢;exact⟨h.1,qR r (o+1) j h.2⟩
theorem jG:∀(cs:List AV) (o:Nat) {b:Nat},cR S w b o cs→∃l:List Value,l.length=cs.length∧aV S w cs l∧(∀u∈l,u.oneCell'=true)∧∀j u,l[j]?=some u→w.cell? ⟨b,o+j,none⟩=some u
 | [],_,_,_=>⟨[],rfl,by simp[aV],by simp,by simp⟩
 | x::r,o,b,h=>by
  simp only[cR]at h;obtain⟨⟨u,h1,h2,h3⟩,h4⟩:=h;obtain⟨l,e1,e2,e3,e4⟩:=jG r (o+1) h4;refine⟨u::l,by simp[e1],?_,?_,?_⟩
  ·simp only[aV];exact⟨u,l,rfl,h3,e2⟩
  ·intro v hv;rcases List.mem_cons.1 hv with rfl|hv
   ·exact h2
   ·exact e3 v hv
  ·intro j v hv;cases j with
   | zero=>simp at hv;subst hv;simpa using h1
   | succ j=>rw[show o+(j+1)=o+1+j by omega];exact e4 j v (by simpa using hv)
theorem mW:∀(es:List (List AV)) (o i:Nat) {b sz:Nat},fV S w b sz o es→i<es.length→(es.getD i []).length=sz∧cR S w b (o+i*sz) (es.getD i [])
 | [],_,_,_,_,_,h=>by simp at h
 | x::r,o,0,b,sz,h,_=>by simp only[fV]at h;simpa using⟨h.1,h.2.1⟩
 | x::r,o,i+1,b,sz,h,hi=>by simp only[fV]at h;have:=mW r (o+sz) i h.2.2 (by simpa using hi);rw[show o+sz+i*sz=o+(i+1)*sz by rw[Nat.add_mul];omega]at this;simpa using this
theorem vF:∀(es:List (List AV)) (o i:Nat) {b sz:Nat},fV S w b sz o es→fV S w b sz (o+i*sz) (es.drop i)
 | [],_,_,_,_,_=>by simp[fV]
 | x::r,o,0,b,sz,h=>by simpa using h
 | x::r,o,i+1,b,sz,h=>by simp only[fV]at h;have:=vF r (o+sz) i h.2.2;rw[show o+sz+i*sz=o+(i+1)*sz by rw[Nat.add_mul];omega]at this;simpa using this
theorem rD:∀(es:List (List AV)) (o i:Nat) {b sz:Nat},fV S w b sz o es→fV S w b sz o (es.take i)
 | [],_,_,_,_,_=>by simp[fV]
 | x::r,o,0,b,sz,h=>by simp[fV]
 | x::r,o,i+1,b,sz,h=>by simp only[fV,List.take_succ_cons]at h ⊢;exact⟨h.1,h.2.1,rD r _ i h.2.2⟩
theorem nV:∀(xs ys:List AV) (o:Nat) {b:Nat},cR S w b o (xs++ys)↔cR S w b o xs∧cR S w b (o+xs.length) ys
 | [],ys,o,b=>by simp[cR]
 | x::r,ys,o,b=>by simp only[List.cons_append,cR,nV r ys (o+1),List.length_cons,show o+1+r.length=o+(r.length+1)by omega,and_assoc]
theorem qW:∀(es:List (List AV)) (o:Nat) {b sz:Nat},fV S w b sz o es→cR S w b o es.flatten
 | [],_,_,_,_=>by simp[cR]
 | x::r,o,b,sz,h=>by simp only[fV]at h;rw[List.flatten_cons,nV];refine⟨h.2.1,?_⟩;rw[h.1];exact qW r _ h.2.2
theorem lR:∀(es:List (List AV)) (o:Nat) {b sz:Nat},(∀cs∈es,cs.length=sz)→cR S w b o es.flatten→fV S w b sz o es
 | [],_,_,_,_,_=>by simp[fV]
 | x::r,o,b,sz,hl,h=>by rw[List.flatten_cons,nV]at h;have hx:=hl x (by simp);rw[hx]at h;simp only[fV];exact⟨hx,h.1,lR r _ (fun cs hc=>hl cs (by simp[hc])) h.2⟩
theorem gZ:∀(es:List (List AV)) {sz:Nat},(∀cs∈es,cs.length=sz)→es.flatten.length=es.length*sz
 | [],_,_=>by simp
 | x::r,sz,hl=>by rw[List.flatten_cons,List.length_append,hl x (by simp),gZ r (fun cs hc=>hl cs (by simp[hc])),List.length_cons,Nat.add_mul];omega
theorem eL:∀(x:List AV) (l:List Value),aV S w x l→l.length=x.length
 | [],l,h=>by simp only[aV]at h;simp[h]
 | x::r,l,h=>by simp only[aV]at h;obtain⟨u,t,rfl,_,h2⟩:=h;simp[eL r t h2]
theorem sZ:∀(x:List AV) (l:List Value) (j:Nat),aV S w x l→j<x.length→∃u,l[j]?=some u∧rep S w (x.getD j .any) u
 | [],_,_,_,h=>by simp at h
 | x::r,l,j,h,hj=>by
  simp only[aV]at h;obtain⟨u,t,rfl,h1,h2⟩:=h;cases j with
  | zero=>exact⟨u,by simp,by simpa using h1⟩
  | succ j=>obtain⟨v,hv,hr⟩:=sZ r t j h2 (by simpa using hj);exact⟨v,by simpa using hv,by simpa using hr⟩
theorem dA:∀(x y:List AV) (l m:List Value),aV S w x l→aV S w y m→aV S w (x++y) (l++m)
 | [],y,l,m,h,h'=>by simp only[aV]at h;subst h;simpa using h'
 | x::r,y,l,m,h,h'=>by simp only[aV]at h;obtain⟨u,t,rfl,h1,h2⟩:=h;simp only[List.cons_append,aV];exact⟨u,t++m,rfl,h1,dA r y t m h2 h'⟩
theorem nG:∀(x:List AV) (l:List Value) (j:Nat),aV S w x l→aV S w (x.drop j) (l.drop j)
 | [],l,j,h=>by simp only[aV]at h;subst h;simp[aV]
 | x::r,l,j,h=>by
  cases j with
  | zero=>simpa using h
  | succ j=>simp only[aV]at h;obtain⟨u,t,rfl,_,h2⟩:=h;simpa using nG r t j h2
theorem nC:∀(x:List AV) (l:List Value) (j:Nat),aV S w x l→aV S w (x.take j) (l.take j)
 | [],l,j,h=>by simp only[aV]at h;subst h;simp[aV]
 | x::r,l,j,h=>by
  cases j with
  | zero=>simp[aV]
  | succ j=>simp only[aV]at h;obtain⟨u,t,rfl,h1,h2⟩:=h;simp only[List.take_succ_cons,aV];exact⟨u,t.take j,rfl,h1,nC r t j h2⟩
theorem iK:∀(x:List AV) (l:List Value) (o:Nat) {b:Nat},aV S w x l→(∀u∈l,u.oneCell'=true)→(∀j u,l[j]?=some u→w.cell? ⟨b,o+j,none⟩=some u)→cR S w b o x
 | [],_,_,_,_,_,_=>by simp[cR]
 | x::r,l,o,b,h,h1,hc=>by simp only[aV]at h;obtain⟨u,t,rfl,hu,ht⟩:=h;simp only[cR];refine⟨⟨u,by simpa using hc 0 u (by simp),h1 u (by simp),hu⟩,iK r t (o+1) ht (fun v hv=>h1 v (by simp[hv])) fun j v hv=>?_⟩;rw[show o+1+j=o+(j+1)by omega];exact hc (j+1) v (by simpa using hv)
end
end Go.Aw
end
section
namespace Go.Aw
open Go.RowKit
def hO(S:Sg)(w:World):Nat→List (List AV)→List MapEntry→Prop
 | _,[],ms=>ms=[]
 | i,cs::r,ms=>∃m t,ms=m::t∧m.born=i∧aV S w cs [m.key,m.val]∧hO S w (i+1) r t
def EP(S:Sg)(w:World)(k:Nat)(r:Row):Prop:=∃xs,w.ownsRow 0 r.e r.sz (S.loc k) r.es.length xs∧aV S w r.es.flatten xs∧∀u∈xs,u.oneCell'=true
def NF(S:Sg)(w:World)(k:Nat)(r:Row):Prop:=∃g ms,S.loc k=.map (some g)∧w.heap[g]?=some (.map (List.toArray ms) ms.length)∧hO S w 0 r.es ms∧r.sz=2
theorem OG(a:Option Addr)(n c:Nat):blk (.slice a n c)=(Value.slice a n c).ownBlock:=by cases a <;> rfl
structure RowOK(S:Sg)(w:World)(k:Nat)(r:Row):Prop where
 lt:k<S.N
 sz:r.sz=S.sz k
 pos:0<r.sz
 len:∀cs∈r.es,cs.length=r.sz
 own:EP S w k r∨NF S w k r
def pC(S:Sg)(w:World)(H:aC):Prop:=∀k r,H k=some r→RowOK S w k r
theorem RowOK.sl{S:Sg}{w:World}{k:Nat}{r:Row}(h:RowOK S w k r){a:Option Addr}{n c:Nat}(hs:S.loc k=.slice a n c):EP S w k r:=by
 rcases h.own with h1|⟨g,ms,h1,_⟩
 ·exact h1
 ·rw[hs]at h1;cases h1
theorem RowOK.mp{S:Sg}{w:World}{k:Nat}{r:Row}(h:RowOK S w k r){g:Nat}(hs:S.loc k=.map (some g)):NF S w k r:=by
 rcases h.own with⟨xs,ho,_⟩|h1
 ·rcases ho.2 with⟨hv,_⟩|⟨_,_,_,hv,_⟩ <;> (rw[hs]at hv;cases hv)
 ·exact h1
structure Agree(S:Sg)(H:aC)(w w':World):Prop where
 kept:fI S w w'
 own:∀k r,H k=some r→∀g,blk (S.loc k)=some g→w'.heap[g]?=w.heap[g]?
theorem Agree.refl(S:Sg)(H:aC)(w:World):Agree S H w w:=⟨fI.refl S w,fun _ _ _ _ _=>rfl⟩
def oW(P:Program)(S:Sg)(H:aC)(w:World)(z:AV)(e:Sem Value):Prop:=
 ∃v,rep S w z v∧∀w',Agree S H w w'→e.run P w'=.ok v w'
section
variable{P:Program}{S:Sg}{H:aC}{w:World}{G:Option Bool}{K:AV→Prop}
theorem gW{x:Value}:rep S w (.v x) x:=by simp only[rep]
theorem pK{t:TypeId}{l:Option Nat}(h:ldT P t=some l):∃d,P.underlying t=some d ∧
  match l with
  | none=>(∀fs,d≠.struct fs)∧∀n e,d≠.array n e
  | some n=>((∃fs,d=.struct fs)∨∃m e,d=.array m e)∧∃i,P.info? t=some i∧i.size=n:=by
 unfold ldT at h;cases hu:P.underlying t with
 | none=>rw[hu]at h;simp at h
 | some d=>
  refine⟨d,rfl,?_⟩;rw[hu]at h;cases hi:P.info? t with
  | none=>rw[hi]at h;cases d <;> simp at h
  | some i=>rw[hi]at h;cases d <;> simp at h <;> subst h <;> simp
theorem mS{t:TypeId}{l:Option Nat}(h:ldT P t=some l)(w:World):(isAgg t).run P w=.ok l.isSome w:=by
 obtain⟨d,hu,hd⟩:=pK h;cases l with
 | none=>obtain⟨h1,h2⟩:=hd;simp only[isAgg,Sem.run_bind,run_underlying hu,Result.andThen];cases d <;> simp_all
 | some n=>obtain⟨h1,_⟩:=hd;simp only[isAgg,Sem.run_bind,run_underlying hu,Result.andThen];rcases h1 with⟨fs,rfl⟩|⟨m,e,rfl⟩ <;> simp
theorem oP{t:TypeId}{n:Nat}(h:ldT P t=some (some n))(w:World):(sizeOf t).run P w=.ok n w:=by obtain⟨d,hu,hd⟩:=pK h;obtain⟨_,i,hi,rfl⟩:=hd;simp[sizeOf,typeInfo,hi]
theorem rT{t:TypeId}(h:ldT P t=some none){a:Addr}{v:Value}(hc:w.cell? a=some v):(loadVar t a).run P w=.ok v w:=by simp[loadVar,mS h,hc]
theorem pU{t:TypeId}{l:List Value}(h:ldT P t=some (some l.length)){b o:Nat}(hc:∀j v,l[j]?=some v→w.cell? ⟨b,o+j,none⟩=some v):
  (loadVar t ⟨b,o,none⟩).run P w=.ok (.agg l.toArray) w:=by
 have:=run_loadCells_list (P:=P) w ⟨b,o,none⟩ l (fun j v hj=>by rw[Addr.add_lit];exact hc j v hj);simp[loadVar,mS h,oP h,this]
theorem RowOK.cells{k:Nat}{r:Row}(h:RowOK S w k r){a0:Option Addr}{n0 c0:Nat}(hs:S.loc k=.slice a0 n0 c0)(hne:r.es≠[]):∃g n c,S.loc k=.slice (some ⟨g,0,none⟩) n c∧cR S w g 0 r.es.flatten∧n=r.es.length:=by
 obtain⟨xs,ho,hr,h1⟩:=h.sl hs;rcases ho.2 with⟨_,hn⟩|⟨g,cap,cur,hv,_⟩
 ·exact absurd (List.eq_nil_of_length_eq_zero hn) hne
 ·refine⟨g,_,cap,hv,?_,rfl⟩;refine iK _ xs 0 hr h1 fun j u hu=>?_
  have:=ho.cells (g:=g) (by rw[hv];rfl) j u hu
  rwa [Addr.add_lit]at this
theorem RowOK.els{k:Nat}{r:Row}(h:RowOK S w k r){a0:Option Addr}{n0 c0:Nat}(hs:S.loc k=.slice a0 n0 c0)(hne:r.es≠[]):∃g n c,S.loc k=.slice (some ⟨g,0,none⟩) n c∧fV S w g r.sz 0 r.es∧n=r.es.length:=by obtain⟨g,n,c,h1,h2,h3⟩:=h.cells hs hne;exact⟨g,n,c,h1,lR _ _ h.len h2,h3⟩
theorem Agree.cell{w':World}(ha:Agree S H w w'){b o:Nat}{u:Value}(hb:S.ro b)(h:w.cell? ⟨b,o,none⟩=some u):w'.cell? ⟨b,o,none⟩=some u:=(ha.kept.cell hb).trans h
theorem Agree.cellOwn{w':World}(ha:Agree S H w w'){k g n c o:Nat}{r:Row}{u:Value}(hk:H k=some r)(hl:S.loc k=.slice (some ⟨g,0,none⟩) n c)(h:w.cell? ⟨g,o,none⟩=some u):w'.cell? ⟨g,o,none⟩=some u:=by have:=ha.own k r hk g (by rw[hl];rfl);exact(World.cell?_of_block (a:=⟨g,o,none⟩) this).trans h
theorem zE{t:TypeId}{l:Option Nat}{x:AV}(hl:ldT P t=some l)(hH:pC S w H)(h:kE G H l x K):
  ∃z,K z∧(gt G→∀u,rep S w x u→oW P S H w z (Instr.loadAt t u)):=by
 unfold kE at h;split at h
 ·rename_i cs off;cases l with
  | none=>refine⟨_,h.2,fun hg u hu=>?_⟩;simp only[rep]at hu;obtain⟨b,o,rfl,hb,hc⟩:=hu;obtain⟨v,h1,_,h3⟩:=sP cs o off hc (h.1 hg);refine⟨v,h3,fun w' ha=>?_⟩;simp[Instr.loadAt,Instr.sureAddr,rT hl (ha.cell hb h1)]
  | some n=>
   refine⟨_,h.2,fun hg u hu=>?_⟩;simp only[rep]at hu;obtain⟨b,o,rfl,hb,hc⟩:=hu;obtain⟨l,e1,e2,e3,e4⟩:=jG _ _ (qR _ _ n (rH cs o off hc));have hlen:=h.1 hg;have hn:l.length=n:=by rw[e1];simp;omega
   refine⟨.agg l.toArray,by simp only[rep];exact⟨l,rfl,e2,e3⟩,fun w' ha=>?_⟩;rw[←hn]at hl;simp[Instr.loadAt,Instr.sureAddr,pU hl (fun j v hj=>ha.cell hb (e4 j v hj))]
 ·rename_i k i f;split at h
  ·rename_i r hk;have hr:=hH k r hk;cases l with
   | none=>
    refine⟨_,h.2,fun hg u hu=>?_⟩;simp only[rep]at hu;obtain⟨_,g,n,c,hloc,rfl⟩:=hu;obtain⟨hi,hf⟩:=h.1 hg;have hne:r.es≠[]:=fun e=>by rw[e]at hi;simp at hi
    obtain⟨g',n',c',hloc',he,_⟩:=hr.els hloc hne;rw[hloc]at hloc';injection hloc' with e1 e2 e3;injection e1 with e1;injection e1 with e1;subst e1;obtain⟨e4,e5⟩:=mW _ 0 i he hi;obtain⟨v,h1,_,h3⟩:=sP _ _ f e5 (by rw[e4];exact hf);refine⟨v,h3,fun w' ha=>?_⟩;rw[←hr.sz];rw[Nat.zero_add]at h1;simp[Instr.loadAt,Instr.sureAddr,rT hl (ha.cellOwn hk hloc h1)]
   | some m=>
    refine⟨_,h.2,fun hg u hu=>?_⟩;simp only[rep]at hu;obtain⟨_,g,n,c,hloc,rfl⟩:=hu;obtain⟨hi,hf⟩:=h.1 hg;have hne:r.es≠[]:=fun e=>by rw[e]at hi;simp at hi
    obtain⟨g',n',c',hloc',he,_⟩:=hr.els hloc hne;rw[hloc]at hloc';injection hloc' with e1 e2 e3;injection e1 with e1;injection e1 with e1;subst e1;obtain⟨e4,e5⟩:=mW _ 0 i he hi;obtain⟨l,e1,e2,e3,e6⟩:=jG _ _ (qR _ _ m (rH _ _ f e5));have hn:l.length=m:=by rw[e1,List.length_take,List.length_drop,e4];omega
    refine⟨.agg l.toArray,by simp only[rep];exact⟨l,rfl,e2,e3⟩,fun w' ha=>?_⟩;rw[←hn]at hl;rw[←hr.sz];rw[Nat.zero_add]at e6;simp[Instr.loadAt,Instr.sureAddr,pU hl (fun j v hj=>ha.cellOwn hk hloc (e6 j v hj))]
  ·exact h.elim
 ·exact h.elim
theorem jE{t:TypeId}(h:ldT P t=some none){l:List Value}{o:Nat}{u:Value}(hu:l[o]?=some u):(part t l.toArray o).run P w=.ok u w:=by simp[part,mS h,hu]
theorem Cc{t:TypeId}{n:Nat}(h:ldT P t=some (some n)){l:List Value}{o:Nat}:(part t l.toArray o).run P w=.ok (.agg ((l.drop o).take n).toArray) w:=by simp[part,mS h,oP h,List.extract_eq_take_drop]
theorem zI{t:TypeId}{l:Option Nat}{x:AV}{off:Nat}(hl:ldT P t=some l)(h:apart G off l x K):
  ∃z,K z∧(gt G→∀u,rep S w x u→∃cs:Array Value,u=.agg cs∧oW P S H w z (part t cs off)):=by
 unfold apart at h;split at h
 ·rename_i cs;cases l with
  | none=>refine⟨_,h.2,fun hg u hu=>?_⟩;simp only[rep]at hu;obtain⟨l,rfl,h1,_⟩:=hu;obtain⟨v,e1,e2⟩:=sZ cs l off h1 (h.1 hg);exact⟨_,rfl,v,e2,fun w' _=>jE hl e1⟩
  | some n=>refine⟨_,h.2,fun hg u hu=>?_⟩;simp only[rep]at hu;obtain⟨l,rfl,h1,h2⟩:=hu;refine⟨_,rfl,_,?_,fun w' _=>Cc hl⟩;simp only[rep];exact⟨_,rfl,nC _ _ n (nG _ _ off h1),fun u hu=>h2 u (List.mem_of_mem_drop (List.mem_of_mem_take hu))⟩
 ·exact h.elim
theorem uH{t:TypeId}{f o:Nat}{l:Option Nat}(h:aT P t f=some (o,l)):
  ∃fs fd i,P.underlying t=some (.struct fs)∧fs[f]?=some fd∧fd.offset=o∧P.info? fd.type=some i∧i.size≠0∧ldT P fd.type=some l:=by
 unfold aT at h;cases hu:P.underlying t with
 | none=>simp[hu]at h
 | some d=>
  cases d <;> simp only[hu]at h <;> try (simp at h;done)
  rename_i fs;cases hf:fs[f]? with
  | none=>simp[hf]at h
  | some fd=>
   simp only[hf]at h;cases hi:P.info? fd.type with
   | none=>simp[hi]at h
   | some i=>
    simp only[hi]at h;split at h
    ·simp at h
    ·rename_i hz;cases hl:ldT P fd.type with
     | none=>simp[hl]at h
     | some l'=>simp[hl]at h;obtain⟨rfl,rfl⟩:=h;exact⟨fs,fd,i,rfl,hf,rfl,hi,hz,hl⟩
theorem zD{t:TypeId}{f o:Nat}{l:Option Nat}(h:aT P t f=some (o,l))(b p:Nat)(w:World):
  (Instr.fieldAt t (.pointer (some ⟨b,p,none⟩)) f).run P w=.ok (.pointer (some ⟨b,p+o,none⟩)) w:=by
 obtain⟨fs,fd,i,hu,hf,rfl,hi,hz,_⟩:=uH h;simp[Instr.fieldAt,run_underlying hu,hf,Instr.sureAddr,fieldPlace,sizeOf,typeInfo,hi,hz,Addr.add_lit]
theorem yI{t:TypeId}{f:Nat}{x:AV}(h:gN P t f x K):
  ∃z,K z∧(gt G→∀u,rep S w x u→oW P S H w z (Instr.fieldAt t u f)):=by
 unfold gN at h;split at h
 ·rename_i cs off;split at h
  ·rename_i o l ho;refine⟨_,h,fun _ u hu=>?_⟩;simp only[rep]at hu;obtain⟨b,p,rfl,hb,hc⟩:=hu;refine⟨_,?_,fun w' _=>zD ho b (p+off) w'⟩;simp only[rep];exact⟨b,p,by rw[Nat.add_assoc],hb,hc⟩
  ·exact h.elim
 ·rename_i k i g;split at h
  ·rename_i o l ho;refine⟨_,h,fun _ u hu=>?_⟩;simp only[rep]at hu;obtain⟨h1,b,n,c,h2,rfl⟩:=hu;refine⟨_,?_,fun w' _=>zD ho b _ w'⟩;simp only[rep];exact⟨h1,b,n,c,h2,by rw[Nat.add_assoc]⟩
  ·exact h.elim
 ·exact h.elim
theorem eG{t:TypeId}{e sz bytes:Nat}(h:cM P t=some (e,sz,bytes)):
  ∃i z,P.underlying t=some (.slice e)∧P.info? e=some i∧i.size=sz∧i.bytes=bytes∧0<sz∧0<bytes∧i.zero=some z∧z.cells.size=sz:=by
 unfold cM at h;cases hu:P.underlying t with
 | none=>simp[hu]at h
 | some d=>
  cases d <;> simp only[hu]at h <;> try (simp at h;done)
  rename_i e';cases hi:P.info? e' with
  | none=>simp[hi]at h
  | some i=>
   simp only[hi]at h;split at h
   ·simp at h
   ·rename_i hc;simp at h;obtain⟨rfl,rfl,rfl⟩:=h;simp only[not_or,ne_eq,Decidable.not_not]at hc;obtain⟨h1,h2,h3⟩:=hc;cases hz:i.zero with
    | none=>simp[hz]at h3
    | some z=>simp[hz]at h3;exact⟨i,z,rfl,hi,rfl,rfl,by omega,by omega,hz,h3⟩
theorem DF{t:TypeId}{n s:Nat}{l:Option Nat}(h:Af P t=some (n,s,l)):
  ∃e i,P.underlying t=some (.array n e)∧P.info? e=some i∧i.size=s∧s≠0∧ldT P e=some l:=by
 unfold Af at h;cases hu:P.underlying t with
 | none=>simp[hu]at h
 | some d=>
  cases d <;> simp only[hu]at h <;> try (simp at h;done)
  rename_i m e;cases hi:P.info? e with
  | none=>simp[hi]at h
  | some i=>
   simp only[hi]at h;split at h
   ·simp at h
   ·rename_i hz;cases hl:ldT P e with
    | none=>simp[hl]at h
    | some l'=>simp[hl]at h;obtain⟨rfl,rfl,rfl⟩:=h;exact⟨e,i,rfl,hi,rfl,hz,hl⟩
theorem nM{t:TypeId}{e sz bytes:Nat}(h:cM P t=some (e,sz,bytes))(b o len cap:Nat)(k:IntKind)(i:Int)(h0:0≤i)(h1:i<len)(w:World):
  (Instr.indexAt t (.slice (some ⟨b,o,none⟩) len cap) (.int k i)).run P w=.ok (.pointer (some ⟨b,o+i.toNat*sz,none⟩)) w:=by
 obtain⟨inf,z,hu,hi,rfl,_⟩:=eG h;simp[Instr.indexAt,run_underlying hu,asIntOf,h0,h1,sizeOf,typeInfo,hi,Addr.add_lit]
theorem rQ{t:TypeId}{n s:Nat}{l:Option Nat}(h:Af P t=some (n,s,l))(b o:Nat)(k:IntKind)(i:Int)(h0:0≤i)(h1:i<n)(w:World):
  (Instr.indexAt t (.pointer (some ⟨b,o,none⟩)) (.int k i)).run P w=.ok (.pointer (some ⟨b,o+i.toNat*s,none⟩)) w:=by
 obtain⟨e,inf,hu,hi,rfl,_⟩:=DF h;simp[Instr.indexAt,run_underlying hu,asIntOf,h0,h1,Instr.sureAddr,sizeOf,typeInfo,hi,Addr.add_lit]
theorem yY{t:TypeId}{x i:AV}(hH:pC S w H)(h:eW P G H t x i K):
  ∃z,K z∧(gt G→∀u v,rep S w x u→rep S w i v→oW P S H w z (Instr.indexAt t u v)):=by
 unfold eW at h;split at h
 ·rename_i es k n;split at h
  ·rename_i e sz bytes he;refine⟨_,h.2,fun hg u v hu hv=>?_⟩;obtain⟨⟨h0,h1⟩,h2⟩:=h.1 hg;simp only[rep]at hu hv;subst hv;obtain⟨ad,m,c,rfl,e1,_,_,e2⟩:=hu;rcases e2 with rfl|⟨b,o,sz',rfl,hb,_,hels⟩
   ·simp at h1;omega
   ·have hlt:n.toNat<es.length:=by omega
    obtain⟨e3,e4⟩:=mW es o n.toNat hels hlt;have hsz:sz'=sz:=by rw[←e3,h2]
    subst hsz;refine⟨_,?_,fun w' _=>nM he b o m c k n h0 (by omega) w'⟩;simp only[rep];exact⟨b,_,by rw[Nat.add_zero],hb,e4⟩
  ·exact h.elim
 ·rename_i k ik n;split at h
  ·rename_i r e sz bytes hk he;refine⟨_,h.2,fun hg u v hu hv=>?_⟩;obtain⟨⟨h0,h1⟩,h2⟩:=h.1 hg;have hr:=hH k r hk;have hne:r.es≠[]:=fun e=>by rw[e]at h1;simp at h1;omega
   simp only[rep]at hu hv;subst hv;obtain⟨hlt,rfl,_,_,_,hloc0⟩:=hu;obtain⟨g,m,c,hloc,_,hm⟩:=hr.els hloc0 hne;rw[hloc];refine⟨_,?_,fun w' _=>nM he g 0 m c ik n h0 (by omega) w'⟩;simp only[rep];exact⟨hlt,g,m,c,hloc,by rw[←hr.sz,h2];simp⟩
  ·exact h.elim
 ·rename_i k a b ik n;split at h
  ·rename_i r e sz bytes hk he;refine⟨_,h.2,fun hg u v hu hv=>?_⟩;obtain⟨⟨h0,h1⟩,h2⟩:=h.1 hg;have hr:=hH k r hk;simp only[rep]at hu hv;subst hv;obtain⟨hlt,ad,m,c,ad',cc,hloc,rfl,hab,hbn,hpos,_,hnc,_⟩:=hu;obtain⟨g,rfl,rfl⟩:=hpos (by omega);refine⟨_,?_,fun w' _=>nM he g (a*S.sz k) (b-a) cc ik n h0 (by omega) w'⟩;simp only[rep];exact⟨hlt,g,m,c,hloc,by rw[←h2,hr.sz,Nat.add_mul,Nat.add_zero]⟩
  ·exact h.elim
 ·rename_i cs off k n;split at h
  ·rename_i m s l ha;refine⟨_,h.2,fun hg u v hu hv=>?_⟩;obtain⟨h0,h1⟩:=h.1 hg;simp only[rep]at hu hv;subst hv;obtain⟨b,o,rfl,hb,hc⟩:=hu;refine⟨_,?_,fun w' _=>rQ ha b (o+off) k n h0 h1 w'⟩;simp only[rep];exact⟨b,o,by rw[Nat.add_assoc],hb,hc⟩
  ·exact h.elim
 ·rename_i k j f ik n;split at h
  ·rename_i m s l ha;refine⟨_,h.2,fun hg u v hu hv=>?_⟩;obtain⟨h0,h1⟩:=h.1 hg;simp only[rep]at hu hv;subst hv;obtain⟨hlt,g,n',c,hloc,rfl⟩:=hu;refine⟨_,?_,fun w' _=>rQ ha g _ ik n h0 h1 w'⟩;simp only[rep];exact⟨hlt,g,n',c,hloc,by rw[Nat.add_assoc]⟩
  ·exact h.elim
 ·exact h.elim
theorem oD{t:TypeId}(h:dY P t=true):∃e,P.underlying t=some (.slice e):=by
 unfold dY at h;split at h
 ·rename_i e he;exact⟨e,he⟩
 ·simp at h
theorem dZ{t:TypeId}(h:dG P t=true):P.underlying t=some .string:=by
 unfold dG at h;split at h
 ·rename_i he;exact he
 ·simp at h
theorem Mw{t:TypeId}(h:JV P t=true):∃e,P.underlying t=some (.pointer e):=by
 unfold JV at h;split at h
 ·rename_i e he;exact⟨e,he⟩
 ·simp at h
theorem Ka{t:TypeId}(h:vQ P t=true):P.underlying t=some .bool:=by
 unfold vQ at h;split at h
 ·rename_i he;exact he
 ·simp at h
theorem BC{t ty:TypeId}{x:AV}(hH:pC S w H)(h:Au P H t x K):
  ∃z,K z∧(gt G→∀u,rep S w x u→oW P S H w z (Builtin.len_ #[t] ty #[u])):=by
 unfold Au at h;split at h
 ·rename_i es;split at h
  ·rename_i hs;obtain⟨e,he⟩:=oD hs;refine⟨_,h,fun _ u hu=>?_⟩;simp only[rep]at hu;obtain⟨ad,m,c,rfl,e1,_⟩:=hu;refine⟨_,gW,fun w' _=>?_⟩;simp[Builtin.len_,run_underlying he,goInt,e1]
  ·exact h.elim
 ·rename_i k;split at h
  ·rename_i r hk;split at h
   ·rename_i hs;obtain⟨e,he⟩:=oD hs;refine⟨_,h,fun _ u hu=>?_⟩;simp only[rep]at hu;obtain⟨_,rfl,_,_,_,hloc0⟩:=hu;obtain⟨xs,ho,_⟩:=(hH k r hk).sl hloc0;refine⟨_,gW,fun w' _=>?_⟩;rcases ho.2 with⟨hv,hn⟩|⟨g,cap,cur,hv,_⟩
    ·simp[Builtin.len_,run_underlying he,goInt,hv,hn]
    ·simp[Builtin.len_,run_underlying he,goInt,hv]
   ·exact h.elim
  ·exact h.elim
 ·split at h
  ·rename_i hs;obtain⟨e,he⟩:=oD hs;refine⟨_,h,fun _ u hu=>?_⟩;simp only[rep]at hu;obtain⟨_,ad,n,c,ad',cc,_,rfl,_⟩:=hu;refine⟨_,gW,fun w' _=>?_⟩;simp[Builtin.len_,run_underlying he,goInt]
  ·exact h.elim
 ·rename_i s;split at h
  ·rename_i hs;refine⟨_,h,fun _ u hu=>?_⟩;simp only[rep]at hu;subst hu;refine⟨_,gW,fun w' _=>?_⟩;simp[Builtin.len_,run_underlying (dZ hs),goInt]
  ·exact h.elim
 ·exact h.elim
theorem AM{x y:AV}{tys:Array TypeId}{ty:TypeId}(h:JE x y K):
  ∃z,K z∧(gt G→∀u v,rep S w x u→rep S w y v→oW P S H w z (Builtin.max_ tys ty #[u,v])):=by
 unfold JE at h;split at h
 ·refine⟨_,h,fun _ u v hu hv=>?_⟩;simp only[rep]at hu hv;subst hu;subst hv;exact⟨_,gW,fun w' _=>by simp[Builtin.max_,Builtin.max2,Sj]⟩
 ·exact h.elim
theorem BT{x y:AV}{tys:Array TypeId}{ty:TypeId}(h:J5 x y K):
  ∃z,K z∧(gt G→∀u v,rep S w x u→rep S w y v→oW P S H w z (Builtin.min_ tys ty #[u,v])):=by
 unfold J5 at h;split at h
 ·refine⟨_,h,fun _ u v hu hv=>?_⟩;simp only[rep]at hu hv;subst hu;subst hv;exact⟨_,gW,fun w' _=>by simp[Builtin.min_,Builtin.min2,R0]⟩
 ·exact h.elim
end
end Go.Aw
end
section
namespace Go.Aw
open Go.RowKit
section
variable{P:Program}{S:Sg}{H:aC}{w:World}{G:Option Bool}{K:AV→Prop}
theorem fF{z:AV}{e:Sem Value}{v:Value}(hz:rep S w z v)(h:∀w',e.run P w'=.ok v w'):oW P S H w z e:=⟨v,hz,fun w' _=>h w'⟩
theorem iJ{t:TypeId}{c:Nat}(h:mG P t=some c):(c=0∧∃k,P.underlying t=some (.int k))∨(c=1∧P.underlying t=some .string)∨(c=2∧P.underlying t=some .bool):=by unfold mG at h;split at h <;> simp_all
theorem E5{t:TypeId}{c:Nat}(h:mG P t=some c)(hi:(P.info? t).isSome=true):ldT P t=some none:=by obtain⟨i,hi⟩:=Option.isSome_iff_exists.1 hi;unfold ldT;rw[hi];rcases iJ h with⟨_,k,hk⟩|⟨_,hk⟩|⟨_,hk⟩ <;> rw[hk]
theorem pW{t:TypeId}{c:Nat}{x y:AV}{u v:Value}{b:Bool}{d:Nat}(ht:mG P t=some c)(h:kA c x y=some b)(hu:rep S w x u)(hv:rep S w y v)(w':World):
  (Op.equalIn (d+1) t u v).run P w'=.ok b w':=by
 unfold kA at h;split at h
 ·split at h
  ·simp only[rep]at hu hv;subst hu hv;rename_i hkk;subst hkk;simp at h;rcases iJ ht with⟨_,k',hk'⟩|⟨h0,_⟩|⟨h0,_⟩
   ·rw[run_equalIn_int w' d t _ k' _ _ hk',h]
   ·simp at h0
   ·simp at h0
  ·simp at h
 ·simp only[rep]at hu hv;subst hu hv;rcases iJ ht with⟨h0,_⟩|⟨_,hk'⟩|⟨h0,_⟩
  ·simp at h0
  ·rw[run_equalIn_string w' d t _ _ hk'];injection h with h;rw[h]
  ·simp at h0
 ·simp only[rep]at hu hv;subst hu hv;rcases iJ ht with⟨h0,_⟩|⟨h0,_⟩|⟨_,hk'⟩
  ·simp at h0
  ·simp at h0
  ·rw[run_equalIn_bool' w' d t _ _ hk'];injection h with h;rw[h]
 ·simp at h
theorem oK:∀(fs:List Field) (l:List Nat) (xs ys:List AV) (o:Nat) (us vs pu pv:List Value) (b:Bool) (d:Nat),
  iE P o fs=some l→cZ l xs ys=some b→aV S w xs us→aV S w ys vs→pu.length=o→pv.length=o→∀w':World,
  (Op.eqFields (d+1) (pu++us).toArray (pv++vs).toArray fs).run P w'=.ok b w'
 | [],l,xs,ys,o,us,vs,pu,pv,b,d,hf,he,_,_,_,_,w'=>by simp only[iE]at hf;injection hf with hf;subst hf;cases xs <;> cases ys <;> simp[cZ]at he;subst he;simp[Op.eqFields]
 | f::fs,l,xs,ys,o,us,vs,pu,pv,b,d,hf,he,hx,hy,e1,e2,w'=>by
  simp only[iE]at hf;split at hf
  ·rename_i hc;simp only[Bool.and_eq_true,bne_iff_ne,ne_eq,beq_iff_eq]at hc;obtain⟨⟨hn,ho⟩,hi⟩:=hc;cases hk:mG P f.type with
   | none=>simp[hk]at hf
   | some c=>
    cases hr:iE P (o+1) fs with
    | none=>simp[hk,hr]at hf
    | some l'=>
     simp[hk,hr]at hf;subst hf;cases xs with
     | nil=>simp[cZ]at he
     | cons x xs=>
      cases ys with
      | nil=>simp[cZ]at he
      | cons y ys=>
       simp only[cZ]at he;cases hb1:kA c x y with
       | none=>simp[hb1,rW]at he
       | some b1=>
        cases hb2:cZ l' xs ys with
        | none=>simp[hb1,hb2,rW]at he
        | some b2=>
         simp[hb1,hb2,rW]at he;simp only[aV]at hx hy;obtain⟨u,us',rfl,hu,hus⟩:=hx;obtain⟨v,vs',rfl,hv,hvs⟩:=hy;have hld:=E5 hk hi;have p1:∀w':World,(part f.type (pu++u::us').toArray f.offset).run P w'=.ok u w':=fun w'=>jE (w:=w') hld (by rw[ho,←e1];simp)
         have p2:∀w':World,(part f.type (pv++v::vs').toArray f.offset).run P w'=.ok v w':=fun w'=>jE (w:=w') hld (by rw[ho,←e2];simp)
         have q:=pW (d:=d) hk hb1 hu hv;have ih:=oK fs l' xs ys (o+1) us' vs' (pu++[u]) (pv++[v]) b2 d hr hb2 hus hvs (by simp[e1]) (by simp[e2]) w';simp only[List.append_assoc,List.singleton_append]at ih;simp only[Op.eqFields,hn,ne_eq,not_false_eq_true,if_true,Sem.run_bind,p1,p2,q,Result.andThen_ok,Sem.run_ite];subst he;cases b1
         ·simp
         ·simp only[Bool.not_true,Bool.false_eq_true,if_false,Bool.true_and];exact ih
  ·simp at hf
theorem xB{e:TypeId}{c:Nat}(hk:mG P e=some c)(hi:(P.info? e).isSome=true){d:Nat}:∀(m i:Nat) (xs ys:List AV) (us vs pu pv:List Value) (b:Bool),
   cZ (List.replicate m c) xs ys=some b→aV S w xs us→aV S w ys vs→pu.length=i→pv.length=i→∀w':World,
   ((forIn (m := Sem) (List.range' i m) ((none, ()) : Option Bool × Unit) (fun i _ => do
         if !(←Op.equalIn (d+1) e (←part e (pu++us).toArray (i*1)) (←part e (pv++vs).toArray (i*1)))then pure (ForInStep.done (some false,()))
         else pure (ForInStep.yield (none,())))).run P w').andThen (fun r w'=>Sem.run P (match r.1 with
       | some x=>pure x
       | none=>pure true:Sem Bool) w')=.ok b w'
 | 0,i,xs,ys,us,vs,pu,pv,b,he,_,_,_,_,w'=>by cases xs <;> cases ys <;> simp[cZ]at he;subst he;simp
 | m+1,i,xs,ys,us,vs,pu,pv,b,he,hx,hy,e1,e2,w'=>by
   rw[List.replicate_succ]at he;cases xs with
   | nil=>simp[cZ]at he
   | cons x xs=>
     cases ys with
     | nil=>simp[cZ]at he
     | cons y ys=>
       simp only[cZ]at he;cases hb1:kA c x y with
       | none=>simp[hb1,rW]at he
       | some b1=>
         cases hb2:cZ (List.replicate m c) xs ys with
         | none=>simp[hb1,hb2,rW]at he
         | some b2=>
           simp[hb1,hb2,rW]at he;simp only[aV]at hx hy;obtain⟨u,us',rfl,hu,hus⟩:=hx;obtain⟨v,vs',rfl,hv,hvs⟩:=hy;have hld:=E5 hk hi;have p1:∀w':World,(part e (pu++u::us').toArray (i*1)).run P w'=.ok u w':=fun w'=>jE (w:=w') hld (by rw[Nat.mul_one,←e1];simp)
           have p2:∀w':World,(part e (pv++v::vs').toArray (i*1)).run P w'=.ok v w':=fun w'=>jE (w:=w') hld (by rw[Nat.mul_one,←e2];simp)
           have q:=pW (d:=d) hk hb1 hu hv;have ih:=xB hk hi (d:=d) m (i+1) xs ys us' vs' (pu++[u]) (pv++[v]) b2 hb2 hus hvs (by simp[e1]) (by simp[e2]) w';simp only[List.append_assoc,List.singleton_append]at ih;simp only[List.range'_succ,List.forIn_cons,Sem.run_bind,p1,p2,q,Result.andThen_ok,Sem.run_ite,bind_assoc];subst he;cases b1
           · simp
           · simp only[Bool.not_true,Bool.false_eq_true,if_false,Bool.true_and,Sem.run_pure,Result.andThen_ok];exact ih
theorem pD{t:TypeId}{l:List Nat}(h:pI P t=some l){xs ys:List AV}{b:Bool}(he:cZ l xs ys=some b){us vs:List Value}
  (hx:aV S w xs us) (hy:aV S w ys vs) (d:Nat) (w':World):(Op.equalIn (d+2) t (.agg us.toArray) (.agg vs.toArray)).run P w'=.ok b w':=by
 unfold pI at h;split at h
 ·rename_i fs hu;split at h
  ·rename_i hc;have hf:P.fieldsOf t=fs:=by unfold Program.fieldsOf;rw[hu]
   rw[run_equalIn_struct w' (d+1) t _ _ (by rw[hf];exact hu) hc.1,hf];simpa using oK fs.toList l xs ys 0 us vs [] [] b d h he hx hy rfl rfl w'
  ·simp at h
 ·rename_i n e hu;split at h
  ·rename_i hc;cases hk:mG P e with
   | none=>simp[hk]at h
   | some c=>
    simp[hk]at h;subst h;cases hi:P.info? e with
    | none=>simp[hi]at hc
    | some i=>
     have hsz:i.size=1:=by simpa[hi]using hc.1
     have key:=xB (P:=P) (S:=S) (w:=w) hk (by simp[hi]) (d:=d) n 0 xs ys us vs [] [] b he hx hy rfl rfl w';simp only[List.nil_append]at key;rw[Op.equalIn];simp only[Sem.run_bind,run_underlying hu,Result.andThen_ok,sizeOf,typeInfo,run_program,hi,Sem.run_pure,hsz];rw[Std.Legacy.Range.forIn_eq_forIn_range'];simp only[Std.Legacy.Range.size,Nat.sub_zero,Nat.add_one_sub_one,Nat.div_one];have e:∀(r:Result (Option Bool×Unit)) (f g:Option Bool×Unit→World→Result Bool),(∀a w,f a w=g a w)→r.andThen f=r.andThen g:=fun r f g h=>by cases r <;> simp[Result.andThen,h]
     exact(e _ _ _ (fun a w=>by rcases a with⟨a,_⟩;cases a <;> rfl)).trans key
  ·simp at h
 ·simp at h
theorem eZ(op:BinOp)(t:TypeId)(x y:Operand)(a b:Value)(h1:a≠.nilIface)(h2:∀cs,a≠.agg cs)(w':World):(eqGuard op t x y a b).run P w'=.ok () w':=by cases op <;> simp only[eqGuard] <;> (try rfl) <;> cases a <;> first|rfl|(exact absurd rfl h1)|(exact absurd rfl (h2 _))
theorem KJ{t:TypeId}{l:List Nat}(h:pI P t=some l):P.eqGuardType P.depth t=false:=by
 unfold pI at h;split at h
 ·split at h
  ·rename_i hc;exact hc.2
  ·simp at h
 ·split at h
  ·rename_i hc;exact hc.2
  ·simp at h
 ·simp at h
theorem Jc{op:BinOp}{t:TypeId}{x y:AV}(h:gQ P G op t x y K):
   ∃z,K z∧(gt G→∀u v,rep S w x u→rep S w y v→∀ox oy,oW P S H w z (do eqGuard op t ox oy u v;binOp op t u v)):=by
 unfold gQ at h;split at h
 · rename_i k a k' b;split at h
   · rename_i hsh;refine⟨_,h.2,fun hg u v hu hv ox oy=>?_⟩;have hb:=h.1 hg;simp only[rep]at hu hv;subst hu hv;refine fF gW fun w'=>?_
     simp only[Sem.run_bind,eZ op t ox oy (.int k a) (.int k' b) (by simp) (by simp) w',Result.andThen_ok];have hb':¬b<0:=by omega
     cases op <;> simp only[vH,Bool.false_eq_true]at hsh <;> simp[binOp,Op.shift,hb',shV]
   split at h
   · rename_i hk;subst hk;have base:∀(z:Value),(∀w',(binOp op t (.int k a) (.int k b)).run P w'=.ok z w')→∀u v,rep S w (.v (.int k a)) u→rep S w (.v (.int k b)) v→∀ox oy,oW P S H w (.v z) (do eqGuard op t ox oy u v;binOp op t u v):=by
       intro z hz u v hu hv ox oy;simp only[rep]at hu hv;subst hu hv;refine fF gW fun w'=>?_
       simp only[Sem.run_bind,eZ op t ox oy (.int k a) (.int k b) (by simp) (by simp) w',Result.andThen_ok,hz]
     cases op <;> simp only at h <;> first
       | exact h.elim
       | (refine ⟨_, h, fun _ => base _ (fun w' => ?_)⟩
          first
            | (simp[binOp,Op.intArith,Op.intCmp];done)
            | (simp[binOp];rfl))
       | exact⟨_,h.2,fun hg=>base _ (fun w'=>by simp[binOp,Op.intDiv,h.1 hg])⟩
   · exact h.elim
 · rename_i a b;have base:∀(z:Value),(∀w',(binOp op t (.string a) (.string b)).run P w'=.ok z w')→∀u v,rep S w (.v (.string a)) u→rep S w (.v (.string b)) v→∀ox oy,oW P S H w (.v z) (do eqGuard op t ox oy u v;binOp op t u v):=by
     intro z hz u v hu hv ox oy;simp only[rep]at hu hv;subst hu hv;refine fF gW fun w'=>?_
     simp only[Sem.run_bind,eZ op t ox oy (.string a) (.string b) (by simp) (by simp) w',Result.andThen_ok,hz]
   cases op <;> simp only at h <;> first
     | exact h.elim
     | exact⟨_,h,fun _=>base _ (fun w'=>by simp[binOp,Op.stringOp])⟩
     | exact ⟨_, h.2, fun hg => base _ (fun w' => by
         have:=h.1 hg;have h2:¬((a.size+b.size:Nat):Int)>IntKind.i64.max:=by omega
         simp only[binOp,Op.stringOp];rw[if_neg h2];rfl)⟩
 · rename_i a b;split at h
   · rename_i hb;have hu':=Ka hb;cases op <;> simp only at h <;> first
       | exact h.elim
       | (refine ⟨_, h, fun _ u v hu hv ox oy => ?_⟩
          simp only[rep]at hu hv;subst hu hv;refine fF gW fun w'=>?_
          simp only[Sem.run_bind,eZ _ t ox oy (.bool a) (.bool b) (by simp) (by simp) w',Result.andThen_ok];simp[binOp,run_equal_bool w' t a b hu'])
   · exact h.elim
 · rename_i xs ys;split at h
   · rename_i l hl;split at h
     · rename_i b hb;cases op <;> simp only at h <;> first
         | exact h.elim
         | (refine ⟨_, h, fun _ u v hu hv ox oy => ?_⟩
            simp only[rep]at hu hv;obtain⟨us,rfl,hus,_⟩:=hu;obtain⟨vs,rfl,hvs,_⟩:=hv;refine fF gW fun w'=>?_
            have q:=pD hl hb hus hvs 9998 w';simp only[Sem.run_bind,run_eqGuard_agg _ _ _ _ _ _ _ (KJ hl),Result.andThen_ok]
            first
              | (rw[run_eql_struct,q];rfl)
              | (rw[run_neq_struct,q];rfl))
     · exact h.elim
   · exact h.elim
 · split at h
   · rename_i hp;obtain⟨rfl,rfl,rfl,hp⟩:=hp;have hp':∃e i,P.underlying t=some (.pointer e)∧P.info? e=some i:=by
       unfold Lx at hp;split at hp
       · rename_i e he;obtain⟨i,hi⟩:=Option.isSome_iff_exists.1 hp;exact⟨e,i,he,hi⟩
       · simp at hp
     obtain⟨e,i,hu',hi⟩:=hp';have he:∀(a:Addr) w',(Op.equal t (.pointer (some a)) (.pointer (some a))).run P w'=.ok true w':=by
       intro a w';have e0:Op.equal t (.pointer (some a)) (.pointer (some a))=Op.equalIn (9999+1) t (.pointer (some a)) (.pointer (some a)):=rfl;rw[e0];unfold Op.equalIn;simp[run_underlying hu',sizeOf,typeInfo,hi,sameAddr]
       try (split <;> simp_all)
     cases op <;> simp only at h <;> first
       | exact h.elim
       | (refine ⟨_, h, fun _ u v hu hv ox oy => ?_⟩
          simp only[rep]at hu hv;obtain⟨_,g,n,c,e1,rfl⟩:=hu;obtain⟨_,g',n',c',e2,rfl⟩:=hv;rw[e1]at e2;obtain rfl:g=g':=by simpa using congrArg (fun v=>match v with|Value.slice (some a) _ _=>a.block|_=>0) e2
          refine fF gW fun w'=>?_
          simp only[Sem.run_bind,eZ _ t ox oy (.pointer _) (.pointer _) (by simp) (by simp) w',Result.andThen_ok];simp[binOp,he])
   · exact⟨_,h.2,fun hg=>(h.1 hg).elim⟩
 · skip
   split at h
   · rename_i b hb;split at h
     · rename_i hp;obtain⟨e,hu'⟩:=Mw hp;have hq:∀u,rep S w x u→∃a,u=.pointer a∧a.isNone=b:=by
         intro u hu;unfold Jh at hb;split at hb
         · simp only[rep]at hu;exact⟨_,hu,by simpa using hb⟩
         · simp only[rep]at hu;obtain⟨g,o,e,_⟩:=hu;exact⟨_,e,by simpa using hb⟩
         · simp only[rep]at hu;obtain⟨_,g,n,c,_,e⟩:=hu;exact⟨_,e,by simpa using hb⟩
         · cases hb
       have he:∀(a:Option Addr) w',(Op.equal t (.pointer a) (.pointer none)).run P w'=.ok a.isNone w':=by intro a w';have e0:Op.equal t (.pointer a) (.pointer none)=Op.equalIn (9999+1) t (.pointer a) (.pointer none):=rfl;rw[e0];unfold Op.equalIn;cases a <;> simp[run_underlying hu']
       cases op <;> simp only at h <;> first
         | exact h.elim
         | (refine ⟨_, h, fun _ u v hu hv ox oy => ?_⟩
            obtain⟨a,rfl,rfl⟩:=hq u hu;simp only[rep]at hv;subst hv;refine fF gW fun w'=>?_
            simp only[Sem.run_bind,eZ _ t ox oy (.pointer a) (.pointer none) (by simp) (by simp) w',Result.andThen_ok];simp[binOp,he])
     · exact h.elim
   · exact⟨_,h.2,fun hg=>(h.1 hg).elim⟩
 · exact⟨_,h.2,fun hg=>(h.1 hg).elim⟩
end
end Go.Aw
end
