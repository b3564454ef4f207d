/- Texts joined by a program: AwCore. -/
import Derived.StillTail
import Derived.WalkKit
import Derived.Deep.Quiet
import Derived.Deep.QuietTactic
import Derived.Maps.AppendAt
import Derived.Laws.BytesArg

set_option linter.unusedSimpArgs false
set_option linter.unusedVariables false
namespace Go.Aw
open Go.RowKit
inductive AV where
 | v (x:Value)
 | any
 | sl (es:List (List AV))
 | rp (cs:List AV) (off:Nat)
 | agg (cs:List AV)
 | tup (vs:List AV)
 | os (k:Nat)
 | op (k i f:Nat)
 | gd (g:Bool) (x:AV)
 | fn (f:FuncId) (cap:List AV)
 | oz (k a b:Nat)
 | nf (x:AV)
 | om (k:Nat)
 | cl (es:List (List AV))
 deriving Inhabited
structure Row where
 e:TypeId
 sz:Nat
 es:List (List AV)
abbrev Env:=Nat→AV
abbrev aG:=Nat→Option Row
inductive Ex where
 | normal
 | exit (id:Nat)
 | ret
def upd(ρ:Env)(d:Option Nat)(x:AV):Env:=
 match d with
 | some d=>fun t=>if t=d then x else ρ t
 | none=>ρ
def aI(H:aG)(k:Nat)(r:Option Row):aG:=fun j=>if j=k then r else H j
theorem ZJ(ρ:Env)(d:Nat)(x:AV)(t:Nat):upd ρ (some d) x t=if t=d then x else ρ t:=rfl
theorem TY(ρ:Env)(x:AV):upd ρ none x=ρ:=rfl
theorem aA(H:aG)(k:Nat)(r:Option Row):aI H k r k=r:=by simp[aI]
theorem aC(H:aG)(k:Nat)(r:Option Row)(j:Nat)(h:j≠k):aI H k r j=H j:=by simp[aI,h]
def ldT(P:Program)(t:TypeId):Option (Option Nat):=
 match P.underlying t,P.info? t with
 | some (.struct _),some i=>some (some i.size)
 | some (.array _ _),some i=>some (some i.size)
 | some _,some _=>some none
 | _,_=>none
def aK(P:Program)(t:TypeId)(f:Nat):Option (Nat×Option Nat):=
 match P.underlying t with
 | some (.struct fs)=>match fs[f]? with
   | some fd=>match P.info? fd.type with
     | some i=>if i.size=0 then none else(ldT P fd.type).map fun l=>(fd.offset,l)
     | none=>none
   | none=>none
 | _=>none
def cK(P:Program)(t:TypeId):Option (TypeId×Nat×Nat):=
 match P.underlying t with
 | some (.slice e)=>match P.info? e with
   | some i=>if i.size=0∨i.bytes=0∨i.zero.map (·.cells.size)≠some i.size then none else some (e,i.size,i.bytes)
   | none=>none
 | _=>none
def sR(P:Program)(t:TypeId):Option (Nat×Nat×Option Nat):=
 match P.underlying t with
 | some (.array n e)=>match P.info? e with
   | some i=>if i.size=0 then none else(ldT P e).map fun l=>(n,i.size,l)
   | none=>none
 | _=>none
def pP:Value→AV
 | .slice none 0 0=>.sl []
 | x=>.v x
def eM(P:Program)(t:TypeId):Option (List AV):=
 match P.info? t with
 | some i=>match i.zero with
   | some z=>if z.cells.size=i.size∧i.size≠0∧z.cells.toList.all (·.oneCell')=true then some (z.cells.toList.map pP)else none
   | none=>none
 | none=>none
def Ih(P:Program):Nat→TypeId→Nat→List (Nat×TypeId×Nat)
 | 0,_,_=>[]
 | n+1,t,o=>match P.underlying t with
   | some (.slice _)=>match cK P t with
     | some (e,sz,_)=>[(o,e,sz)]
     | none=>[]
   | some (.struct fs)=>fs.toList.flatMap fun f=>Ih P n f.type (o+f.offset)
   | some (.array m e)=>(List.range m).flatMap fun j=>Ih P n e (o+j*((P.info? e).map (·.size)).getD 0)
   | _=>[]
def UM:Option Value→Bool
 | some (.slice none 0 0)=>true
 | _=>false
def pL(P:Program)(t:TypeId):Option (List (Nat×TypeId×Nat)):=
 match P.info? t with
 | some i=>match i.zero with
   | some z=>if(Ih P 8 t 0).all (fun x=>UM z.cells.toList[x.1]?&&decide (0<x.2.2))=true then some (Ih P 8 t 0)else none
   | none=>none
 | none=>none
def fK(P:Program)(t:TypeId):Option (List (Nat×Nat)):=
 match P.underlying t with
 | some (.struct fs)=>fs.toList.mapM fun f=>(P.info? f.type).map fun i=>(f.offset,i.size)
 | some (.array n e)=>(P.info? e).map fun i=>(List.range n).map fun j=>(j*i.size,i.size)
 | _=>none
def dS(P:Program)(t:TypeId):Bool:=match P.underlying t with|some .string=>true|_=>false
def cU(P:Program)(t:TypeId):Bool:=match P.underlying t with|some (.slice _)=>true|_=>false
def xN(P:Program)(t:TypeId):Bool:=match P.underlying t with|some .bool=>true|_=>false
def aev(ρ:Env):Operand→AV
 | .tmp t=>ρ t
 | .const v=>pP v
 | .global _=>.any
 | .func f=>.v (.func (.func f) #[] #[])
def gt:Option Bool→Prop
 | none=>True
 | some b=>b=true
def gok:Option Bool→Bool→Prop
 | none,g=>g=true
 | some b,g=>b=true→g=true
def wr:Option Bool→AV→AV
 | none,x=>x
 | some b,x=>.gd b x
def bO(G:Option Bool)(x:AV)(k:AV→Prop):Prop:=
 match x with
 | .gd g y=>gok G g∧k y
 | x=>k x
def mC(x:AV)(K:List AV→Prop):Prop:=
 match x with
 | .agg cs=>K cs
 | .v y=>y.oneCell'=true∧K [.v y]
 | .sl es=>K [.sl es]
 | .rp cs o=>K [.rp cs o]
 | .os k=>K [.os k]
 | .op k i f=>K [.op k i f]
 | _=>False
def rO(P:Program)(t:TypeId):Option Nat:=match P.underlying t with|some (.int _)=>some 0|some .string=>some 1|some .bool=>some 2|_=>none
def vX(c:Nat)(x y:AV):Option Bool:=
 match c,x,y with
 | 0,.v (.int k a),.v (.int k' b)=>if k=k' then some (a == b)else none
 | 1,.v (.string a),.v (.string b)=>some (a.toList == b.toList)
 | 2,.v (.bool a),.v (.bool b)=>some (a == b)
 | _,_,_=>none
def KU:Option Bool→Option Bool→Option Bool
 | some a,some b=>some (a&&b)
 | _,_=>none
def hY:List Nat→List AV→List AV→Option Bool
 | [],[],[]=>some true
 | c::l,x::r,y::s=>KU (vX c x y) (hY l r s)
 | _,_,_=>none
def oH(P:Program):Nat→List Field→Option (List Nat)
 | _,[]=>some []
 | o,f::r=>if f.name != "_" && f.offset == o&&(P.info? f.type).isSome then match rO P f.type,oH P (o+1) r with
   | some c,some l=>some (c::l)
   | _,_=>none
   else none
def yO(P:Program)(t:TypeId):Option (List Nat):=
 match P.underlying t with
 | some (.struct fs)=>if P.stoodInHeld t=false∧P.eqGuardType P.depth t=false then oH P 0 fs.toList else none
 | some (.array n e)=>if(P.info? e).map (·.size)=some 1∧P.eqGuardType P.depth t=false then(rO P e).map (List.replicate n)else none
 | _=>none
def uF:BinOp→Bool
 | .shl=>true
 | .shr=>true
 | _=>false
def shV(op:BinOp)(k:IntKind)(a b:Int):Int:=match op with
 | .shl=>k.wrap (a*2^min b.toNat k.bits)
 | _=>a.fdiv (2^min b.toNat k.bits)
def rH(op:BinOp)(k:IntKind)(a b:Int):Int:=match op with
 | .and=>k.wrap ((BitVec.ofInt k.bits a &&& BitVec.ofInt k.bits b).toNat:Nat)
 | .or=>k.wrap ((BitVec.ofInt k.bits a ||| BitVec.ofInt k.bits b).toNat:Nat)
 | .xor=>k.wrap ((BitVec.ofInt k.bits a ^^^ BitVec.ofInt k.bits b).toNat:Nat)
 | _=>k.wrap ((BitVec.ofInt k.bits a &&& ~~~(BitVec.ofInt k.bits b)).toNat:Nat)
def gN(P:Program)(G:Option Bool)(op:BinOp)(t:TypeId)(x y:AV)(K:AV→Prop):Prop:=
 match x,y with
 | .v (.int k a),.v (.int k' b)=>
   if uF op=true then(gt G→0≤b)∧K (.v (.int k (shV op k a b)))
   else if k=k' then
     match op with
     | .and=>K (.v (.int k (rH .and k a b)))
     | .or=>K (.v (.int k (rH .or k a b)))
     | .xor=>K (.v (.int k (rH .xor k a b)))
     | .andNot=>K (.v (.int k (rH .andNot k a b)))
     | .add=>K (.v (.int k (k.wrap (a+b))))
     | .sub=>K (.v (.int k (k.wrap (a-b))))
     | .mul=>K (.v (.int k (k.wrap (a*b))))
     | .quo=>(gt G→b≠0)∧K (.v (.int k (k.wrap (a.tdiv b))))
     | .rem=>(gt G→b≠0)∧K (.v (.int k (a.tmod b)))
     | .eql=>K (.v (.bool (a == b)))
     | .neq=>K (.v (.bool (a != b)))
     | .lss=>K (.v (.bool (decide (a<b))))
     | .leq=>K (.v (.bool (decide (a≤b))))
     | .gtr=>K (.v (.bool (decide (a>b))))
     | .geq=>K (.v (.bool (decide (a≥b))))
     | _=>False
   else False
 | .v (.string a),.v (.string b)=>
   match op with
   | .add=>(gt G→((a.size+b.size:Nat):Int)≤IntKind.i64.max)∧K (.v (.string (a++b)))
   | .eql=>K (.v (.bool (a.toList == b.toList)))
   | .neq=>K (.v (.bool !(a.toList == b.toList)))
   | .lss=>K (.v (.bool (Op.bytesLess a.toList b.toList)))
   | _=>False
 | .v (.bool a),.v (.bool b)=>
   if xN P t then
     match op with
     | .eql=>K (.v (.bool (a == b)))
     | .neq=>K (.v (.bool !(a == b)))
     | _=>False
   else False
 | .agg xs,.agg ys=>match yO P t with
   | some l=>match hY l xs ys with
     | some b=>match op with
       | .eql=>K (.v (.bool b))
       | .neq=>K (.v (.bool !b))
       | _=>False
     | none=>False
   | none=>False
 | _,_=>(gt G→False)∧K .any
def XF(P:Program)(t:TypeId):Option (TypeId×TypeId):=match P.underlying t with|some (.map k e)=>some (k,e)|_=>none
def PI(P:Program)(t:TypeId):Option AV:=
 match P.info? t with
 | some i=>match i.zero with
   | some (.agg cs)=>if cs.toList.all (·.oneCell')=true then some (.agg (cs.toList.map pP))else none
   | some v=>if v.oneCell'=true then some (pP v)else none
   | none=>none
 | none=>none
def Jf(P:Program)(kt:TypeId)(x y:AV):Option Bool:=
 match x,y with
 | .v a,.v b=>match rO P kt with
   | some c=>vX c (.v a) (.v b)
   | none=>none
 | _,_=>none
def AF(P:Program)(kt:TypeId):AV→Bool
 | .v (.int _ _)=>rO P kt == some 0
 | .v (.string _)=>rO P kt == some 1
 | .v (.bool _)=>rO P kt == some 2
 | _=>false
def FE(eq:AV→Option Bool):List (List AV)→Nat→Option (Option Nat)
 | [],_=>some none
 | e::r,i=>match eq (e.getD 0 .any)with
   | some true=>some (some i)
   | some false=>FE eq r (i+1)
   | none=>none
def QQ(ok:Bool)(z:AV)(es:List (List AV))(oi:Option Nat):AV:=
 match oi with
 | some i=>if ok=true then .tup [(es.getD i []).getD 1 .any,.v (.bool true)]else(es.getD i []).getD 1 .any
 | none=>if ok=true then .tup [z,.v (.bool false)]else z
def mput(es:List (List AV))(oi:Option Nat)(k v:AV):List (List AV):=
 match oi with
 | some i=>es.set i [k,v]
 | none=>es++[[k,v]]
def G5(P:Program)(H:aG)(t:TypeId)(x key:AV)(K:Nat→Row→TypeId×TypeId→Option Nat→Prop):Prop:=
 match x with
 | .om j=>match H j,XF P t with
   | some r,some kt=>match FE (Jf P kt.1 key) r.es 0 with
     | some oi=>AF P kt.1 key=true∧K j r kt oi
     | none=>False
   | _,_=>False
 | _=>False
def xO(P:Program)(H:aG)(t:TypeId)(x key:AV)(ok:Bool)(K:AV→Prop):Prop:=
 G5 P H t x key fun _ r kt oi=>match PI P kt.2 with
   | some z=>K (QQ ok z r.es oi)
   | none=>False
def tO(c:Bool):AV→AV→AV
 | .v (.bool true),.v (.bool b)=>.v (.bool (c||b))
 | .v (.bool a),.v (.bool false)=>.v (.bool (c&&a))
 | .v (.bool a),.v (.bool b)=>.v (.bool (bif c then a else b))
 | x,y=>bif c then x else y
def yJ(G:Option Bool)(c:Bool)(x y:AV)(K:AV→Prop):Prop:=
 match x,y with
 | .gd g x,.gd g' y=>(gt G→c=true→g=true)∧(gt G→c=false→g'=true)∧K (tO c x y)
 | .gd g x,y=>(gt G→c=true→g=true)∧K (tO c x y)
 | x,.gd g' y=>(gt G→c=false→g'=true)∧K (tO c x y)
 | x,y=>K (tO c x y)
def nY(G:Option Bool)(H:aG)(l:Option Nat)(x:AV)(K:AV→Prop):Prop:=
 match x with
 | .rp cs off=>match l with
   | none=>(gt G→off<cs.length)∧K (cs.getD off .any)
   | some n=>(gt G→off+n≤cs.length)∧K (.agg ((cs.drop off).take n))
 | .op k i f=>match H k with
   | some r=>match l with
     | none=>(gt G→i<r.es.length∧f<r.sz)∧K ((r.es.getD i []).getD f .any)
     | some n=>(gt G→i<r.es.length∧f+n≤r.sz)∧K (.agg (((r.es.getD i []).drop f).take n))
   | none=>False
 | _=>False
def apart(G:Option Bool)(off:Nat)(l:Option Nat)(x:AV)(K:AV→Prop):Prop:=
 match x with
 | .agg cs=>match l with
   | none=>(gt G→off<cs.length)∧K (cs.getD off .any)
   | some n=>(gt G→off+n≤cs.length)∧K (.agg ((cs.drop off).take n))
 | _=>False
def ES(P:Program)(H:aG)(t:TypeId)(x:AV)(K:AV→Prop):Prop:=
 match x with
 | .sl es=>if cU P t then K (.v (.int .i64 es.length))else False
 | .os k=>match H k with
   | some r=>if cU P t then K (.v (.int .i64 r.es.length))else False
   | none=>False
 | .v (.string s)=>if dS P t then K (.v (.int .i64 s.size))else False
 | _=>False
def kF(a b:Int):Int:=if b>a then b else a
def sT(a b:Int):Int:=if b<a then b else a
def Nc(x y:AV)(K:AV→Prop):Prop:=
 match x,y with
 | .v (.int k a),.v (.int _ b)=>K (.v (.int k (kF a b)))
 | _,_=>False
def Mk(x y:AV)(K:AV→Prop):Prop:=
 match x,y with
 | .v (.int k a),.v (.int _ b)=>K (.v (.int k (sT a b)))
 | _,_=>False
def fV(P:Program)(G:Option Bool)(H:aG)(t:TypeId)(x i:AV)(K:AV→Prop):Prop:=
 match x,i with
 | .sl es,.v (.int _ n)=>match cK P t with
   | some (_,sz,_)=>(gt G→(0≤n∧n<es.length)∧(es.getD n.toNat []).length=sz)∧K (.rp (es.getD n.toNat []) 0)
   | none=>False
 | .os k,.v (.int _ n)=>match H k,cK P t with
   | some r,some (_,sz,_)=>(gt G→(0≤n∧n<r.es.length)∧r.sz=sz)∧K (.op k n.toNat 0)
   | _,_=>False
 | .rp cs off,.v (.int _ n)=>match sR P t with
   | some (m,s,_)=>(gt G→0≤n∧n<m)∧K (.rp cs (off+n.toNat*s))
   | none=>False
 | .op k j f,.v (.int _ n)=>match sR P t with
   | some (m,s,_)=>(gt G→0≤n∧n<m)∧K (.op k j (f+n.toNat*s))
   | none=>False
 | _,_=>False
def jS(P:Program)(t:TypeId)(f:Nat)(x:AV)(K:AV→Prop):Prop:=
 match x with
 | .rp cs off=>match aK P t f with
   | some (o,_)=>K (.rp cs (off+o))
   | none=>False
 | .op k i g=>match aK P t f with
   | some (o,_)=>K (.op k i (g+o))
   | none=>False
 | _=>False
def pV(places:List (Nat×Nat)):List AV→List (Nat×List AV)→Option (List AV)
 | cs,[]=>some cs
 | cs,(i,x)::rest=>match places[i]? with
   | some (off,n)=>if x.length=n∧off+n≤cs.length then pV places (cs.take off++x++cs.drop (off+n)) rest else none
   | none=>none
def oN(G:Option Bool)(ρ:Env):List (Nat×Operand)→(List (Nat×List AV)→Prop)→Prop
 | [],K=>K []
 | (i,x)::rest,K=>bO G (aev ρ x) fun y=>mC y fun cs=>oN G ρ rest fun l=>K ((i,cs)::l)
def yI(G:Option Bool)(ρ:Env):List Operand→(List AV→Prop)→Prop
 | [],K=>K []
 | x::rest,K=>bO G (aev ρ x) fun y=>yI G ρ rest fun l=>K (y::l)
def uZ(P:Program)(t:TypeId)(parts:List (Nat×List AV))(K:AV→Prop):Prop:=
 match eM P t,fK P t with
 | some z,some pl=>match pV pl z parts with
   | some cs=>K (.agg cs)
   | none=>False
 | _,_=>False
def Iv:Nat→Nat→List Nat
 | _,0=>[]
 | i,n+1=>i::Iv (i+1) n
def eI(n:Nat):List (List AV)→Prop
 | []=>True
 | cs::r=>cs.length=n∧eI n r
def mH(P:Program)(G:Option Bool)(t:TypeId)(x:AV)(lo hi:Option AV)(K:AV→Prop):Prop:=
 match x,lo,hi with
 | .sl es,some (.v (.int _ a)),some (.v (.int _ b))=>match cK P t with
   | some (_,sz,_)=>(gt G→(0≤a∧a≤b∧b≤es.length)∧eI sz es)∧K (.sl ((es.take b.toNat).drop a.toNat))
   | none=>False
 | .sl es,some (.v (.int _ a)),none=>match cK P t with
   | some (_,sz,_)=>(gt G→(0≤a∧a≤es.length)∧eI sz es)∧K (.sl (es.drop a.toNat))
   | none=>False
 | .sl es,none,some (.v (.int _ b))=>match cK P t with
   | some _=>(gt G→0≤b∧b≤es.length)∧K (.sl (es.take b.toNat))
   | none=>False
 | .v (.string s),some (.v (.int _ a)),some (.v (.int _ b))=>
   if dS P t then(gt G→0≤a∧a≤b∧b≤s.size)∧K (.v (.string (s.extract a.toNat b.toNat)))else False
 | .v (.string s),some (.v (.int _ a)),none=>
   if dS P t then(gt G→0≤a∧a≤s.size)∧K (.v (.string (s.extract a.toNat s.size)))else False
 | .v (.string s),none,some (.v (.int _ b))=>
   if dS P t then(gt G→0≤b∧b≤s.size)∧K (.v (.string (s.extract 0 b.toNat)))else False
 | _,_,_=>False
def asl(P:Program)(G:Option Bool)(H:aG)(t:TypeId)(x:AV)(lo hi:Option AV)(K:AV→Prop):Prop:=
 match x with
 | .os k=>match H k,cK P t with
   | some r,some (_,sz,_)=>match lo,hi with
     | some (.v (.int _ a)),some (.v (.int _ b))=>(gt G→(0≤a∧a≤b∧b≤r.es.length)∧r.sz=sz)∧K (.oz k a.toNat b.toNat)
     | some (.v (.int _ a)),none=>(gt G→(0≤a∧a≤r.es.length)∧r.sz=sz)∧K (.oz k a.toNat r.es.length)
     | none,some (.v (.int _ b))=>(gt G→(0≤b∧b≤r.es.length)∧r.sz=sz)∧K (.oz k 0 b.toNat)
     | _,_=>False
   | _,_=>False
 | x=>mH P G t x lo hi K
def Cc(P:Program)(G:Option Bool)(t:TypeId)(x a b:AV)(K:AV→Prop):Prop:=
 match x,a,b with
 | .sl es,.v (.int _ a),.v (.int _ b)=>match cK P t with
   | some _=>(gt G→a=es.length∧b=es.length)∧K (.cl es)
   | none=>False
 | _,_,_=>False
def tY(P:Program)(G:Option Bool)(t:TypeId)(x i:AV)(K:AV→Prop):Prop:=
 match x,i with
 | .v (.string s),.v (.int _ n)=>
   if dS P t then(gt G→0≤n∧n<s.size)∧K (.v (.int .u8 ((s.data.getD n.toNat 0).toNat:Int)))else False
 | .agg cs,.v (.int _ n)=>match sR P t with
   | some (m,s,l)=>(gt G→0≤n∧n<m)∧apart G (n.toNat*s) l (.agg cs) K
   | none=>False
 | _,_=>False
def aun(op:UnOp)(x:AV)(K:AV→Prop):Prop:=
 match op,x with
 | .not,.v (.bool b)=>K (.v (.bool !b))
 | .neg,.v (.int k n)=>K (.v (.int k (k.wrap (0-n))))
 | _,_=>False
def pS:List (List AV)→Option (List Int)
 | []=>some []
 | [.v (.int .u8 n)]::r=>(pS r).map (n::·)
 | _=>none
def Be(P:Program)(t:TypeId):Bool:=
 match P.underlying t with
 | some (.slice e)=>match P.underlying e with
   | some (.int .u8)=>true
   | _=>false
 | _=>false
def ED(P:Program)(t:TypeId):Option IntKind:=match P.underlying t with|some (.int k)=>some k|_=>none
def vL(P:Program)(src dst:TypeId)(x:AV)(K:AV→Prop):Prop:=
 match x with
 | .v (.int _ n)=>match ED P dst,ED P src with
   | some k,some _=>K (.v (.int k (k.wrap n)))
   | _,_=>False
 | .v (.string s)=>if dS P src∧dS P dst then K (.v (.string s))else False
 | .sl es => if Be P src ∧ dS P dst then
     match pS es with
     | some ns=>K (.v (.string (strOfNums ns)))
     | none=>False
   else False
 | _=>False
def qW:Operand→Bool
 | .const (.slice none 0 0)=>true
 | _=>false
def pR(op:BinOp)(x:AV)(K:AV→Prop):Prop:=
 match op,x with
 | .eql,.sl es=>(es=[]→K (.v (.bool true)))∧K (.v (.bool false))
 | .neq,.sl es=>(es=[]→K (.v (.bool false)))∧K (.v (.bool true))
 | .eql,.os _=>K (.v (.bool true))∧K (.v (.bool false))
 | .neq,.os _=>K (.v (.bool false))∧K (.v (.bool true))
 | .eql,.v (.slice none 0 0)=>K (.v (.bool true))
 | .neq,.v (.slice none 0 0)=>K (.v (.bool false))
 | _,_=>False
def gS(P:Program)(G:Option Bool)(ρ:Env)(H:aG)(op:Op)(K:AV→Prop):Prop:=
 match op with
 | .move x| .assign x=>bO G (aev ρ x) K
 | .pick c a b=>bO G (aev ρ c) fun
   | .v (.bool c)=>yJ G c (aev ρ a) (aev ρ b) K
   | _=>False
 | .build t parts=>oN G ρ parts.toList fun l=>uZ P t l K
 | .load t a=>match ldT P t with
   | some l=>bO G (aev ρ a) fun a=>nY G H l a K
   | none=>False
 | .nilCheck x=>bO G (aev ρ x) fun
   | .rp cs off=>K (.rp cs off)
   | .op k i f=>K (.op k i f)
   | _=>False
 | .binOp op t x y _=>if qW y=true then bO G (aev ρ x) fun x=>cU P t=true∧pR op x K else bO G (aev ρ x) fun x=>bO G (aev ρ y) fun y=>gN P G op t x y K
 | .unOp op _ x=>bO G (aev ρ x) fun x=>aun op x K
 | .convert src dst x=>bO G (aev ρ x) fun x=>vL P src dst x K
 | .slice t x lo hi none=>bO G (aev ρ x) fun x=>match lo,hi with
   | some lo,some hi=>bO G (aev ρ lo) fun lo=>bO G (aev ρ hi) fun hi=>asl P G H t x (some lo) (some hi) K
   | some lo,none=>bO G (aev ρ lo) fun lo=>asl P G H t x (some lo) none K
   | none,some hi=>bO G (aev ρ hi) fun hi=>asl P G H t x none (some hi) K
   | none,none=>False
 | .slice t x none (some hi) (some m)=>bO G (aev ρ x) fun x=>bO G (aev ρ hi) fun hi=>bO G (aev ρ m) fun m=>Cc P G t x hi m K
 | .fieldAddr t x f=>bO G (aev ρ x) fun x=>jS P t f x K
 | .field t x f=>match aK P t f with
   | some (o,l)=>bO G (aev ρ x) fun x=>apart G o l x K
   | none=>False
 | .indexAddr t x i=>bO G (aev ρ x) fun x=>bO G (aev ρ i) fun i=>fV P G H t x i K
 | .index t x i=>bO G (aev ρ x) fun x=>bO G (aev ρ i) fun i=>tY P G t x i K
 | .extract x i=>bO G (aev ρ x) fun
   | .tup vs=>(gt G→i<vs.length)∧K (vs.getD i .any)
   | _=>False
 | .lookup t x i ok=>bO G (aev ρ x) fun x=>bO G (aev ρ i) fun i=>xO P H t x i ok K
 | .makeFunc f first cap=>match f with
   | .func f=>first=#[]∧yI G ρ cap.toList fun l=>K (.fn f l)
   | _=>False
 | _=>False
def cN(ops:Array Oper)(ρ:Env)(g:Option (Nat×Bool))(K:Option Bool→Prop):Prop:=
 match g with
 | none=>K none
 | some (j,want)=>match (ops[j]?).bind (·.dst)with
   | some t=>match ρ t with
     | .v (.bool b)=>K (some (b == want))
     | .gd g (.v (.bool b))=>K (some (g&&(b == want)))
     | _=>False
   | none=>False
def uL(mt:Nat→Bool):Option Nat→Bool
 | some d=>mt d
 | none=>false
def oI(H:aG)(r:Row)(K:Nat→aG→Prop):Prop:=∀k,H k=none→K k (aI H k (some r))
def nZ(cs:List AV)(f:Nat)(xs:List AV):List AV:=cs.take f++xs++cs.drop (f+xs.length)
def jZ:List (Nat×TypeId×Nat)→List AV→aG→(List AV→aG→Prop)→Prop
 | [],cs,H,K=>K cs H
 | x::r,cs,H,K=>oI H ⟨x.2.1,x.2.2,[]⟩ fun k H'=>jZ r (cs.set x.1 (.os k)) H' K
def zZ(P:Program)(mt:Nat→Bool)(quiet:Bool)(G:Option Bool)(o:Oper)(x:Operand)(ρ:Env)(H:aG)(K:Env→aG→Prop):Prop:=
 if uL mt o.dst=true∧G=none∧quiet=false∧qW x=true then
   match cK P o.type with
   | some (e,sz,_)=>oI H ⟨e,sz,[]⟩ fun k H'=>K (upd ρ o.dst (.os k)) H'
   | none=>False
 else bO G (aev ρ x) fun y=>K (upd ρ o.dst (wr G y)) H
def XE(mt:Nat→Bool)(o:Oper)(t:TypeId)(cs:List AV)(ρ:Env)(H:aG)(K:Env→aG→Prop):Prop:=
 if uL mt o.dst=true then
   0<cs.length∧oI H ⟨t,cs.length,[cs]⟩ fun k H'=>K (upd ρ o.dst (.op k 0 0)) H'
 else K (upd ρ o.dst (.rp cs 0)) H
def nD(P:Program)(mt:Nat→Bool)(G:Option Bool)(o:Oper)(t:TypeId)(n:Nat)(parts:List (Nat×List AV))(ρ:Env)(H:aG)(K:Env→aG→Prop):Prop:=
 match cK P t with
 | some (e,sz,_)=>
   (parts.map (·.1)=Iv 0 n∧eI sz (parts.map (·.2))∧n*sz≤16777216) ∧
   (if uL mt o.dst=true∧G=none then oI H ⟨e,sz,parts.map (·.2)⟩ fun k H'=>K (upd ρ o.dst (.os k)) H'
    else K (upd ρ o.dst (wr G (.sl (parts.map (·.2))))) H)
 | none=>False
def wM(P:Program)(o:Oper)(t:TypeId)(a:AV)(cs:List AV)(ρ:Env)(H:aG)(K:Env→aG→Prop):Prop:=
 match a with
 | .op k i f=>match H k,ldT P t with
   | some r, some l => (i < r.es.length ∧ cs.length = l.getD 1 ∧ f + cs.length ≤ r.sz ∧ (l = none → ∃ i, P.info? t = some i ∧ i.size = 1)) ∧
       K (upd ρ o.dst .any) (aI H k (some { r with es:=r.es.set i (nZ (r.es.getD i []) f cs) }))
   | _,_=>False
 | _=>False
def sD(P:Program)(o:Oper)(t:TypeId)(a:AV)(cs:List AV)(ρ:Env)(H:aG)(K:Env→aG→Prop):Prop:=
 wM P o t a cs ρ H K∨((ldT P t).isSome=true∧∃nl:List (Nat×TypeId×Nat),(∀x∈nl,cs[x.1]?=some (.v (.slice none 0 0))∧0<x.2.2)∧jZ nl cs H fun cs H=>wM P o t a cs ρ H K)
def xG(x:Operand)(ρ:Env)(d:Option Nat)(H:aG)(K:Env→aG→Prop):Prop:=
 match x with
 | .tmp t=>match ρ t with
   | .os j=>match H j with
     | some r=>∀Hr:aG,Hr j=none→(∀k,k≠j→Hr k=H k)→K (upd (upd ρ (some t) (.sl r.es)) d (.sl r.es)) Hr
     | none=>False
   | _=>False
 | _=>False
theorem BA{t j:Nat}{r:Row}{ρ:Env}{d:Option Nat}{H:aG}{K:Env→aG→Prop}(hj:ρ t=.os j)(hr:H j=some r)(h:∀Hr:aG,Hr j=none→(∀k,k≠j→Hr k=H k)→K (upd (upd ρ (some t) (.sl r.es)) d (.sl r.es)) Hr):xG (.tmp t) ρ d H K:=by
 unfold xG;simp only[hj,hr];exact h
def Ek(l:List Nat)(H:aG):List AV→List AV→Prop
 | [],[]=>True
 | x::xs,y::ys=>(x=y∨∃j r,j∈l∧x=.os j∧H j=some r∧y=.sl r.es)∧Ek l H xs ys
 | _,_=>False
def Ey(x:AV)(ρ:Env)(d:Option Nat)(H:aG)(K:Env→aG→Prop):Prop:=
 match x with
 | .agg cs=>∃(l:List Nat) (ys:List AV),Ek l H cs ys∧∀Hr:aG,(∀k,k∈l→Hr k=none)→(∀k,¬k∈l→Hr k=H k)→K (upd ρ d (.agg ys)) Hr
 | _=>False
theorem X5{cs:List AV}{ρ:Env}{d:Option Nat}{H:aG}{K:Env→aG→Prop}(l:List Nat)(ys:List AV)(ht:Ek l H cs ys)(h:∀Hr:aG,(∀k,k∈l→Hr k=none)→(∀k,¬k∈l→Hr k=H k)→K (upd ρ d (.agg ys)) Hr):Ey (.agg cs) ρ d H K:=⟨l,ys,ht,h⟩
def D7(H:aG)(x:AV)(K:List (List AV)→Prop):Prop:=
 match x with
 | .sl es=>K es
 | .os k=>match H k with
   | some r=>K r.es
   | none=>False
 | .oz k a b=>match H k with
   | some r=>K ((r.es.take b).drop a)
   | none=>False
 | _=>False
def Nx(H:aG)(x:AV)(K:Nat→Nat→Nat→Row→Prop):Prop:=
 match x with
 | .os k=>match H k with
   | some r=>K k 0 r.es.length r
   | none=>False
 | .oz k a b=>match H k with
   | some r=>K k a (b-a) r
   | none=>False
 | _=>False
def UT(P:Program)(o:Oper)(t:TypeId)(x y:AV)(ρ:Env)(H:aG)(K:Env→aG→Prop):Prop:=
 Nx H x fun k a n r=>D7 H y fun news=>match cK P t with
   | some (_,sz,_)=>(r.sz=sz∧eI sz news)∧K (upd ρ o.dst (.v (.int .i64 (min news.length n:Nat)))) (aI H k (some { r with es:=r.es.take a++news.take (min news.length n)++r.es.drop (a+min news.length n) }))
   | none=>False
def In(P:Program)(o:Oper)(t:TypeId)(x:AV)(ρ:Env)(H:aG)(K:Env→aG→Prop):Prop:=
 Nx H x fun k a n r=>match cK P t with
   | some (e,sz,_)=>match eM P e with
     | some zs=>r.sz=sz∧K (upd ρ o.dst .any) (aI H k (some { r with es:=r.es.take a++List.replicate n zs++r.es.drop (a+n) }))
     | none=>False
   | none=>False
def xP(P:Program)(o:Oper)(t:TypeId)(s x:AV)(ρ:Env)(H:aG)(K:Env→aG→Prop):Prop:=
 match s,cK P t with
 | .os k,some (e,sz,bytes)=>match H k with
   | some r => D7 H x fun news =>
       (r.e=e∧r.sz=sz∧eI sz news∧(r.es.length+news.length)*bytes≤140737488355328) ∧
       ∀k',H k'=none→K (upd ρ o.dst (.os k')) (aI (aI H k none) k' (some ⟨e,sz,r.es++news⟩))
   | none=>False
 | .cl es, some (e, sz, bytes) => D7 H x fun news =>
     (news≠[]∧eI sz es∧eI sz news∧(es.length+news.length)*bytes≤140737488355328) ∧
     ∀k',H k'=none→K (upd ρ o.dst (.os k')) (aI H k' (some ⟨e,sz,es++news⟩))
 | _,_=>False
def Gq:List (Nat×TypeId×Nat)→List AV→List AV
 | [],z=>z
 | x::r,z=>Gq r (z.set x.1 (.v (.slice none 0 0)))
def xU(P:Program)(o:Oper)(t:TypeId)(parts:List (Nat×Operand))(ρ:Env)(H:aG)(K:Env→aG→Prop):Prop:=
 oN none ρ parts fun l=>match eM P t,fK P t,pL P t with
   | some z,some pl,some nl=>match pV pl (Gq nl z) l with
     | some cs=>K (upd ρ o.dst (.agg cs)) H
     | none=>False
   | _,_,_=>False
def zU(P:Program)(o:Oper)(t:TypeId)(parts:List (Nat×Operand))(ρ:Env)(H:aG)(K:Env→aG→Prop):Prop:=
 oN none ρ parts fun l=>match eM P t,fK P t,pL P t with
   | some z,some pl,some nl=>jZ nl z H fun z H=>match pV pl z l with
     | some cs=>K (upd ρ o.dst (.agg cs)) H
     | none=>False
   | _,_,_=>False
def mT(P:Program)(o:Oper)(t:TypeId)(m x v:AV)(ρ:Env)(H:aG)(K:Env→aG→Prop):Prop:=
 G5 P H t m x fun j r _ oi=>K (upd ρ o.dst .any) (aI H j (some { r with es:=mput r.es oi x v }))
def xK(P:Program)(o:Oper)(t:TypeId)(m x:AV)(ρ:Env)(H:aG)(K:Env→aG→Prop):Prop:=
 G5 P H t m x fun j r kt oi=>match oi with
   | some i=>K (upd ρ o.dst (.tup [(r.es.getD i []).getD 1 .any,.v (.int .i64 i)])) H
   | none=>match PI P kt.2 with
     | some z=>K (upd ρ o.dst (.tup [z,.v (.int .i64 r.es.length)])) (aI H j (some { r with es:=r.es++[[x,z]] }))
     | none=>False
def rV(o:Oper)(m s v:AV)(ρ:Env)(H:aG)(K:Env→aG→Prop):Prop:=
 match m,s with
 | .om j,.v (.int _ i)=>match H j with
   | some r=>(0≤i∧i<r.es.length)∧K (upd ρ o.dst .any) (aI H j (some { r with es:=r.es.set i.toNat [(r.es.getD i.toNat []).getD 0 .any,v] }))
   | none=>False
 | _,_=>False
def qT(P:Program)(o:Oper)(t:TypeId)(l c:AV)(ρ:Env)(H:aG)(K:Env→aG→Prop):Prop:=
 match l,c with
 | .v (.int _ a),.v (.int _ b)=>match cK P t with
   | some (e,sz,bytes)=>match eM P e with
     | some z=>((0≤a∧a≤b)∧(bytes:Int)*b≤140737488355328)∧oI H ⟨e,sz,List.replicate a.toNat z⟩ fun k H'=>K (upd ρ o.dst (.os k)) H'
     | none=>False
   | none=>False
 | _,_=>False
def JZ:AV→Option (FuncId×List AV×List AV)
 | .v (.func (.func f) first captured)=>some (f,first.toList.map .v,captured.toList.map .v)
 | .fn f cap=>some (f,[],cap)
 | _=>none
def aE(P:Program)(f:FuncId):Bool:=match P.funcs[f]? with|some fn=>fn.name != "runtime.NumGoroutine" && fn.body.isSome|none=>false
abbrev lK:=FuncId→List AV→aG→(AV→aG→Prop)→Prop
def nfq(quiet:Bool)(r:AV)(K:AV→Prop):Prop:=match quiet,r with
 | true,.nf _=>False
 | false,.nf x=>K x
 | _,r=>K r
def AL(P:Program)(C:lK)(PC:FuncId→List AV→aG→AV→Prop)(quiet:Bool)(G:Option Bool)(o:Oper)(c:Call)(ρ:Env)(H:aG)(K:Env→aG→Prop):Prop:=
 match c.callee with
 | .builtin b=>yI G ρ c.args.toList fun l=>match b,l,c.argTypes.toList with
   | .len,[x],[t]=>ES P H t x fun y=>K (upd ρ o.dst (wr G y)) H
   | .append,[s,x],[t,t']=>if t=t'∧G=none∧quiet=false then xP P o t s x ρ H K else False
   | .copy,[x,y],[t,_]=>if G=none∧quiet=false then UT P o t x y ρ H K else False
   | .clear,[x],[t]=>if G=none∧quiet=false then In P o t x ρ H K else False
   | .max,[x,y],[_,_]=>Nc x y fun z=>K (upd ρ o.dst (wr G z)) H
   | .min,[x,y],[_,_]=>Mk x y fun z=>K (upd ρ o.dst (wr G z)) H
   | _,_,_=>False
 | .value f=>bO G (aev ρ f) fun x=>match JZ x with
   | some (f,first,captured)=>yI G ρ c.args.toList fun l=>
     aE P f=true∧if G=none∧quiet=false then C f (first++l++captured) H fun r H'=>K (upd ρ o.dst r) H'
     else ∃r,(gt G→PC f (first++l++captured) H r)∧nfq quiet r fun r=>K (upd ρ o.dst (wr G r)) H
   | none=>False
 | .invoke _ _=>False
def aop(P:Program)(C:lK)(PC:FuncId→List AV→aG→AV→Prop)(mt:Nat→Bool)(quiet:Bool)(ops:Array Oper)(o:Oper)(ρ:Env)(H:aG)(K:Env→aG→Prop):Prop:=
 cN ops ρ o.guard fun G=>
 match o.op with
 | .assign x=>zZ P mt quiet G o x ρ H K
 | .alloc t=>match eM P t with
   | some z => G = none ∧ quiet = false ∧ (if uL mt o.dst = true then match pL P t with
       | some nl=>jZ nl z H fun z H=>oI H ⟨t,z.length,[z]⟩ fun k H'=>K (upd ρ o.dst (.op k 0 0)) H'
       | none=>False
     else oI H ⟨t,z.length,[z]⟩ fun k H'=>K (upd ρ o.dst (.op k 0 0)) H')
   | none=>False
 | .box t x=>G=none∧quiet=false∧bO G (aev ρ x) fun x=>mC x fun cs=>XE mt o t cs ρ H K
 | .buildSlice t n parts=>quiet=false∧oN G ρ parts.toList fun l=>nD P mt G o t n l ρ H K
 | .store t a x => G = none ∧ quiet = false ∧ (if qW x = true then bO G (aev ρ a) fun a => match cK P t with
       | some (e,sz,_)=>oI H ⟨e,sz,[]⟩ fun k H=>sD P o t a [.os k] ρ H K
       | none=>False
     else bO G (aev ρ a) fun a=>bO G (aev ρ x) fun x=>mC x fun cs=>sD P o t a cs ρ H K)
 | .call c=>AL P C PC quiet G o c ρ H K
 | .move x=>if uL mt o.dst=true then G=none∧quiet=false∧xG x ρ o.dst H K else gS P G ρ H (.move x) fun x=>K (upd ρ o.dst (wr G x)) H
 | .pick c a b=>gS P G ρ H (.pick c a b) fun x=>K (upd ρ o.dst (wr G x)) H
 | .build t parts=>if uL mt o.dst=true then G=none∧(if quiet=true then xU P o t parts.toList ρ H K else zU P o t parts.toList ρ H K)else gS P G ρ H (.build t parts) fun x=>K (upd ρ o.dst (wr G x)) H
 | .load t a=>if uL mt o.dst=true then G=none∧quiet=false∧gS P none ρ H (.load t a) fun x=>Ey x ρ o.dst H K else gS P G ρ H (.load t a) fun x=>K (upd ρ o.dst (wr G x)) H
 | .nilCheck x=>gS P G ρ H (.nilCheck x) fun x=>K (upd ρ o.dst (wr G x)) H
 | .binOp op t x y t'=>gS P G ρ H (.binOp op t x y t') fun x=>K (upd ρ o.dst (wr G x)) H
 | .unOp op t x=>gS P G ρ H (.unOp op t x) fun x=>K (upd ρ o.dst (wr G x)) H
 | .convert s d x=>gS P G ρ H (.convert s d x) fun x=>K (upd ρ o.dst (wr G x)) H
 | .slice t x lo hi m=>gS P G ρ H (.slice t x lo hi m) fun x=>K (upd ρ o.dst (wr G x)) H
 | .fieldAddr t x f=>gS P G ρ H (.fieldAddr t x f) fun x=>K (upd ρ o.dst (wr G x)) H
 | .field t x f=>gS P G ρ H (.field t x f) fun x=>K (upd ρ o.dst (wr G x)) H
 | .indexAddr t x i=>gS P G ρ H (.indexAddr t x i) fun x=>K (upd ρ o.dst (wr G x)) H
 | .index t x i=>gS P G ρ H (.index t x i) fun x=>K (upd ρ o.dst (wr G x)) H
 | .extract x i=>gS P G ρ H (.extract x i) fun x=>K (upd ρ o.dst (wr G x)) H
 | .makeFunc f a b=>gS P G ρ H (.makeFunc f a b) fun x=>K (upd ρ o.dst (wr G x)) H
 | .makeSlice t l c=>G=none∧quiet=false∧bO G (aev ρ l) fun l=>bO G (aev ρ c) fun c=>qT P o t l c ρ H K
 | .lookup t x i ok=>gS P G ρ H (.lookup t x i ok) fun x=>K (upd ρ o.dst (wr G x)) H
 | .makeMap _ none=>G=none∧quiet=false∧oI H ⟨0,2,[]⟩ fun k H'=>K (upd ρ o.dst (.om k)) H'
 | .mapUpdate t m x v=>G=none∧quiet=false∧bO G (aev ρ m) fun m=>bO G (aev ρ x) fun x=>bO G (aev ρ v) fun v=>mT P o t m x v ρ H K
 | .insert t m x v=>G=none∧quiet=false∧bO G (aev ρ m) fun m=>bO G (aev ρ x) fun x=>bO G (aev ρ v) fun v=>mT P o t m x v ρ H K
 | .mapEntry t m x=>G=none∧quiet=false∧bO G (aev ρ m) fun m=>bO G (aev ρ x) fun x=>xK P o t m x ρ H K
 | .entryStore _ m s v=>G=none∧quiet=false∧bO G (aev ρ m) fun m=>bO G (aev ρ s) fun s=>bO G (aev ρ v) fun v=>rV o m s v ρ H K
 | _=>False
def uB(P:Program)(C:lK)(PC:FuncId→List AV→aG→AV→Prop)(mt:Nat→Bool)(quiet:Bool)(ops:Array Oper)(K:Env→aG→Prop):List Oper→Env→aG→Prop
 | [],ρ,H=>K ρ H
 | o::rest,ρ,H=>aop P C PC mt quiet ops o ρ H (uB P C PC mt quiet ops K rest)
def Ex.seq(K:Env→aG→Prop)(Q:Ex→Env→aG→Prop):Ex→Env→aG→Prop
 | .normal,ρ,H=>K ρ H
 | e,ρ,H=>Q e ρ H
def Ex.blk(id:Nat)(Q:Ex→Env→aG→Prop):Ex→Env→aG→Prop
 | .exit i,ρ,H=>if i=id then Q .normal ρ H else Q (.exit i) ρ H
 | e,ρ,H=>Q e ρ H
def Pa(W:(Ex→Env→aG→Prop)→Env→aG→Prop)(Q:Ex→Env→aG→Prop)(ρ:Env)(H:aG):Prop:=
 ∃(I:Env→aG→Prop) (μ:Env→aG→Nat),I ρ H∧∀ρ' H',I ρ' H'→W (Ex.seq (fun ρ'' H''=>I ρ'' H''∧μ ρ'' H''<μ ρ' H') Q) ρ' H'
def Ze(mt:Nat→Bool)(o:Oper):Bool:=match o.op with
 | .alloc _=>true
 | .buildSlice ..=>true
 | .store ..=>true
 | .makeSlice ..=>true
 | .makeMap ..=>true
 | .mapUpdate ..=>true
 | .insert ..=>true
 | .mapEntry ..=>true
 | .entryStore ..=>true
 | .call ⟨.builtin .append,_,_⟩=>true
 | .call ⟨.builtin .copy,_,_⟩=>true
 | .call ⟨.builtin .clear,_,_⟩=>true
 | _=>uL mt o.dst
def Pu(mt:Nat→Bool):List Oper→Nat
 | []=>0
 | o::r=>if Ze mt o=true then 0 else Pu mt r+1
def PR(ops:Array Oper)(n:Nat):Bool:=Region.noSelect ops&&decide (n≤ops.size)&&Region.lexHead .any ops (ops.size-n) n 0 (Array.replicate ops.size false)
def qH(o:Oper)(H:aG):aG:=match o.op with
 | .slice ..=>H
 | _=>fun _=>none
def vR(P:Program)(C:lK)(PC:FuncId→List AV→aG→AV→Prop)(mt:Nat→Bool)(ops:Array Oper)(K:Env→aG→Prop):List (Nat×Bool)→Env→aG→Prop
 | [],ρ,H=>K ρ H
 | (k,b)::f,ρ,H=>match ops[k]? with
   | some o=>if b=true then aop P C PC mt true ops o ρ (qH o H) fun ρ' _=>vR P C PC mt ops K f ρ' H
     else aop P C PC mt false ops o ρ H (vR P C PC mt ops K f)
   | none=>False
def pK(P:Program)(C:lK)(PC:FuncId→List AV→aG→AV→Prop)(mt:Nat→Bool)(ops:Array Oper)(K:Env→aG→Prop)(Hp:aG):List (Nat×Bool)→Env→aG→Prop
 | [],ρ,H=>K ρ H
 | (k,b)::f,ρ,H=>match ops[k]? with
   | some o=>if b=true then aop P C PC mt true ops o ρ Hp fun ρ' _=>pK P C PC mt ops K Hp f ρ' H
     else aop P C PC mt false ops o ρ H (pK P C PC mt ops K Hp f)
   | none=>False
def lM(l:List Nat)(H:aG)(K:Env→aG→Prop)(ρ':Env)(H':aG):Prop:=
 (∀k,k∈l→H' k=none)→∀Hm:aG,(∀k,k∈l→Hm k=H k)→(∀k,k∉l→Hm k=H' k)→K ρ' Hm
theorem kO{l:List Nat}{H:aG}{K:Env→aG→Prop}{ρ':Env}{H':aG}(h:(∀k,k∈l→H' k=none)→∀Hm:aG,(∀k,k∈l→Hm k=H k)→(∀k,k∉l→Hm k=H' k)→K ρ' Hm):lM l H K ρ' H':=h
def nP(ops:Array Oper):List (Nat×Bool)→Array Bool→Bool
 | [],listed=>(Region.ready .any ops listed).isEmpty
 | (k,true)::f,listed=>(Region.ready .any ops listed).contains k&&Region.free .any ops listed k&&nP ops f (listed.setIfInBounds k true)
 | (k,false)::f,listed=>decide (Region.ready .any ops listed=[k])&&nP ops f (listed.setIfInBounds k true)
def KG(ops:Array Oper)(f:List (Nat×Bool)):Bool:=Region.noSelect ops&&decide (f.length=ops.size)&&nP ops f (Array.replicate ops.size false)
inductive Mx where
 | nil
 | q (k:Nat) (t:Mx)
 | a1 (k:Nat) (t:Mx)
 | a2 (k:Nat) (t:Mx) (k':Nat) (t':Mx)
 | a3 (k:Nat) (t:Mx) (k':Nat) (t':Mx) (k'':Nat) (t'':Mx)
def zB(P:Program)(C:lK)(PC:FuncId→List AV→aG→AV→Prop)(mt:Nat→Bool)(quiet:Bool)(ops:Array Oper)(k:Nat)(ρ:Env)(H:aG)(K:Env→aG→Prop):Prop:=
 match ops[k]? with
 | some o=>aop P C PC mt quiet ops o ρ H K
 | none=>False
def mK(P:Program)(C:lK)(PC:FuncId→List AV→aG→AV→Prop)(mt:Nat→Bool)(ops:Array Oper)(K:Env→aG→Prop)(Hp:aG):Mx→Env→aG→Prop
 | .nil,ρ,H=>K ρ H
 | .q k t,ρ,H=>zB P C PC mt true ops k ρ Hp fun ρ' _=>mK P C PC mt ops K Hp t ρ' H
 | .a1 k t,ρ,H=>zB P C PC mt false ops k ρ H (mK P C PC mt ops K Hp t)
 | .a2 k t k' t',ρ,H=>zB P C PC mt false ops k ρ H (mK P C PC mt ops K Hp t)∧zB P C PC mt false ops k' ρ H (mK P C PC mt ops K Hp t')
 | .a3 k t k' t' k'' t'',ρ,H=>zB P C PC mt false ops k ρ H (mK P C PC mt ops K Hp t)∧zB P C PC mt false ops k' ρ H (mK P C PC mt ops K Hp t')∧zB P C PC mt false ops k'' ρ H (mK P C PC mt ops K Hp t'')
def fZ(ops:Array Oper):Mx→Nat→Array Bool→Bool
 | .nil,0,listed=>(Region.ready .any ops listed).isEmpty
 | .q k t,n+1,listed=>(Region.ready .any ops listed).contains k&&Region.free .any ops listed k&&fZ ops t n (listed.setIfInBounds k true)
 | .a1 k t,n+1,listed=>decide (Region.ready .any ops listed=[k])&&fZ ops t n (listed.setIfInBounds k true)
 | .a2 k t k' t',n+1,listed=>decide (Region.ready .any ops listed=[k,k'])&&fZ ops t n (listed.setIfInBounds k true)&&fZ ops t' n (listed.setIfInBounds k' true)
 | .a3 k t k' t' k'' t'',n+1,listed=>decide (Region.ready .any ops listed=[k,k',k''])&&fZ ops t n (listed.setIfInBounds k true)&&fZ ops t' n (listed.setIfInBounds k' true)&&fZ ops t'' n (listed.setIfInBounds k'' true)
 | _,_,_=>false
def J4(ops:Array Oper)(t:Mx):Bool:=Region.noSelect ops&&fZ ops t ops.size (Array.replicate ops.size false)
def sC(P:Program)(C:lK)(PC:FuncId→List AV→aG→AV→Prop)(mt:Nat→Bool)(ops:Array Oper)(K:Env→aG→Prop)(m:Nat)(ρ:Env)(H:aG):Prop:=
 (m=ops.size∧Region.lexB .any ops=true∧uB P C PC mt true ops K ops.toList ρ H) ∨
 (PR ops m=true∧uB P C PC mt true ops (fun ρ' _=>uB P C PC mt false ops K (ops.toList.drop m) ρ' H) (ops.toList.take m) ρ fun _=>none) ∨
 (∃f,KG ops f=true∧vR P C PC mt ops K f ρ H) ∨
 (∃l f,(∀k,k∈l→(H k).isSome=true)∧KG ops f=true∧∀Hp Hr:aG,(∀k,k∈l→Hp k=H k)→(∀k,k∉l→Hr k=H k)→(∀k,k∉l→Hp k=none)→(∀k,k∈l→Hr k=none)→pK P C PC mt ops (lM l H K) Hp f ρ Hr) ∨
 ∃l t,(∀k,k∈l→(H k).isSome=true)∧J4 ops t=true∧∀Hp Hr:aG,(∀k,k∈l→Hp k=H k)→(∀k,k∉l→Hr k=H k)→(∀k,k∉l→Hp k=none)→(∀k,k∈l→Hr k=none)→mK P C PC mt ops (lM l H K) Hp t ρ Hr
theorem gA{P : Program}{C : lK}{PC : FuncId → List AV → aG → AV → Prop}{mt : Nat → Bool}{l : List Oper}{K : Env → aG → Prop}{m : Nat}{ρ : Env}{H : aG}(hm : (m == l.length) = true)(hl : Region.lexB .any l.toArray = true)
 (h:uB P C PC mt true l.toArray K l ρ H):sC P C PC mt l.toArray K m ρ H:=.inl ⟨by simpa using hm,hl,h⟩
theorem IL{P : Program}{C : lK}{PC : FuncId → List AV → aG → AV → Prop}{mt : Nat → Bool}{l : List Oper}{K : Env → aG → Prop}{m : Nat}{ρ : Env}{H : aG}(hB : PR l.toArray m = true)
 (h:uB P C PC mt true l.toArray (fun ρ' _=>uB P C PC mt false l.toArray K (l.drop m) ρ' H) (l.take m) ρ fun _=>none):sC P C PC mt l.toArray K m ρ H:=.inr (.inl ⟨hB,h⟩)
theorem jF{P : Program}{C : lK}{PC : FuncId → List AV → aG → AV → Prop}{mt : Nat → Bool}{l : List Oper}{K : Env → aG → Prop}{m : Nat}{ρ : Env}{H : aG}(f : List (Nat × Bool))(hB : KG l.toArray f = true)
 (h:vR P C PC mt l.toArray K f ρ H):sC P C PC mt l.toArray K m ρ H:=.inr (.inr (.inl ⟨f,hB,h⟩))
theorem dH{P : Program}{C : lK}{PC : FuncId → List AV → aG → AV → Prop}{mt : Nat → Bool}{ops : List Oper}{K : Env → aG → Prop}{m : Nat}{ρ : Env}{H : aG}(l : List Nat)(f : List (Nat × Bool))(hl : ∀ k, k ∈ l → (H k).isSome = true)(hB : KG ops.toArray f = true)
 (h:∀Hp Hr:aG,(∀k,k∈l→Hp k=H k)→(∀k,k∉l→Hr k=H k)→(∀k,k∉l→Hp k=none)→(∀k,k∈l→Hr k=none)→pK P C PC mt ops.toArray (lM l H K) Hp f ρ Hr):sC P C PC mt ops.toArray K m ρ H:=.inr (.inr (.inr (.inl ⟨l,f,hl,hB,h⟩)))
theorem AC{P : Program}{C : lK}{PC : FuncId → List AV → aG → AV → Prop}{mt : Nat → Bool}{ops : List Oper}{K : Env → aG → Prop}{m : Nat}{ρ : Env}{H : aG}(l : List Nat)(t : Mx)(hl : ∀ k, k ∈ l → (H k).isSome = true)(hB : J4 ops.toArray t = true)
 (h:∀Hp Hr:aG,(∀k,k∈l→Hp k=H k)→(∀k,k∉l→Hr k=H k)→(∀k,k∉l→Hp k=none)→(∀k,k∈l→Hr k=none)→mK P C PC mt ops.toArray (lM l H K) Hp t ρ Hr):sC P C PC mt ops.toArray K m ρ H:=.inr (.inr (.inr (.inr ⟨l,t,hl,hB,h⟩)))
def awp(P:Program)(C:lK)(PC:FuncId→List AV→aG→AV→Prop)(mt:Nat→Bool):Code→(Ex→Env→aG→Prop)→Env→aG→Prop
 | .skip,Q,ρ,H=>Q .normal ρ H
 | .region _ ops draw,Q,ρ,H=>if draw=true then sC P C PC mt ops (Q .normal) (Pu mt ops.toList) ρ H else uB P C PC mt false ops (Q .normal) ops.toList ρ H
 | .seq a b,Q,ρ,H=>awp P C PC mt a (Ex.seq (awp P C PC mt b Q) Q) ρ H
 | .cond c a b,Q,ρ,H=>match aev ρ c with
   | .v (.bool t)=>(t=true→awp P C PC mt a Q ρ H)∧(t=false→awp P C PC mt b Q ρ H)
   | _=>False
 | .block id c,Q,ρ,H=>awp P C PC mt c (Ex.blk id Q) ρ H
 | .loop c,Q,ρ,H=>Pa (awp P C PC mt c) Q ρ H
 | .scope c,Q,ρ,H=>awp P C PC mt c Q ρ H
 | .label _,Q,ρ,H=>Q .normal ρ H
 | .exit id,Q,ρ,H=>Q (.exit id) ρ H
 | .ret,Q,ρ,H=>Q .ret ρ H
 | _,_,_,_=>False
def wI(x:AV)(A B:Env→aG→Prop)(ρ:Env)(H:aG):Prop:=
 match x with
 | .v (.bool t)=>(t=true→A ρ H)∧(t=false→B ρ H)
 | _=>False
section
variable{P:Program}{C:lK}{PC:FuncId→List AV→aG→AV→Prop}{mt:Nat→Bool}{Q:Ex→Env→aG→Prop}{K:Env→aG→Prop}{ρ:Env}{H:aG}{a b c:Code}{id:Nat}{ops:Array Oper}{draw:Bool}
theorem TA:awp P C PC mt .skip Q ρ H=Q .normal ρ H:=(rfl)
theorem Dz:awp P C PC mt (.region id ops false) Q ρ H=uB P C PC mt false ops (Q .normal) ops.toList ρ H:=by simp[awp]
theorem Mc:awp P C PC mt (.region id ops true) Q ρ H=sC P C PC mt ops (Q .normal) (Pu mt ops.toList) ρ H:=by simp[awp]
@[congr] theorem adraw_c {m m':Nat} (h:m=m'):sC P C PC mt ops K m ρ H=sC P C PC mt ops K m' ρ H:=h▸rfl
theorem Pz:awp P C PC mt (.seq a b) Q ρ H=awp P C PC mt a (Ex.seq (awp P C PC mt b Q) Q) ρ H:=(rfl)
theorem Ld{x:Operand}:awp P C PC mt (.cond x a b) Q ρ H=wI (aev ρ x) (awp P C PC mt a Q) (awp P C PC mt b Q) ρ H:=(rfl)
theorem F9:awp P C PC mt (.block id c) Q ρ H=awp P C PC mt c (Ex.blk id Q) ρ H:=(rfl)
theorem JW:awp P C PC mt (.loop c) Q ρ H=Pa (awp P C PC mt c) Q ρ H:=(rfl)
theorem F6:awp P C PC mt (.scope c) Q ρ H=awp P C PC mt c Q ρ H:=(rfl)
theorem Ql{l:Nat}:awp P C PC mt (.label l) Q ρ H=Q .normal ρ H:=(rfl)
theorem Tf:awp P C PC mt (.exit id) Q ρ H=Q (.exit id) ρ H:=(rfl)
theorem W0:awp P C PC mt .ret Q ρ H=Q .ret ρ H:=(rfl)
theorem Ut:uB P C PC mt draw ops K [] ρ H=K ρ H:=(rfl)
theorem PY{o:Oper}{r:List Oper}:uB P C PC mt draw ops K (o::r) ρ H=aop P C PC mt draw ops o ρ H (uB P C PC mt draw ops K r):=(rfl)
theorem M4:Ex.seq K Q .normal ρ H=K ρ H:=(rfl)
theorem U6:Ex.seq K Q (.exit id) ρ H=Q (.exit id) ρ H:=(rfl)
theorem Yp:Ex.seq K Q .ret ρ H=Q .ret ρ H:=(rfl)
theorem NO:Ex.blk id Q .normal ρ H=Q .normal ρ H:=(rfl)
theorem O5:Ex.blk id Q .ret ρ H=Q .ret ρ H:=(rfl)
theorem Kq:Ex.blk id Q (.exit id) ρ H=Q .normal ρ H:=by simp[Ex.blk]
theorem PZ{i:Nat}(h:(i == id)=false):Ex.blk id Q (.exit i) ρ H=Q (.exit i) ρ H:=by
 have:i≠id:=by simpa using h
 simp[Ex.blk,this]
end
@[congr] theorem wopd_c {G x x' k} (h:x=x'):bO G x k=bO G x' k:=h▸rfl
@[congr] theorem abin_c {P G op t x x' y y' k} (h:x=x') (h':y=y'):gN P G op t x y k=gN P G op t x' y' k:=h▸h'▸rfl
@[congr] theorem apick_c {G c c' x x' y y' k} (h0:c=c') (h:x=x') (h':y=y'):yJ G c x y k=yJ G c' x' y' k:=h0▸h▸h'▸rfl
@[congr] theorem aload_c {G H l l' x x' k} (h:l=l') (h':x=x'):nY G H l x k=nY G H l' x' k:=h▸h'▸rfl
@[congr] theorem apart_c {G o o' l l' x x' k} (h0:o=o') (h:l=l') (h':x=x'):apart G o l x k=apart G o' l' x' k:=h0▸h▸h'▸rfl
@[congr] theorem alen_c {P H t x x' k} (h':x=x'):ES P H t x k=ES P H t x' k:=h'▸rfl
@[congr] theorem aindexAddr_c {P G H t x x' y y' k} (h:x=x') (h':y=y'):fV P G H t x y k=fV P G H t x' y' k:=h▸h'▸rfl
@[congr] theorem aindex_c {P G t x x' y y' k} (h:x=x') (h':y=y'):tY P G t x y k=tY P G t x' y' k:=h▸h'▸rfl
@[congr] theorem afieldAddr_c {P t f x x' k} (h':x=x'):jS P t f x k=jS P t f x' k:=h'▸rfl
@[congr] theorem abuild_c {P t l l' k} (h':l=l'):uZ P t l k=uZ P t l' k:=h'▸rfl
@[congr] theorem aslice_c {P G t x x' lo lo' hi hi' k} (h:x=x') (h1:lo=lo') (h2:hi=hi'):mH P G t x lo hi k=mH P G t x' lo' hi' k:=h▸h1▸h2▸rfl
@[congr] theorem aun_c {op x x' k} (h':x=x'):aun op x k=aun op x' k:=h'▸rfl
@[congr] theorem aconv_c {P s t x x' k} (h':x=x'):vL P s t x k=vL P s t x' k:=h'▸rfl
@[congr] theorem wcells_c {x x' K} (h:x=x'):mC x K=mC x' K:=h▸rfl
@[congr] theorem acond_c {x x' A B ρ H} (h':x=x'):wI x A B ρ H=wI x' A B ρ H:=h'▸rfl
@[congr] theorem abox_c {mt o t x x' ρ H K} (h:x=x'):XE mt o t x ρ H K=XE mt o t x' ρ H K:=h▸rfl
@[congr] theorem abuildSlice_c {P mt G o t n x x' ρ H K} (h:x=x'):nD P mt G o t n x ρ H K=nD P mt G o t n x' ρ H K:=h▸rfl
@[congr] theorem astore_c {P o t a a' x x' ρ H K} (h:a=a') (h':x=x'):wM P o t a x ρ H K=wM P o t a' x' ρ H K:=h▸h'▸rfl
@[congr] theorem aappend_c {P o t a a' x x' ρ H K} (h:a=a') (h':x=x'):xP P o t a x ρ H K=xP P o t a' x' ρ H K:=h▸h'▸rfl
@[congr] theorem asrc_c {H x x' K} (h:x=x'):D7 H x K=D7 H x' K:=h▸rfl
@[congr] theorem anew_c {H r r' K} (h:r=r'):oI H r K=oI H r' K:=h▸rfl
theorem aB{t:Bool}{A B:Env→aG→Prop}{ρ:Env}{H:aG}(h1:t=true→A ρ H)(h2:t=false→B ρ H):wI (.v (.bool t)) A B ρ H:=⟨h1,h2⟩
def Ir(args:List AV):Env:=fun t=>args.getD t .any
def bE:AV→Nat
 | .v (.int _ n)=>n.toNat
 | _=>0
theorem aJ{k n}:bE (.v (.int k n))=n.toNat:=(rfl)
section
variable{G:Option Bool}{k:AV→Prop}
theorem Sj{x}:bO G (.v x) k=k (.v x):=(rfl)
theorem JX:bO G .any k=k .any:=(rfl)
theorem OX{x}:bO G (.sl x) k=k (.sl x):=(rfl)
theorem Pj{x o}:bO G (.rp x o) k=k (.rp x o):=(rfl)
theorem Lx{x}:bO G (.agg x) k=k (.agg x):=(rfl)
theorem JU{x}:bO G (.tup x) k=k (.tup x):=(rfl)
theorem Pe{x}:bO G (.os x) k=k (.os x):=(rfl)
theorem Py{x i f}:bO G (.op x i f) k=k (.op x i f):=(rfl)
theorem PG{f l}:bO G (.fn f l) k=k (.fn f l):=(rfl)
theorem O0{j a b}:bO G (.oz j a b) k=k (.oz j a b):=(rfl)
theorem Ps{es}:bO G (.cl es) k=k (.cl es):=(rfl)
theorem OJ{j}:bO G (.om j) k=k (.om j):=(rfl)
theorem PB{g x}:bO G (.gd g x) k=(gok G g∧k x):=(rfl)
end
def Pi(K:Env→aG→Prop)(ρ:Env)(d:Option Tmp)(j:Nat)(H:aG):Prop:=K (upd ρ d (.os j)) H
def OI(K:Env→aG→Prop)(ρ:Env)(d:Option Tmp)(j:Nat)(H:aG):Prop:=K (upd ρ d (.op j 0 0)) H
def V2(K:Env→aG→Prop)(ρ:Env)(d:Option Tmp)(r:AV)(H:aG):Prop:=K (upd ρ d r) H
theorem Lp{K ρ d j H}:Pi K ρ d j H=K (upd ρ d (.os j)) H:=(rfl)
theorem LX{K ρ d j H}:OI K ρ d j H=K (upd ρ d (.op j 0 0)) H:=(rfl)
theorem KC{K ρ d r H}:V2 K ρ d r H=K (upd ρ d r) H:=(rfl)
def wpick(G:Option Bool)(c x y:AV)(k:AV→Prop):Prop:=match c with
 | .v (.bool c)=>yJ G c x y k
 | _=>False
@[congr] theorem wpick_c {G c c' x y k} (h:c=c'):wpick G c x y k=wpick G c' x y k:=h▸rfl
theorem PH{G c x y k}:wpick G (.v (.bool c)) x y k=yJ G c x y k:=(rfl)
def T2(x:AV)(k:AV→Prop):Prop:=match x with
 | .rp cs off=>k (.rp cs off)
 | .op j i f=>k (.op j i f)
 | _=>False
@[congr] theorem wptr_c {x x' k} (h:x=x'):T2 x k=T2 x' k:=h▸rfl
theorem OQ{cs o k}:T2 (.rp cs o) k=k (.rp cs o):=(rfl)
theorem O2{j i f k}:T2 (.op j i f) k=k (.op j i f):=(rfl)
def Xl(G:Option Bool)(x:AV)(i:Nat)(k:AV→Prop):Prop:=match x with
 | .tup vs=>(gt G→i<vs.length)∧k (vs.getD i .any)
 | _=>False
@[congr] theorem wtup_c {G x x' i k} (h:x=x'):Xl G x i k=Xl G x' i k:=h▸rfl
theorem Ol{G vs i k}:Xl G (.tup vs) i k=((gt G→i<vs.length)∧k (vs.getD i .any)):=(rfl)
def QN(P:Program)(d:Option Tmp)(t:TypeId)(a:AV)(cs:List AV)(ρ:Env)(H:aG)(K:Env→aG→Prop):Prop:=sD P ⟨d,.move (.tmp 0),0,"",#[],none⟩ t a cs ρ H K
@[congr] theorem wput_c {P d t a a' cs cs' ρ H K} (h:a=a') (h':cs=cs'):QN P d t a cs ρ H K=QN P d t a' cs' ρ H K:=h▸h'▸rfl
def U4(P:Program)(d:Option Tmp)(t:TypeId)(s x:AV)(ρ:Env)(H:aG)(K:Env→aG→Prop):Prop:=xP P ⟨d,.move (.tmp 0),0,"",#[],none⟩ t s x ρ H K
@[congr] theorem wapp_c {P d t s s' x x' ρ H K} (h:s=s') (h':x=x'):U4 P d t s x ρ H K=U4 P d t s' x' ρ H K:=h▸h'▸rfl
def JA(P:Program)(d:Option Tmp)(t:TypeId)(l c:AV)(ρ:Env)(H:aG)(K:Env→aG→Prop):Prop:=qT P ⟨d,.move (.tmp 0),0,"",#[],none⟩ t l c ρ H K
@[congr] theorem wmake_c {P d t s s' x x' ρ H K} (h:s=s') (h':x=x'):JA P d t s x ρ H K=JA P d t s' x' ρ H K:=h▸h'▸rfl
def V3(P:Program)(d:Option Tmp)(t:TypeId)(x y:AV)(ρ:Env)(H:aG)(K:Env→aG→Prop):Prop:=UT P ⟨d,.move (.tmp 0),0,"",#[],none⟩ t x y ρ H K
@[congr] theorem wcopy_c {P d t s s' x x' ρ H K} (h:s=s') (h':x=x'):V3 P d t s x ρ H K=V3 P d t s' x' ρ H K:=h▸h'▸rfl
def Da(P:Program)(d:Option Tmp)(t:TypeId)(x:AV)(ρ:Env)(H:aG)(K:Env→aG→Prop):Prop:=In P ⟨d,.move (.tmp 0),0,"",#[],none⟩ t x ρ H K
@[congr] theorem wclear_c {P d t s s' ρ H K} (h:s=s'):Da P d t s ρ H K=Da P d t s' ρ H K:=h▸rfl
theorem Uh{P : Program}{d : Option Tmp}{t : TypeId}{x : AV}{ρ : Env}{H : aG}{K : Env → aG → Prop}{e : TypeId}{sz bytes j a n : Nat}{r : Row}{zs : List AV}(he : cK P t = some (e, sz, bytes))(hz : eM P e = some zs)(hj : H j = some r)
   (hx:(x=.os j∧a=0∧n=r.es.length)∨∃b,x=.oz j a b∧n=b-a) (h1:r.sz=sz) (h:K (upd ρ d .any) (aI H j (some { r with es:=r.es.take a++List.replicate n zs++r.es.drop (a+n) }))):Da P d t x ρ H K:=by
 unfold Da In;have ht:∀F:Nat→Nat→Nat→Row→Prop,F j a n r→Nx H x F:=by
   intro F hF;rcases hx with⟨rfl,rfl,rfl⟩|⟨b,rfl,rfl⟩
   · simp only[Nx,hj];exact hF
   · simp only[Nx,hj];exact hF
 refine ht _ ?_;simp only[he,hz];exact⟨h1,h⟩
theorem aL{H:aG}{r:Row}{F:Nat→aG→Prop}(h:∀j,H j=none→F j (aI H j (some r))):oI H r F:=h
def bD{α:Type}(o:Option α)(f:α→Prop):Prop:=match o with|some x=>f x|none=>False
theorem Eo{α:Type}{x:α}{f:α→Prop}:bD (some x) f=f x:=(rfl)
@[congr] theorem withO_c {α:Type} {o o':Option α} {f:α→Prop} (h:o=o'):bD o f=bD o' f:=h▸rfl
section
variable{P:Program}{C:lK}{PC:FuncId→List AV→aG→AV→Prop}{mt:Nat→Bool}{q:Bool}{ops:Array Oper}{d:Option Tmp}{ty:TypeId}{pos:String}{aft:Array Edge}{ρ:Env}{H:aG}{K:Env→aG→Prop}{G:Option Bool}{k:AV→Prop}
theorem PL{t}:aev ρ (.tmp t)=ρ t:=(rfl)
theorem Gb{v}:aev ρ (.const v)=pP v:=(rfl)
theorem K8{f}:aev ρ (.func f)=.v (.func (.func f) #[] #[]):=(rfl)
theorem KO{t n a b}:gN P G .add t (.v (.int n a)) (.v (.int n b)) k=k (.v (.int n (n.wrap (a+b)))):=by simp[gN,uF]
theorem Jt{t n a b}:gN P G .sub t (.v (.int n a)) (.v (.int n b)) k=k (.v (.int n (n.wrap (a-b)))):=by simp[gN,uF]
theorem J8{t n a b}:gN P G .mul t (.v (.int n a)) (.v (.int n b)) k=k (.v (.int n (n.wrap (a*b)))):=by simp[gN,uF]
theorem Ls{t n a b}:gN P G .quo t (.v (.int n a)) (.v (.int n b)) k=((gt G→b≠0)∧k (.v (.int n (n.wrap (a.tdiv b))))):=by simp[gN,uF]
theorem KI{t n a b}:gN P G .rem t (.v (.int n a)) (.v (.int n b)) k=((gt G→b≠0)∧k (.v (.int n (a.tmod b)))):=by simp[gN,uF]
theorem Kc{t n a b}:gN P G .eql t (.v (.int n a)) (.v (.int n b)) k=k (.v (.bool (a == b))):=by simp[gN,uF]
theorem Kk{t n a b}:gN P G .neq t (.v (.int n a)) (.v (.int n b)) k=k (.v (.bool (a != b))):=by simp[gN,uF]
theorem Jz{t n a b}:gN P G .lss t (.v (.int n a)) (.v (.int n b)) k=k (.v (.bool (decide (a<b)))):=by simp[gN,uF]
theorem Ko{t n a b}:gN P G .leq t (.v (.int n a)) (.v (.int n b)) k=k (.v (.bool (decide (a≤b)))):=by simp[gN,uF]
theorem JN{t n a b}:gN P G .gtr t (.v (.int n a)) (.v (.int n b)) k=k (.v (.bool (decide (a>b)))):=by simp[gN,uF]
theorem KM{t n a b}:gN P G .geq t (.v (.int n a)) (.v (.int n b)) k=k (.v (.bool (decide (a≥b)))):=by simp[gN,uF]
theorem LM{t n m a b}:gN P G .shl t (.v (.int n a)) (.v (.int m b)) k=((gt G→0≤b)∧k (.v (.int n (shV .shl n a b)))):=by simp[gN,uF]
theorem LY{t n m a b}:gN P G .shr t (.v (.int n a)) (.v (.int m b)) k=((gt G→0≤b)∧k (.v (.int n (shV .shr n a b)))):=by simp[gN,uF]
theorem KL{t n a b}:gN P G .and t (.v (.int n a)) (.v (.int n b)) k=k (.v (.int n (rH .and n a b))):=by simp[gN,uF]
theorem Pk{t n a b}:gN P G .or t (.v (.int n a)) (.v (.int n b)) k=k (.v (.int n (rH .or n a b))):=by simp[gN,uF]
theorem JJ{t n a b}:gN P G .xor t (.v (.int n a)) (.v (.int n b)) k=k (.v (.int n (rH .xor n a b))):=by simp[gN,uF]
theorem Ca{t n a b}:gN P G .andNot t (.v (.int n a)) (.v (.int n b)) k=k (.v (.int n (rH .andNot n a b))):=by simp[gN,uF]
theorem GZ{op t x}:gN P G op t (.v x) .any k=((gt G→False)∧k .any):=by cases x <;> rfl
theorem Gu{op t x}:gN P G op t .any (.v x) k=((gt G→False)∧k .any):=by cases x <;> rfl
theorem Gn{x}:tO false .any (.v x)=.v x:=by cases x <;> rfl
theorem Em{x}:tO true (.v x) .any=.v x:=by cases x with
 | bool b=>cases b <;> rfl
 | _=>rfl
theorem GH{t a b}:gN P G .add t (.v (.string a)) (.v (.string b)) k=((gt G→((a.size+b.size:Nat):Int)≤IntKind.i64.max)∧k (.v (.string (a++b)))):=(rfl)
theorem Ha{t a b}:gN P G .eql t (.v (.string a)) (.v (.string b)) k=k (.v (.bool (a.toList == b.toList))):=(rfl)
theorem Fy{t a b}:gN P G .neq t (.v (.string a)) (.v (.string b)) k=k (.v (.bool !(a.toList == b.toList))):=(rfl)
theorem FX{t a b}:gN P G .eql t (.v (.bool a)) (.v (.bool b)) k=if xN P t then k (.v (.bool (a == b)))else False:=(rfl)
theorem G6{t a b}:gN P G .neq t (.v (.bool a)) (.v (.bool b)) k=if xN P t then k (.v (.bool !(a == b)))else False:=(rfl)
theorem GU{t x y}:gN P G .eql t (.agg x) (.agg y) k=bD (yO P t) fun l=>bD (hY l x y) fun b=>k (.v (.bool b)):=by
 cases h1:yO P t with
 | none=>simp[gN,bD,h1]
 | some l=>cases h2:hY l x y <;> simp[gN,bD,h1,h2]
theorem FM{t x y}:gN P G .neq t (.agg x) (.agg y) k=bD (yO P t) fun l=>bD (hY l x y) fun b=>k (.v (.bool !b)):=by
 cases h1:yO P t with
 | none=>simp[gN,bD,h1]
 | some l=>cases h2:hY l x y <;> simp[gN,bD,h1,h2]
theorem Le{c x y}:yJ G c (.v x) (.v y) k=k (tO c (.v x) (.v y)):=(rfl)
theorem JQ{c x g y}:yJ G c (.v x) (.gd g y) k=((gt G→c=false→g=true)∧k (tO c (.v x) y)):=(rfl)
theorem J7{c g x y}:yJ G c (.gd g x) (.v y) k=((gt G→c=true→g=true)∧k (tO c x (.v y))):=(rfl)
theorem Oz{c b}:tO c (.v (.bool true)) (.v (.bool b))=.v (.bool (c||b)):=(rfl)
theorem O3{c a}:tO c (.v (.bool a)) (.v (.bool false))=.v (.bool (c&&a)):=by cases a <;> cases c <;> rfl
theorem FB{cs o}:nY G H none (.rp cs o) k=((gt G→o<cs.length)∧k (cs.getD o .any)):=(rfl)
theorem Fm{cs o n}:nY G H (some n) (.rp cs o) k=((gt G→o+n≤cs.length)∧k (.agg ((cs.drop o).take n))):=(rfl)
theorem FG{j i f}:nY G H none (.op j i f) k=bD (H j) fun r=>(gt G→i<r.es.length∧f<r.sz)∧k ((r.es.getD i []).getD f .any):=by
 cases h1:H j <;> simp[nY,bD,h1]
theorem GX{j i f n}:nY G H (some n) (.op j i f) k=bD (H j) fun r=>(gt G→i<r.es.length∧f+n≤r.sz)∧k (.agg (((r.es.getD i []).drop f).take n)):=by
 cases h1:H j <;> simp[nY,bD,h1]
theorem OA{o cs}:apart G o none (.agg cs) k=((gt G→o<cs.length)∧k (cs.getD o .any)):=(rfl)
theorem PA{o n cs}:apart G o (some n) (.agg cs) k=((gt G→o+n≤cs.length)∧k (.agg ((cs.drop o).take n))):=(rfl)
theorem Pw{t es}:ES P H t (.sl es) k=if cU P t then k (.v (.int .i64 es.length))else False:=(rfl)
theorem O4{t j}:ES P H t (.os j) k=bD (H j) fun r=>if cU P t then k (.v (.int .i64 r.es.length))else False:=by
 cases h1:H j <;> simp[ES,bD,h1]
theorem PJ{t s}:ES P H t (.v (.string s)) k=if dS P t then k (.v (.int .i64 s.size))else False:=(rfl)
theorem yK{t es n i}:fV P G H t (.sl es) (.v (.int n i)) k=bD (cK P t) fun e=>(gt G→(0≤i∧i<es.length)∧(es.getD i.toNat []).length=e.2.1)∧k (.rp (es.getD i.toNat []) 0):=by
 cases h1:cK P t <;> simp[fV,bD,h1]
theorem yM{t j n i}:fV P G H t (.os j) (.v (.int n i)) k=bD (H j) fun r=>bD (cK P t) fun e=>(gt G→(0≤i∧i<r.es.length)∧r.sz=e.2.1)∧k (.op j i.toNat 0):=by
 cases h1:H j <;> cases h2:cK P t <;> simp[fV,bD,h1,h2]
theorem yL{t cs o n i}:fV P G H t (.rp cs o) (.v (.int n i)) k=bD (sR P t) fun e=>(gt G→0≤i∧i<e.1)∧k (.rp cs (o+i.toNat*e.2.1)):=by
 cases h1:sR P t <;> simp[fV,bD,h1]
theorem yQ{t j a o n i}:fV P G H t (.op j a o) (.v (.int n i)) k=bD (sR P t) fun e=>(gt G→0≤i∧i<e.1)∧k (.op j a (o+i.toNat*e.2.1)):=by
 cases h1:sR P t <;> simp[fV,bD,h1]
theorem yN{t f cs o}:jS P t f (.rp cs o) k=bD (aK P t f) fun e=>k (.rp cs (o+e.1)):=by
 cases h1:aK P t f <;> simp[jS,bD,h1]
theorem yT{t f j i o}:jS P t f (.op j i o) k=bD (aK P t f) fun e=>k (.op j i (o+e.1)):=by
 cases h1:aK P t f <;> simp[jS,bD,h1]
theorem OW{b}:aun .not (.v (.bool b)) k=k (.v (.bool !b)):=(rfl)
theorem Pg{n i}:aun .neg (.v (.int n i)) k=k (.v (.int n (n.wrap (0-i)))):=(rfl)
theorem FT{s t n i}:vL P s t (.v (.int n i)) k=bD (ED P t) fun m=>bD (ED P s) fun _=>k (.v (.int m (m.wrap i))):=by
 cases h1:ED P t <;> cases h2:ED P s <;> simp[vL,bD,h1,h2]
theorem FQ{s t x}:vL P s t (.v (.string x)) k=if dS P s∧dS P t then k (.v (.string x))else False:=(rfl)
theorem Ka{s t es}:vL P s t (.sl es) k=if Be P s∧dS P t then bD (pS es) fun ns=>k (.v (.string (strOfNums ns)))else False:=by
 by_cases hc:Be P s∧dS P t
 · cases h1:pS es <;> simp[vL,bD,hc,h1]
 · simp[vL,hc]
theorem F5{t es n a m b}:mH P G t (.sl es) (some (.v (.int n a))) (some (.v (.int m b))) k=bD (cK P t) fun e=>(gt G→(0≤a∧a≤b∧b≤es.length)∧eI e.2.1 es)∧k (.sl ((es.take b.toNat).drop a.toNat)):=by
 cases h1:cK P t <;> simp[mH,bD,h1]
theorem LJ{t es n a}:mH P G t (.sl es) (some (.v (.int n a))) none k=bD (cK P t) fun e=>(gt G→(0≤a∧a≤es.length)∧eI e.2.1 es)∧k (.sl (es.drop a.toNat)):=by
 cases h1:cK P t <;> simp[mH,bD,h1]
theorem KB{t es m b}:mH P G t (.sl es) none (some (.v (.int m b))) k=bD (cK P t) fun _=>(gt G→0≤b∧b≤es.length)∧k (.sl (es.take b.toNat)):=by
 cases h1:cK P t <;> simp[mH,bD,h1]
theorem Dj{t s n a m b}:mH P G t (.v (.string s)) (some (.v (.int n a))) (some (.v (.int m b))) k=if dS P t then(gt G→0≤a∧a≤b∧b≤s.size)∧k (.v (.string (s.extract a.toNat b.toNat)))else False:=(rfl)
theorem Fn{t s n a}:mH P G t (.v (.string s)) (some (.v (.int n a))) none k=if dS P t then(gt G→0≤a∧a≤s.size)∧k (.v (.string (s.extract a.toNat s.size)))else False:=(rfl)
theorem GQ{t s m b}:mH P G t (.v (.string s)) none (some (.v (.int m b))) k=if dS P t then(gt G→0≤b∧b≤s.size)∧k (.v (.string (s.extract 0 b.toNat)))else False:=(rfl)
theorem Kd{P:Program}{t es n m}{a b:Int}:Cc P G t (.sl es) (.v (.int n a)) (.v (.int m b)) k=bD (cK P t) fun _=>(gt G→a=es.length∧b=es.length)∧k (.cl es):=by
 unfold Cc bD;cases cK P t <;> rfl
@[congr] theorem aclip_c {P:Program} {t x x' a a' b b'} (h:x=x') (h1:a=a') (h2:b=b'):Cc P G t x a b k=Cc P G t x' a' b' k:=h▸h1▸h2▸rfl
theorem F2{t s n i}:tY P G t (.v (.string s)) (.v (.int n i)) k=if dS P t then(gt G→0≤i∧i<s.size)∧k (.v (.int .u8 ((s.data.getD i.toNat 0).toNat:Int)))else False:=(rfl)
theorem FD{t cs n i}:tY P G t (.agg cs) (.v (.int n i)) k=bD (sR P t) fun e=>(gt G→0≤i∧i<e.1)∧apart G (i.toNat*e.2.1) e.2.2 (.agg cs) k:=by
 cases h1:sR P t <;> simp[tY,bD,h1]
theorem DM{cs}{k:List AV→Prop}:mC (.agg cs) k=k cs:=(rfl)
theorem Jv{v}{k:List AV→Prop}:mC (.v v) k=(v.oneCell'=true∧k [.v v]):=(rfl)
theorem FL{es}{k:List AV→Prop}:mC (.sl es) k=k [.sl es]:=(rfl)
theorem Gm{cs o}{k:List AV→Prop}:mC (.rp cs o) k=k [.rp cs o]:=(rfl)
theorem Gw{j}{k:List AV→Prop}:mC (.os j) k=k [.os j]:=(rfl)
theorem GO{j i f}{k:List AV→Prop}:mC (.op j i f) k=k [.op j i f]:=(rfl)
theorem F7{t l}:uZ P t l k=bD (eM P t) fun z=>bD (fK P t) fun pl=>bD (pV pl z l) fun cs=>k (.agg cs):=by
 cases h1:eM P t with
 | none=>simp[uZ,bD,h1]
 | some z=>cases h2:fK P t with
   | none=>simp[uZ,bD,h1,h2]
   | some pl=>cases h3:pV pl z l <;> simp[uZ,bD,h1,h2,h3]
def wgd(x:AV)(w:Bool)(F:Option Bool→Prop):Prop:=match x with
 | .v (.bool b)=>F (some (b == w))
 | .gd g (.v (.bool b))=>F (some (g&&(b == w)))
 | _=>False
@[congr] theorem wgd_c {x x' w F} (h:x=x'):wgd x w F=wgd x' w F:=h▸rfl
theorem YY{b w F}:wgd (.v (.bool b)) w F=F (some (b == w)):=(rfl)
theorem YZ{g b w F}:wgd (.gd g (.v (.bool b))) w F=F (some (g&&(b == w))):=(rfl)
theorem Ce{F}:cN ops ρ none F=F none:=(rfl)
theorem Cq{j w F}:cN ops ρ (some (j,w)) F=bD ((ops[j]?).bind (·.dst)) fun t=>wgd (ρ t) w F:=by
 cases h1:(ops[j]?).bind (·.dst)with
 | none=>simp[cN,bD,h1]
 | some t=>simp only[cN,bD,h1,wgd]
def lQ(K:Env→aG→Prop)(ρ:Env)(d:Option Tmp)(G:Option Bool)(H:aG)(x:AV):Prop:=K (upd ρ d (wr G x)) H
theorem GI{x}:lQ K ρ d none H x=K (upd ρ d x) H:=(rfl)
theorem GC{b x}:lQ K ρ d (some b) H x=K (upd ρ d (.gd b x)) H:=(rfl)
end
section
variable{P:Program}{C:lK}{PC:FuncId→List AV→aG→AV→Prop}{mt:Nat→Bool}{q:Bool}{ops:Array Oper}{d:Option Tmp}{ty:TypeId}{pos:String}{aft:Array Edge}{gd:Option (Nat×Bool)}{ρ:Env}{H:aG}{K:Env→aG→Prop}
theorem Uq{x}:aop P C PC mt q ops ⟨d,.move x,ty,pos,aft,gd⟩ ρ H K=cN ops ρ gd fun G=>if uL mt d=true then G=none∧q=false∧xG x ρ d H K else bO G (aev ρ x) (lQ K ρ d G H):=(rfl)
theorem Vp{c a b}:aop P C PC mt q ops ⟨d,.pick c a b,ty,pos,aft,gd⟩ ρ H K=cN ops ρ gd fun G=>bO G (aev ρ c) fun x=>wpick G x (aev ρ a) (aev ρ b) (lQ K ρ d G H):=(rfl)
theorem Qg{t l}: aop P C PC mt q ops ⟨d, .build t l, ty, pos, aft, gd⟩ ρ H K = cN ops ρ gd fun G => if uL mt d = true then G = none ∧ (if q = true then oN none ρ l.toList (fun l => bD (eM P t) fun z => bD (fK P t) fun pl => bD (pL P t) fun nl => bD (pV pl (Gq nl z) l) fun cs => lQ K ρ d none H (.agg cs)) else
     oN none ρ l.toList (fun l=>bD (eM P t) fun z=>bD (fK P t) fun pl=>bD (pL P t) fun nl=>jZ nl z H fun z H=>bD (pV pl z l) fun cs=>lQ K ρ d none H (.agg cs)))
   else oN G ρ l.toList fun l=>uZ P t l (lQ K ρ d G H):=by
 show cN ops ρ gd (fun G=>if uL mt d=true then G=none∧(if q=true then xU P ⟨d,.build t l,ty,pos,aft,gd⟩ t l.toList ρ H K else zU P ⟨d,.build t l,ty,pos,aft,gd⟩ t l.toList ρ H K)else _)=_
 congr 1;funext G;congr 3
 · unfold xU
   congr 1;funext l
   cases h1:eM P t with
   | none=>simp[bD]
   | some z=>cases h2:fK P t with
     | none=>simp[bD]
     | some pl=>cases h3:pL P t with
       | none=>simp[bD]
       | some nl=>simp only[bD];cases h4:pV pl (Gq nl z) l <;> rfl
 unfold zU
 congr 1;funext l
 cases h1:eM P t with
 | none=>simp[bD]
 | some z=>cases h2:fK P t with
   | none=>simp[bD]
   | some pl=>cases h3:pL P t with
     | none=>simp[bD]
     | some nl=>simp only[bD];congr 1;funext z H;cases h4:pV pl z l <;> rfl
theorem Vj{t x}:aop P C PC mt q ops ⟨d,.load t x,ty,pos,aft,gd⟩ ρ H K=cN ops ρ gd fun G=>if uL mt d=true then G=none∧q=false∧bD (ldT P t) fun l=>bO none (aev ρ x) fun y=>nY none H l y fun z=>Ey z ρ d H K else bD (ldT P t) fun l=>bO G (aev ρ x) fun y=>nY G H l y (lQ K ρ d G H):=by
 show cN ops ρ gd (fun G=>if uL mt d=true then G=none∧q=false∧gS P none ρ H (.load t x) fun z=>Ey z ρ d H K else gS P G ρ H (.load t x) (lQ K ρ d G H))=_
 congr 1;funext G;cases h1:ldT P t <;> simp[gS,bD,h1]
theorem Iw{x}:aop P C PC mt q ops ⟨d,.nilCheck x,ty,pos,aft,gd⟩ ρ H K=cN ops ρ gd fun G=>bO G (aev ρ x) fun y=>T2 y (lQ K ρ d G H):=(rfl)
theorem X9{op t x y t'}:aop P C PC mt q ops ⟨d,.binOp op t x y t',ty,pos,aft,gd⟩ ρ H K=cN ops ρ gd fun G=>if qW y=true then bO G (aev ρ x) fun x=>cU P t=true∧pR op x (lQ K ρ d G H)else bO G (aev ρ x) fun x=>bO G (aev ρ y) fun y=>gN P G op t x y (lQ K ρ d G H):=(rfl)
theorem ZB{op t x}:aop P C PC mt q ops ⟨d,.unOp op t x,ty,pos,aft,gd⟩ ρ H K=cN ops ρ gd fun G=>bO G (aev ρ x) fun x=>aun op x (lQ K ρ d G H):=(rfl)
theorem VR{s t x}:aop P C PC mt q ops ⟨d,.convert s t x,ty,pos,aft,gd⟩ ρ H K=cN ops ρ gd fun G=>bO G (aev ρ x) fun x=>vL P s t x (lQ K ρ d G H):=(rfl)
theorem I8{t x lo hi}:aop P C PC mt q ops ⟨d,.slice t x (some lo) (some hi) none,ty,pos,aft,gd⟩ ρ H K=cN ops ρ gd fun G=>bO G (aev ρ x) fun x=>bO G (aev ρ lo) fun lo=>bO G (aev ρ hi) fun hi=>asl P G H t x (some lo) (some hi) (lQ K ρ d G H):=(rfl)
theorem KN{t x hi m}:aop P C PC mt q ops ⟨d,.slice t x none (some hi) (some m),ty,pos,aft,gd⟩ ρ H K=cN ops ρ gd fun G=>bO G (aev ρ x) fun x=>bO G (aev ρ hi) fun hi=>bO G (aev ρ m) fun m=>Cc P G t x hi m (lQ K ρ d G H):=(rfl)
theorem KH{t x lo}:aop P C PC mt q ops ⟨d,.slice t x (some lo) none none,ty,pos,aft,gd⟩ ρ H K=cN ops ρ gd fun G=>bO G (aev ρ x) fun x=>bO G (aev ρ lo) fun lo=>asl P G H t x (some lo) none (lQ K ρ d G H):=(rfl)
theorem Lh{t x hi}:aop P C PC mt q ops ⟨d,.slice t x none (some hi) none,ty,pos,aft,gd⟩ ρ H K=cN ops ρ gd fun G=>bO G (aev ρ x) fun x=>bO G (aev ρ hi) fun hi=>asl P G H t x none (some hi) (lQ K ρ d G H):=(rfl)
theorem Ff{t x f}:aop P C PC mt q ops ⟨d,.fieldAddr t x f,ty,pos,aft,gd⟩ ρ H K=cN ops ρ gd fun G=>bO G (aev ρ x) fun x=>jS P t f x (lQ K ρ d G H):=(rfl)
theorem Rt{t x f}:aop P C PC mt q ops ⟨d,.field t x f,ty,pos,aft,gd⟩ ρ H K=cN ops ρ gd fun G=>bD (aK P t f) fun e=>bO G (aev ρ x) fun x=>apart G e.1 e.2 x (lQ K ρ d G H):=by
 show cN ops ρ gd (fun G=>gS P G ρ H (.field t x f) (lQ K ρ d G H))=_
 congr 1;funext G;cases h1:aK P t f <;> simp[gS,bD,h1]
theorem E9{t x i}:aop P C PC mt q ops ⟨d,.indexAddr t x i,ty,pos,aft,gd⟩ ρ H K=cN ops ρ gd fun G=>bO G (aev ρ x) fun x=>bO G (aev ρ i) fun i=>fV P G H t x i (lQ K ρ d G H):=(rfl)
theorem Rh{t x i}:aop P C PC mt q ops ⟨d,.index t x i,ty,pos,aft,gd⟩ ρ H K=cN ops ρ gd fun G=>bO G (aev ρ x) fun x=>bO G (aev ρ i) fun i=>tY P G t x i (lQ K ρ d G H):=(rfl)
theorem Lt{x i}:aop P C PC mt q ops ⟨d,.extract x i,ty,pos,aft,gd⟩ ρ H K=cN ops ρ gd fun G=>bO G (aev ρ x) fun x=>Xl G x i (lQ K ρ d G H):=(rfl)
theorem MN{x}:aop P C PC mt q ops ⟨d,.assign x,ty,pos,aft,gd⟩ ρ H K=cN ops ρ gd fun G=>if uL mt d=true∧G=none∧q=false∧qW x=true then bD (cK P ty) fun e=>oI H ⟨e.1,e.2.1,[]⟩ (Pi K ρ d)else bO G (aev ρ x) (lQ K ρ d G H):=by
 show cN ops ρ gd (fun G=>zZ P mt q G ⟨d,.assign x,ty,pos,aft,gd⟩ x ρ H K)=_
 congr 1;funext G
 unfold zZ;cases h1:cK P ty <;> rfl
theorem Qq{t}:aop P C PC mt q ops ⟨d,.alloc t,ty,pos,aft,gd⟩ ρ H K=cN ops ρ gd fun G=>bD (eM P t) fun z=>G=none∧q=false∧(if uL mt d=true then bD (pL P t) fun nl=>jZ nl z H fun z H=>oI H ⟨t,z.length,[z]⟩ (OI K ρ d)else oI H ⟨t,z.length,[z]⟩ (OI K ρ d)):=by
 show cN ops ρ gd (fun G=>match eM P t with
   | some z => G = none ∧ q = false ∧ (if uL mt d = true then match pL P t with
       | some nl=>jZ nl z H fun z H=>oI H ⟨t,z.length,[z]⟩ fun k H'=>K (upd ρ d (.op k 0 0)) H'
       | none=>False
     else oI H ⟨t,z.length,[z]⟩ fun k H'=>K (upd ρ d (.op k 0 0)) H')
   | none=>False)=_
 congr 1;funext G;cases h1:eM P t <;> cases h2:pL P t <;> rfl
theorem XD{t x}: aop P C PC mt q ops ⟨d, .box t x, ty, pos, aft, gd⟩ ρ H K = cN ops ρ gd fun G => G = none ∧ q = false ∧ bO G (aev ρ x) fun x => mC x fun cs =>
 if uL mt d=true then 0<cs.length∧oI H ⟨t,cs.length,[cs]⟩ (OI K ρ d)else K (upd ρ d (.rp cs 0)) H:=(rfl)
theorem Df{t n l}: aop P C PC mt q ops ⟨d, .buildSlice t n l, ty, pos, aft, gd⟩ ρ H K = cN ops ρ gd fun G => q = false ∧ oN G ρ l.toList fun l => bD (cK P t) fun e =>
   (l.map (·.1)=Iv 0 n∧eI e.2.1 (l.map (·.2))∧n*e.2.1≤16777216)∧(if uL mt d=true∧G=none then oI H ⟨e.1,e.2.1,l.map (·.2)⟩ (Pi K ρ d)else lQ K ρ d G H (.sl (l.map (·.2)))):=by
 show cN ops ρ gd (fun G=>q=false∧oN G ρ l.toList fun l'=>nD P mt G ⟨d,.buildSlice t n l,ty,pos,aft,gd⟩ t n l' ρ H K)=_
 congr 1;funext G;congr 2;funext l;unfold nD;cases h1:cK P t <;> rfl
theorem Rn{t x y}:aop P C PC mt q ops ⟨d,.store t x y,ty,pos,aft,gd⟩ ρ H K=cN ops ρ gd fun G=>G=none∧q=false∧(if qW y=true then bO G (aev ρ x) fun x=>bD (cK P t) fun e=>oI H ⟨e.1,e.2.1,[]⟩ (fun j H=>QN P d t x [.os j] ρ H K)else bO G (aev ρ x) fun x=>bO G (aev ρ y) fun y=>mC y fun cs=>QN P d t x cs ρ H K):=by
 show cN ops ρ gd (fun G => G = none ∧ q = false ∧ (if qW y = true then bO G (aev ρ x) fun a => match cK P t with
       | some (e,sz,_)=>oI H ⟨e,sz,[]⟩ fun k H=>sD P _ t a [.os k] ρ H K
       | none=>False
     else bO G (aev ρ x) fun a=>bO G (aev ρ y) fun x=>mC x fun cs=>sD P _ t a cs ρ H K))=_
 congr 1;funext G;congr 4;funext a
 cases h1:cK P t <;> rfl
theorem Vx:vR P C PC mt ops K [] ρ H=K ρ H:=(rfl)
theorem aaC{k f}:vR P C PC mt ops K ((k,true)::f) ρ H=bD ops[k]? fun o=>aop P C PC mt true ops o ρ (qH o H) fun ρ' _=>vR P C PC mt ops K f ρ' H:=by
 cases h:ops[k]? <;> simp[vR,bD,h]
theorem ZQ{k f}:vR P C PC mt ops K ((k,false)::f) ρ H=bD ops[k]? fun o=>aop P C PC mt false ops o ρ H (vR P C PC mt ops K f):=by
 cases h:ops[k]? <;> simp[vR,bD,h]
theorem Qx{Hp}:pK P C PC mt ops K Hp [] ρ H=K ρ H:=(rfl)
theorem W7{Hp k f}:pK P C PC mt ops K Hp ((k,true)::f) ρ H=bD ops[k]? fun o=>aop P C PC mt true ops o ρ Hp fun ρ' _=>pK P C PC mt ops K Hp f ρ' H:=by
 cases h:ops[k]? <;> simp[pK,bD,h]
theorem Ws{Hp k f}:pK P C PC mt ops K Hp ((k,false)::f) ρ H=bD ops[k]? fun o=>aop P C PC mt false ops o ρ H (pK P C PC mt ops K Hp f):=by
 cases h:ops[k]? <;> simp[pK,bD,h]
theorem ZD{k}:zB P C PC mt q ops k ρ H K=bD ops[k]? fun o=>aop P C PC mt q ops o ρ H K:=by
 cases h:ops[k]? <;> simp[zB,bD,h]
theorem RN{Hp}:mK P C PC mt ops K Hp .nil ρ H=K ρ H:=(rfl)
theorem Xf{Hp k t}:mK P C PC mt ops K Hp (.q k t) ρ H=zB P C PC mt true ops k ρ Hp fun ρ' _=>mK P C PC mt ops K Hp t ρ' H:=(rfl)
theorem YC{Hp k t}:mK P C PC mt ops K Hp (.a1 k t) ρ H=zB P C PC mt false ops k ρ H (mK P C PC mt ops K Hp t):=(rfl)
theorem lG{Hp k t k' t'}(h:zB P C PC mt false ops k ρ H (mK P C PC mt ops K Hp t))(h':zB P C PC mt false ops k' ρ H (mK P C PC mt ops K Hp t')):mK P C PC mt ops K Hp (.a2 k t k' t') ρ H:=⟨h,h'⟩
theorem Ht{f cap}:aop P C PC mt q ops ⟨d,.makeFunc (.func f) #[] cap,ty,pos,aft,gd⟩ ρ H K=cN ops ρ gd fun G=>yI G ρ cap.toList fun l=>lQ K ρ d G H (.fn f l):=by
 show cN ops ρ gd (fun G=>gS P G ρ H (.makeFunc (.func f) #[] cap) (lQ K ρ d G H))=_
 congr 1;funext G;simp[gS]
def Y7(K:Env→aG→Prop)(ρ:Env)(d:Option Tmp)(j:Nat)(H:aG):Prop:=K (upd ρ d (.om j)) H
theorem J2{j}:Y7 K ρ d j H=K (upd ρ d (.om j)) H:=(rfl)
theorem Nk{t x i ok}:aop P C PC mt q ops ⟨d,.lookup t x i ok,ty,pos,aft,gd⟩ ρ H K=cN ops ρ gd fun G=>bO G (aev ρ x) fun x=>bO G (aev ρ i) fun i=>xO P H t x i ok (lQ K ρ d G H):=(rfl)
theorem K7{t}:aop P C PC mt q ops ⟨d,.makeMap t none,ty,pos,aft,gd⟩ ρ H K=cN ops ρ gd fun G=>G=none∧q=false∧oI H ⟨0,2,[]⟩ (Y7 K ρ d):=(rfl)
def OL(P:Program)(d:Option Tmp)(t:TypeId)(m x v:AV)(ρ:Env)(H:aG)(K:Env→aG→Prop):Prop:=mT P ⟨d,.move (.tmp 0),0,"",#[],none⟩ t m x v ρ H K
@[congr] theorem wmapU_c {P d t m m' x x' v v' ρ H K} (h0:m=m') (h1:x=x') (h2:v=v'):OL P d t m x v ρ H K=OL P d t m' x' v' ρ H K:=h0▸h1▸h2▸rfl
def Vy(P:Program)(d:Option Tmp)(t:TypeId)(m x:AV)(ρ:Env)(H:aG)(K:Env→aG→Prop):Prop:=xK P ⟨d,.move (.tmp 0),0,"",#[],none⟩ t m x ρ H K
@[congr] theorem wmapE_c {P d t m m' x x' ρ H K} (h0:m=m') (h1:x=x'):Vy P d t m x ρ H K=Vy P d t m' x' ρ H K:=h0▸h1▸rfl
def SW(d:Option Tmp)(m s v:AV)(ρ:Env)(H:aG)(K:Env→aG→Prop):Prop:=rV ⟨d,.move (.tmp 0),0,"",#[],none⟩ m s v ρ H K
@[congr] theorem wmapS_c {d m m' x x' v v' ρ H K} (h0:m=m') (h1:x=x') (h2:v=v'):SW d m x v ρ H K=SW d m' x' v' ρ H K:=h0▸h1▸h2▸rfl
@[congr] theorem alookup_c {P H t x x' i i' ok k} (h0:x=x') (h1:i=i'):xO P H t x i ok k=xO P H t x' i' ok k:=h0▸h1▸rfl
theorem ET{t m x v}:aop P C PC mt q ops ⟨d,.mapUpdate t m x v,ty,pos,aft,gd⟩ ρ H K=cN ops ρ gd fun G=>G=none∧q=false∧bO G (aev ρ m) fun m=>bO G (aev ρ x) fun x=>bO G (aev ρ v) fun v=>OL P d t m x v ρ H K:=(rfl)
theorem No{t m x v}:aop P C PC mt q ops ⟨d,.insert t m x v,ty,pos,aft,gd⟩ ρ H K=cN ops ρ gd fun G=>G=none∧q=false∧bO G (aev ρ m) fun m=>bO G (aev ρ x) fun x=>bO G (aev ρ v) fun v=>OL P d t m x v ρ H K:=(rfl)
theorem Il{t m x}:aop P C PC mt q ops ⟨d,.mapEntry t m x,ty,pos,aft,gd⟩ ρ H K=cN ops ρ gd fun G=>G=none∧q=false∧bO G (aev ρ m) fun m=>bO G (aev ρ x) fun x=>Vy P d t m x ρ H K:=(rfl)
theorem DZ{t m s v}:aop P C PC mt q ops ⟨d,.entryStore t m s v,ty,pos,aft,gd⟩ ρ H K=cN ops ρ gd fun G=>G=none∧q=false∧bO G (aev ρ m) fun m=>bO G (aev ρ s) fun s=>bO G (aev ρ v) fun v=>SW d m s v ρ H K:=(rfl)
theorem E1{t l c}:aop P C PC mt q ops ⟨d,.makeSlice t l c,ty,pos,aft,gd⟩ ρ H K=cN ops ρ gd fun G=>G=none∧q=false∧bO G (aev ρ l) fun l=>bO G (aev ρ c) fun c=>JA P d t l c ρ H K:=(rfl)
theorem Qy{t args tys}: aop P C PC mt q ops ⟨d, .call ⟨.value (.tmp t), args, tys⟩, ty, pos, aft, gd⟩ ρ H K = cN ops ρ gd fun G => bO G (ρ t) fun x => bD (JZ x) fun y => yI G ρ args.toList fun l =>
   aE P y.1=true∧(if G=none∧q=false then C y.1 (y.2.1++l++y.2.2) H (V2 K ρ d)else ∃r,(gt G→PC y.1 (y.2.1++l++y.2.2) H r)∧nfq q r (lQ K ρ d G H)):=by
 show cN ops ρ gd (fun G=>AL P C PC q G ⟨d,.call ⟨.value (.tmp t),args,tys⟩,ty,pos,aft,gd⟩ ⟨.value (.tmp t),args,tys⟩ ρ H K)=_
 congr 1;funext G
 simp only[AL,aev]
 congr 1;funext x
 cases h:JZ x with
 | none=>simp[bD]
 | some y=>obtain⟨a,b,c⟩:=y;rfl
theorem Tb{f args tys}: aop P C PC mt q ops ⟨d, .call ⟨.value (.func f), args, tys⟩, ty, pos, aft, gd⟩ ρ H K = cN ops ρ gd fun G => yI G ρ args.toList fun l =>
   aE P f=true∧(if G=none∧q=false then C f l H (V2 K ρ d)else ∃r,(gt G→PC f l H r)∧nfq q r (lQ K ρ d G H)):=by
 show cN ops ρ gd (fun G=>AL P C PC q G ⟨d,.call ⟨.value (.func f),args,tys⟩,ty,pos,aft,gd⟩ ⟨.value (.func f),args,tys⟩ ρ H K)=_
 congr 1;funext G
 simp only[AL,aev,bO,JZ,List.map_nil,List.nil_append,List.append_nil];rfl
theorem YP{x t}:aop P C PC mt q ops ⟨d,.call ⟨.builtin .len,#[x],#[t]⟩,ty,pos,aft,gd⟩ ρ H K=cN ops ρ gd fun G=>bO G (aev ρ x) fun x=>ES P H t x (lQ K ρ d G H):=(rfl)
theorem V7{x y t t'}:aop P C PC mt q ops ⟨d,.call ⟨.builtin .max,#[x,y],#[t,t']⟩,ty,pos,aft,gd⟩ ρ H K=cN ops ρ gd fun G=>bO G (aev ρ x) fun x=>bO G (aev ρ y) fun y=>Nc x y (lQ K ρ d G H):=(rfl)
theorem We{x y t t'}:aop P C PC mt q ops ⟨d,.call ⟨.builtin .min,#[x,y],#[t,t']⟩,ty,pos,aft,gd⟩ ρ H K=cN ops ρ gd fun G=>bO G (aev ρ x) fun x=>bO G (aev ρ y) fun y=>Mk x y (lQ K ρ d G H):=(rfl)
theorem Uu{n m a b}{k:AV→Prop}:Nc (.v (.int n a)) (.v (.int m b)) k=k (.v (.int n (kF a b))):=(rfl)
theorem UW{n m a b}{k:AV→Prop}:Mk (.v (.int n a)) (.v (.int m b)) k=k (.v (.int n (sT a b))):=(rfl)
theorem Tc{x y t t'}: aop P C PC mt q ops ⟨d, .call ⟨.builtin .copy, #[x, y], #[t, t']⟩, ty, pos, aft, gd⟩ ρ H K = cN ops ρ gd fun G => bO G (aev ρ x) fun x => bO G (aev ρ y) fun y =>
 if G=none∧q=false then V3 P d t x y ρ H K else False:=(rfl)
theorem Rg{x t}: aop P C PC mt q ops ⟨d, .call ⟨.builtin .clear, #[x], #[t]⟩, ty, pos, aft, gd⟩ ρ H K = cN ops ρ gd fun G => bO G (aev ρ x) fun x =>
 if G=none∧q=false then Da P d t x ρ H K else False:=(rfl)
theorem Up{G:Option Bool}{k:AV→Prop}{t es lo hi}:asl P G H t (.sl es) lo hi k=mH P G t (.sl es) lo hi k:=(rfl)
theorem Zj{G:Option Bool}{k:AV→Prop}{t v lo hi}:asl P G H t (.v v) lo hi k=mH P G t (.v v) lo hi k:=(rfl)
theorem VB{G:Option Bool}{k:AV→Prop}{t j n a m b}:asl P G H t (.os j) (some (.v (.int n a))) (some (.v (.int m b))) k=bD (H j) fun r=>bD (cK P t) fun e=>(gt G→(0≤a∧a≤b∧b≤r.es.length)∧r.sz=e.2.1)∧k (.oz j a.toNat b.toNat):=by
 cases h1:H j <;> cases h2:cK P t <;> simp[asl,bD,h1,h2]
theorem Zc{G:Option Bool}{k:AV→Prop}{t j n a}:asl P G H t (.os j) (some (.v (.int n a))) none k=bD (H j) fun r=>bD (cK P t) fun e=>(gt G→(0≤a∧a≤r.es.length)∧r.sz=e.2.1)∧k (.oz j a.toNat r.es.length):=by
 cases h1:H j <;> cases h2:cK P t <;> simp[asl,bD,h1,h2]
theorem Y2{G:Option Bool}{k:AV→Prop}{t j m b}:asl P G H t (.os j) none (some (.v (.int m b))) k=bD (H j) fun r=>bD (cK P t) fun e=>(gt G→(0≤b∧b≤r.es.length)∧r.sz=e.2.1)∧k (.oz j 0 b.toNat):=by
 cases h1:H j <;> cases h2:cK P t <;> simp[asl,bD,h1,h2]
theorem LQ{k:AV→Prop}{es}:pR .eql (.sl es) k=((es=[]→k (.v (.bool true)))∧k (.v (.bool false))):=(rfl)
theorem J0{k:AV→Prop}{es}:pR .neq (.sl es) k=((es=[]→k (.v (.bool false)))∧k (.v (.bool true))):=(rfl)
theorem Fo{k:AV→Prop}{j}:pR .eql (.os j) k=(k (.v (.bool true))∧k (.v (.bool false))):=(rfl)
theorem Fi{k:AV→Prop}:pR .eql (.v (.slice none 0 0)) k=k (.v (.bool true)):=(rfl)
theorem Gh{k:AV→Prop}:pR .neq (.v (.slice none 0 0)) k=k (.v (.bool false)):=(rfl)
theorem Ft{k:AV→Prop}{j}:pR .neq (.os j) k=(k (.v (.bool false))∧k (.v (.bool true))):=(rfl)
theorem NY{s x t t'}: aop P C PC mt q ops ⟨d, .call ⟨.builtin .append, #[s, x], #[t, t']⟩, ty, pos, aft, gd⟩ ρ H K = cN ops ρ gd fun G => bO G (aev ρ s) fun s => bO G (aev ρ x) fun x =>
 if t=t'∧G=none∧q=false then U4 P d t s x ρ H K else False:=(rfl)
end
section
variable{P:Program}{d:Option Tmp}{ρ:Env}{H:aG}{K:Env→aG→Prop}
theorem OY{t n a m b}:JA P d t (.v (.int n a)) (.v (.int m b)) ρ H K=bD (cK P t) fun e=>bD (eM P e.1) fun z=>((0≤a∧a≤b)∧(e.2.2:Int)*b≤140737488355328)∧oI H ⟨e.1,e.2.1,List.replicate a.toNat z⟩ (Pi K ρ d):=by
 unfold JA qT;cases h1:cK P t with
 | none=>simp[bD]
 | some e=>obtain⟨x,y,z⟩:=e;cases h2:eM P x <;> simp[bD,h2] <;> intros <;> rfl
theorem ZE{f first captured}:JZ (.v (.func (.func f) first captured))=some (f,first.toList.map .v,captured.toList.map .v):=(rfl)
theorem Zd{q x}{k:AV→Prop}:nfq q (.v x) k=k (.v x):=by cases q <;> rfl
theorem Oo{q x}{k:AV→Prop}:nfq q (.agg x) k=k (.agg x):=by cases q <;> rfl
theorem OO{q x}{k:AV→Prop}:nfq q (.tup x) k=k (.tup x):=by cases q <;> rfl
theorem Ue{x}{k:AV→Prop}:nfq false (.nf x) k=k x:=(rfl)
theorem WC{f l}:JZ (.fn f l)=some (f,[],l):=(rfl)
end
attribute [go_sem ↓] GZ Gu Gn Em
attribute [go_sem] GZ Gu Gn Em
@[congr] theorem asl_c {P G H t x x' lo lo' hi hi' k} (h:x=x') (h1:lo=lo') (h2:hi=hi'):asl P G H t x lo hi k=asl P G H t x' lo' hi' k:=h▸h1▸h2▸rfl
@[congr] theorem aeqNil_c {op x x' k} (h:x=x'):pR op x k=pR op x' k:=h▸rfl
theorem Im{α:Type}{a:α}{l r:List α}:List.append (a::l) r=a::List.append l r:=(rfl)
theorem L8{α:Type}{r:List α}:List.append [] r=r:=(rfl)
attribute [go_sem] Im L8
attribute [go_sem] qH
@[congr] theorem amax_c {x x' y y' K} (h:x=x') (h':y=y'):Nc x y K=Nc x' y' K:=h▸h'▸rfl
@[congr] theorem amin_c {x x' y y' K} (h:x=x') (h':y=y'):Mk x y K=Mk x' y' K:=h▸h'▸rfl
attribute [go_sem ↓] V7 We Uu UW
attribute [go_sem] Uu UW
@[congr] theorem pinEnd_c {l l' H K ρ H'} (h:l=l'):lM l H K ρ H'=lM l' H K ρ H':=h▸rfl
attribute [go_sem] Gq List.set_cons_zero List.set_cons_succ
attribute [go_sem ↓] RN Xf YC ZD
attribute [go_sem ↓] Qx W7 Ws
attribute [go_sem ↓] Vx aaC ZQ Tc Rg Up Zj VB Zc Y2 LQ J0 Fo Ft Fi Gh
attribute [go_sem] Up Zj VB Zc Y2 LQ J0 Fo Ft Fi Gh
attribute [go_sem ↓] Zd Oo OO Ue
attribute [go_sem ↓] Nk K7 ET No Il DZ OJ J2
attribute [go_sem] OJ J2
attribute [go_sem] Zd Oo OO Ue
attribute [go_sem ↓] Ht E1 Qy OY LM LY KL Pk JJ Ca PG O0 Ps Kd KN
attribute [go_sem] OY LM LY KL Pk JJ Ca PG O0 Ps Kd ZE WC
attribute [go_sem] Pu Ze
@[congr] theorem ownNils_c {l l' z z' H K} (h:l=l') (h':z=z'):jZ l z H K=jZ l' z' H K:=h▸h'▸rfl
theorem L0{z H K}:jZ [] z H K=K z H:=(rfl)
theorem Ik{o e sz r z H K}:jZ ((o,e,sz)::r) z H K=oI H ⟨e,sz,[]⟩ fun k H'=>jZ r (z.set o (.os k)) H' K:=(rfl)
attribute [go_sem ↓] L0 Ik
attribute [go_sem ↓] TA Dz Mc Pz Ld F9 F6 Ql JW Tf W0 Ut PY M4 U6 Yp NO O5 Kq PZ
attribute [go_sem ↓] yI oN Uq Vp Qg Vj Iw X9 ZB VR I8 KH Lh Ff Rt E9 Rh Lt MN Qq XD Df Rn Tb YP NY
attribute [go_sem ↓] PH OQ O2 Ol KO Jt J8 Ls KI Kc Kk Jz Ko JN KM GH Ha Fy FX G6 GU FM Le JQ J7 Oz O3 FB Fm FG GX OA PA Pw O4 PJ yK yM yL yQ yN yT OW Pg FT FQ Ka F5 LJ KB Dj Fn GQ F2 FD DM Jv FL Gm Gw GO F7 YY YZ Ce Cq Sj JX OX Pj Lx JU Pe Py PB Eo GI GC Lp LX KC PL Gb K8
attribute [go_sem] PH OQ O2 Ol KO Jt J8 Ls KI Kc Kk Jz Ko JN KM GH Ha Fy FX G6 GU FM Le JQ J7 Oz O3 FB Fm FG GX OA PA Pw O4 PJ yK yM yL yQ yN yT OW Pg FT FQ Ka F5 LJ KB Dj Fn GQ F2 FD DM Jv FL Gm Gw GO F7 YY YZ Ce Cq Sj JX OX Pj Lx JU Pe Py PB Eo GI GC Lp LX KC PL Gb K8
attribute [go_sem] ZJ TY uL qW pP Ir gt gok wr vX hY KU Value.oneCell' Iv eI pS Option.map_some pV nZ aA
attribute [go_sem] Bool.false_eq_true if_false if_true reduceCtorEq true_and and_true false_and and_false false_implies true_implies implies_true forall_const and_self imp_self ne_eq not_true_eq_false not_false_eq_true
attribute [go_sem] List.getD_cons_zero List.getD_cons_succ List.getD_nil List.length_cons List.length_nil List.drop_zero List.drop_succ_cons List.take_succ_cons List.take_zero Option.getD_some Option.getD_none Nat.zero_add Nat.add_zero List.map_cons List.map_nil List.cons_append List.nil_append List.append_nil
attribute [go_sem] Option.bind_some List.getElem?_toArray List.getElem?_cons_zero List.getElem?_cons_succ
attribute [go_sem ↓] reduceIte
attribute [go_sem] Nat.reduceEqDiff Nat.reduceAdd Nat.reduceMul Nat.reduceSub Nat.reduceLT Nat.reduceLeDiff Nat.reduceBEq
end Go.Aw
