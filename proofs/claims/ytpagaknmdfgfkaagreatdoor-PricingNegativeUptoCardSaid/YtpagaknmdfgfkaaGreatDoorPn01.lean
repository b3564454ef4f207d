import Derived.StillTail
import Derived.WalkKit
import Derived.Deep.Quiet
import Derived.Deep.QuietTactic
import Derived.Maps.AppendAt
import Derived.Laws.BytesArg
set_option linter.unusedSimpArgs false
set_option linter.unusedVariables false
set_option linter.defProp false
set_option maxRecDepth 100000
section
namespace Go.Aw
open Go.RowKit
inductive AV where
 | v (x:Value)
 | any
 | sl (es:List (List AV))
 | rp (cs:List AV) (off:Nat)
 | agg (cs:List AV)
 | tup (vs:List AV)
 | os (k:Nat)
 | op (k i f:Nat)
 | gd (g:Bool) (x:AV)
 | fn (f:FuncId) (cap:List AV)
 | oz (k a b:Nat)
 | nf (x:AV)
 | om (k:Nat)
 | cl (es:List (List AV))
 deriving Inhabited
structure Row where
 e:TypeId
 sz:Nat
 es:List (List AV)
abbrev Env:=Nat->AV
abbrev aG:=Nat->Option Row
inductive Ex where
 | normal
 | exit (id:Nat)
 | ret
def upd(ρ:Env)(d:Option Nat)(x:AV):Env:=
 match d with
 | some d=>fun t=>if t=d then x else ρ t
 | none=>ρ
def aM(H:aG)(k:Nat)(r:Option Row):aG:=fun j=>if j=k then r else H j
def asM(ρ:Env)(d:Nat)(x:AV)(t:Nat):upd ρ (some d) x t=if t=d then x else ρ t:=rfl
def ajE(ρ:Env)(x:AV):upd ρ none x=ρ:=rfl
theorem aB(H:aG)(k:Nat)(r:Option Row):aM H k r k=r:=by simp[aM]
theorem aJ(H:aG)(k:Nat)(r:Option Row)(j:Nat)(h:j≠k):aM H k r j=H j:=by simp[aM,h]
def ldT(P:Program)(t:TypeId):Option (Option Nat):=
 match P.underlying t,P.info? t with
 | some (.struct _),some i=>some (some i.size)
 | some (.array _ _),some i=>some (some i.size)
 | some _,some _=>some none
 | _,_=>none
def aP(P:Program)(t:TypeId)(f:Nat):Option (Nat×Option Nat):=
 match P.underlying t with
 | some (.struct fs)=>match fs[f]? with
   | some fd=>match P.info? fd.type with
     | some i=>if i.size=0 then none else(ldT P fd.type).map fun l=>(fd.offset,l)
     | none=>none
   | none=>none
 | _=>none
def cN(P:Program)(t:TypeId):Option (TypeId×Nat×Nat):=
 match P.underlying t with
 | some (.slice e)=>match P.info? e with
   | some i=>if i.size=0\/i.bytes=0\/i.zero.map (·.cells.size)≠some i.size then none else some (e,i.size,i.bytes)
   | none=>none
 | _=>none
def Gi(P:Program)(t:TypeId):Option (Nat×Nat×Option Nat):=
 match P.underlying t with
 | some (.array n e)=>match P.info? e with
   | some i=>if i.size=0 then none else(ldT P e).map fun l=>(n,i.size,l)
   | none=>none
 | _=>none
def tR:Value->AV
 | .slice none 0 0=>.sl []
 | x=>.v x
def eD(P:Program)(t:TypeId):Option (List AV):=
 match P.info? t with
 | some i=>match i.zero with
   | some z=>if z.cells.size=i.size/\i.size≠0/\z.cells.toList.all (·.oneCell')=true then some (z.cells.toList.map tR)else none
   | none=>none
 | none=>none
def OE(P:Program):Nat->TypeId->Nat->List (Nat×TypeId×Nat)
 | 0,_,_=>[]
 | n+1,t,o=>match P.underlying t with
   | some (.slice _)=>match cN P t with
     | some (e,sz,_)=>[(o,e,sz)]
     | none=>[]
   | some (.struct fs)=>fs.toList.flatMap fun f=>OE P n f.type (o+f.offset)
   | some (.array m e)=>(List.range m).flatMap fun j=>OE P n e (o+j*((P.info? e).map (·.size)).getD 0)
   | _=>[]
def aeK:Option Value->Bool
 | some (.slice none 0 0)=>true
 | _=>false
def uJ(P:Program)(t:TypeId):Option (List (Nat×TypeId×Nat)):=
 match P.info? t with
 | some i=>match i.zero with
   | some z=>if(OE P 8 t 0).all (fun x=>aeK z.cells.toList[x.1]?&&decide (0<x.2.2))=true then some (OE P 8 t 0)else none
   | none=>none
 | none=>none
def eY(P:Program)(t:TypeId):Option (List (Nat×Nat)):=
 match P.underlying t with
 | some (.struct fs)=>fs.toList.mapM fun f=>(P.info? f.type).map fun i=>(f.offset,i.size)
 | some (.array n e)=>(P.info? e).map fun i=>(List.range n).map fun j=>(j*i.size,i.size)
 | _=>none
def fM(P:Program)(t:TypeId):Bool:=match P.underlying t with|some .string=>true|_=>false
def dB(P:Program)(t:TypeId):Bool:=match P.underlying t with|some (.slice _)=>true|_=>false
def Ch(P:Program)(t:TypeId):Bool:=match P.underlying t with|some .bool=>true|_=>false
def U1(P:Program)(t:TypeId):Bool:=match P.underlying t with|some (.pointer _)=>true|_=>false
def Vo:AV->Option Bool
 | .v (.pointer none)=>some true
 | .rp ..=>some false
 | .op ..=>some false
 | _=>none
def aev(ρ:Env):Operand->AV
 | .tmp t=>ρ t
 | .const v=>tR v
 | .global _=>.any
 | .func f=>.v (.func (.func f) #[] #[])
def OT(ρ:Env):Operand->AV
 | .const v=>.v v
 | x=>aev ρ x
def gt:Option Bool->Prop
 | none=>True
 | some b=>b=true
def gok:Option Bool->Bool->Prop
 | none,g=>g=true
 | some b,g=>b=true->g=true
def wr:Option Bool->AV->AV
 | none,x=>x
 | some b,x=>.gd b x
def cA(G:Option Bool)(x:AV)(k:AV->Prop):Prop:=
 match x with
 | .gd g y=>gok G g/\k y
 | x=>k x
def oW(x:AV)(K:List AV->Prop):Prop:=
 match x with
 | .agg cs=>K cs
 | .v y=>y.oneCell'=true/\K [.v y]
 | .sl es=>K [.sl es]
 | .rp cs o=>K [.rp cs o]
 | .os k=>K [.os k]
 | .op k i f=>K [.op k i f]
 | _=>False
def xA(P:Program)(t:TypeId):Option Nat:=match P.underlying t with|some (.int _)=>some 0|some .string=>some 1|some .bool=>some 2|_=>none
def xV(c:Nat)(x y:AV):Option Bool:=
 match c,x,y with
 | 0,.v (.int k a),.v (.int k' b)=>if k=k' then some (a == b)else none
 | 1,.v (.string a),.v (.string b)=>some (a.toList == b.toList)
 | 2,.v (.bool a),.v (.bool b)=>some (a == b)
 | _,_,_=>none
def Rg:Option Bool->Option Bool->Option Bool
 | some a,some b=>some (a&&b)
 | _,_=>none
def kG:List Nat->List AV->List AV->Option Bool
 | [],[],[]=>some true
 | c::l,x::r,y::s=>Rg (xV c x y) (kG l r s)
 | _,_,_=>none
def rY(P:Program):Nat->List Field->Option (List Nat)
 | _,[]=>some []
 | o,f::r=>if f.name != "_" && f.offset == o&&(P.info? f.type).isSome then match xA P f.type,rY P (o+1) r with
   | some c,some l=>some (c::l)
   | _,_=>none
   else none
def C2(P:Program)(t:TypeId):Option (List Nat):=
 match P.underlying t with
 | some (.struct fs)=>if P.stoodInHeld t=false/\P.eqGuardType P.depth t=false then rY P 0 fs.toList else none
 | some (.array n e)=>if(P.info? e).map (·.size)=some 1/\P.eqGuardType P.depth t=false then(xA P e).map (List.replicate n)else none
 | _=>none
def CX:BinOp->Bool
 | .shl=>true
 | .shr=>true
 | _=>false
def shV(op:BinOp)(k:IntKind)(a b:Int):Int:=match op with
 | .shl=>k.wrap (a*2^min b.toNat k.bits)
 | _=>a.fdiv (2^min b.toNat k.bits)
def xR(op:BinOp)(k:IntKind)(a b:Int):Int:=match op with
 | .and=>k.wrap ((BitVec.ofInt k.bits a &&& BitVec.ofInt k.bits b).toNat:Nat)
 | .or=>k.wrap ((BitVec.ofInt k.bits a ||| BitVec.ofInt k.bits b).toNat:Nat)
 | .xor=>k.wrap ((BitVec.ofInt k.bits a ^^^ BitVec.ofInt k.bits b).toNat:Nat)
 | _=>k.wrap ((BitVec.ofInt k.bits a &&& ~~~(BitVec.ofInt k.bits b)).toNat:Nat)
def jU(P:Program)(G:Option Bool)(op:BinOp)(t:TypeId)(x y:AV)(K:AV->Prop):Prop:=
 match x,y with
 | .v (.int k a),.v (.int k' b)=>
   if CX op=true then(gt G->0<=b)/\K (.v (.int k (shV op k a b)))
   else if k=k' then
     match op with
     | .and=>K (.v (.int k (xR .and k a b)))
     | .or=>K (.v (.int k (xR .or k a b)))
     | .xor=>K (.v (.int k (xR .xor k a b)))
     | .andNot=>K (.v (.int k (xR .andNot k a b)))
     | .add=>K (.v (.int k (k.wrap (a+b))))
     | .sub=>K (.v (.int k (k.wrap (a-b))))
     | .mul=>K (.v (.int k (k.wrap (a*b))))
     | .quo=>(gt G->b≠0)/\K (.v (.int k (k.wrap (a.tdiv b))))
     | .rem=>(gt G->b≠0)/\K (.v (.int k (a.tmod b)))
     | .eql=>K (.v (.bool (a == b)))
     | .neq=>K (.v (.bool (a != b)))
     | .lss=>K (.v (.bool (decide (a<b))))
     | .leq=>K (.v (.bool (decide (a<=b))))
     | .gtr=>K (.v (.bool (decide (a>b))))
     | .geq=>K (.v (.bool (decide (a>=b))))
     | _=>False
   else False
 | .v (.string a),.v (.string b)=>
   match op with
   | .add=>(gt G->((a.size+b.size:Nat):Int)<=IntKind.i64.max)/\K (.v (.string (a++b)))
   | .eql=>K (.v (.bool (a.toList == b.toList)))
   | .neq=>K (.v (.bool !(a.toList == b.toList)))
   | .lss=>K (.v (.bool (Op.bytesLess a.toList b.toList)))
   | _=>False
 | .v (.bool a),.v (.bool b)=>
   if Ch P t then
     match op with
     | .eql=>K (.v (.bool (a == b)))
     | .neq=>K (.v (.bool !(a == b)))
     | _=>False
   else False
 | .agg xs,.agg ys=>match C2 P t with
   | some l=>match kG l xs ys with
     | some b=>match op with
       | .eql=>K (.v (.bool b))
       | .neq=>K (.v (.bool !b))
       | _=>False
     | none=>False
   | none=>False
 | x,.v (.pointer none)=>match Vo x with
   | some b => if U1 P t then
       match op with
       | .eql=>K (.v (.bool b))
       | .neq=>K (.v (.bool !b))
       | _=>False
     else False
   | none=>(gt G->False)/\K .any
 | _,_=>(gt G->False)/\K .any
def UX(P:Program)(t:TypeId):Option (TypeId×TypeId):=match P.underlying t with|some (.map k e)=>some (k,e)|_=>none
def No(P:Program)(t:TypeId):Option AV:=
 match P.info? t with
 | some i=>match i.zero with
   | some (.agg cs)=>if cs.toList.all (·.oneCell')=true then some (.agg (cs.toList.map tR))else none
   | some v=>if v.oneCell'=true then some (tR v)else none
   | none=>none
 | none=>none
def tP(P:Program)(kt:TypeId)(x y:AV):Option Bool:=
 match x,y with
 | .v a,.v b=>match xA P kt with
   | some c=>xV c (.v a) (.v b)
   | none=>none
 | _,_=>none
def pB(P:Program)(kt:TypeId):AV->Bool
 | .v (.int _ _)=>xA P kt == some 0
 | .v (.string _)=>xA P kt == some 1
 | .v (.bool _)=>xA P kt == some 2
 | _=>false
def wV(eq:AV->Option Bool):List (List AV)->Nat->Option (Option Nat)
 | [],_=>some none
 | e::r,i=>match eq (e.getD 0 .any)with
   | some true=>some (some i)
   | some false=>wV eq r (i+1)
   | none=>none
def OS(ok:Bool)(z:AV)(es:List (List AV))(oi:Option Nat):AV:=
 match oi with
 | some i=>if ok=true then .tup [(es.getD i []).getD 1 .any,.v (.bool true)]else(es.getD i []).getD 1 .any
 | none=>if ok=true then .tup [z,.v (.bool false)]else z
def Z4(es:List (List AV))(oi:Option Nat)(k v:AV):List (List AV):=
 match oi with
 | some i=>es.set i [k,v]
 | none=>es++[[k,v]]
def Hc(P:Program)(H:aG)(t:TypeId)(x key:AV)(K:Nat->Row->TypeId×TypeId->Option Nat->Prop):Prop:=
 match x with
 | .om j=>match H j,UX P t with
   | some r,some kt=>match wV (tP P kt.1 key) r.es 0 with
     | some oi=>pB P kt.1 key=true/\K j r kt oi
     | none=>False
   | _,_=>False
 | _=>False
def xL(P:Program)(H:aG)(t:TypeId)(x key:AV)(ok:Bool)(K:AV->Prop):Prop:=
 Hc P H t x key fun _ r kt oi=>match No P kt.2 with
   | some z=>K (OS ok z r.es oi)
   | none=>False
def wW(c:Bool):AV->AV->AV
 | .v (.bool true),.v (.bool b)=>.v (.bool (c||b))
 | .v (.bool a),.v (.bool false)=>.v (.bool (c&&a))
 | .v (.bool a),.v (.bool b)=>.v (.bool (bif c then a else b))
 | x,y=>bif c then x else y
def Dc(G:Option Bool)(c:Bool)(x y:AV)(K:AV->Prop):Prop:=
 match x,y with
 | .gd g x,.gd g' y=>(gt G->c=true->g=true)/\(gt G->c=false->g'=true)/\K (wW c x y)
 | .gd g x,y=>(gt G->c=true->g=true)/\K (wW c x y)
 | x,.gd g' y=>(gt G->c=false->g'=true)/\K (wW c x y)
 | x,y=>K (wW c x y)
def qR(G:Option Bool)(H:aG)(l:Option Nat)(x:AV)(K:AV->Prop):Prop:=
 match x with
 | .rp cs off=>match l with
   | none=>(gt G->off<cs.length)/\K (cs.getD off .any)
   | some n=>(gt G->off+n<=cs.length)/\K (.agg ((cs.drop off).take n))
 | .op k i f=>match H k with
   | some r=>match l with
     | none=>(gt G->i<r.es.length/\f<r.sz)/\K ((r.es.getD i []).getD f .any)
     | some n=>(gt G->i<r.es.length/\f+n<=r.sz)/\K (.agg (((r.es.getD i []).drop f).take n))
   | none=>False
 | _=>False
def apart(G:Option Bool)(off:Nat)(l:Option Nat)(x:AV)(K:AV->Prop):Prop:=
 match x with
 | .agg cs=>match l with
   | none=>(gt G->off<cs.length)/\K (cs.getD off .any)
   | some n=>(gt G->off+n<=cs.length)/\K (.agg ((cs.drop off).take n))
 | _=>False
def KL(P:Program)(H:aG)(t:TypeId)(x:AV)(K:AV->Prop):Prop:=
 match x with
 | .sl es=>if dB P t then K (.v (.int .i64 es.length))else False
 | .os k=>match H k with
   | some r=>if dB P t then K (.v (.int .i64 r.es.length))else False
   | none=>False
 | .v (.string s)=>if fM P t then K (.v (.int .i64 s.size))else False
 | _=>False
def eN(a b:Int):Int:=if b>a then b else a
def asK(a b:Int):Int:=if b<a then b else a
def VE(x y:AV)(K:AV->Prop):Prop:=
 match x,y with
 | .v (.int k a),.v (.int _ b)=>K (.v (.int k (eN a b)))
 | _,_=>False
def Wm(x y:AV)(K:AV->Prop):Prop:=
 match x,y with
 | .v (.int k a),.v (.int _ b)=>K (.v (.int k (asK a b)))
 | _,_=>False
def hJ(P:Program)(G:Option Bool)(H:aG)(t:TypeId)(x i:AV)(K:AV->Prop):Prop:=
 match x,i with
 | .sl es,.v (.int _ n)=>match cN P t with
   | some (_,sz,_)=>(gt G->(0<=n/\n<es.length)/\(es.getD n.toNat []).length=sz)/\K (.rp (es.getD n.toNat []) 0)
   | none=>False
 | .os k,.v (.int _ n)=>match H k,cN P t with
   | some r,some (_,sz,_)=>(gt G->(0<=n/\n<r.es.length)/\r.sz=sz)/\K (.op k n.toNat 0)
   | _,_=>False
 | .rp cs off,.v (.int _ n)=>match Gi P t with
   | some (m,s,_)=>(gt G->0<=n/\n<m)/\K (.rp cs (off+n.toNat*s))
   | none=>False
 | .op k j f,.v (.int _ n)=>match Gi P t with
   | some (m,s,_)=>(gt G->0<=n/\n<m)/\K (.op k j (f+n.toNat*s))
   | none=>False
 | _,_=>False
def lI(P:Program)(t:TypeId)(f:Nat)(x:AV)(K:AV->Prop):Prop:=
 match x with
 | .rp cs off=>match aP P t f with
   | some (o,_)=>K (.rp cs (off+o))
   | none=>False
 | .op k i g=>match aP P t f with
   | some (o,_)=>K (.op k i (g+o))
   | none=>False
 | _=>False
def wG(places:List (Nat×Nat)):List AV->List (Nat×List AV)->Option (List AV)
 | cs,[]=>some cs
 | cs,(i,x)::rest=>match places[i]? with
   | some (off,n)=>if x.length=n/\off+n<=cs.length then wG places (cs.take off++x++cs.drop (off+n)) rest else none
   | none=>none
def sJ(G:Option Bool)(ρ:Env):List (Nat×Operand)->(List (Nat×List AV)->Prop)->Prop
 | [],K=>K []
 | (i,x)::rest,K=>cA G (aev ρ x) fun y=>oW y fun cs=>sJ G ρ rest fun l=>K ((i,cs)::l)
def De(G:Option Bool)(ρ:Env):List Operand->(List AV->Prop)->Prop
 | [],K=>K []
 | x::rest,K=>cA G (aev ρ x) fun y=>De G ρ rest fun l=>K (y::l)
def Bk(P:Program)(t:TypeId)(parts:List (Nat×List AV))(K:AV->Prop):Prop:=
 match eD P t,eY P t with
 | some z,some pl=>match wG pl z parts with
   | some cs=>K (.agg cs)
   | none=>False
 | _,_=>False
def Pk:Nat->Nat->List Nat
 | _,0=>[]
 | i,n+1=>i::Pk (i+1) n
def dM(n:Nat):List (List AV)->Prop
 | []=>True
 | cs::r=>cs.length=n/\dM n r
def oU(P:Program)(G:Option Bool)(t:TypeId)(x:AV)(lo hi:Option AV)(K:AV->Prop):Prop:=
 match x,lo,hi with
 | .sl es,some (.v (.int _ a)),some (.v (.int _ b))=>match cN P t with
   | some (_,sz,_)=>(gt G->(0<=a/\a<=b/\b<=es.length)/\dM sz es)/\K (.sl ((es.take b.toNat).drop a.toNat))
   | none=>False
 | .sl es,some (.v (.int _ a)),none=>match cN P t with
   | some (_,sz,_)=>(gt G->(0<=a/\a<=es.length)/\dM sz es)/\K (.sl (es.drop a.toNat))
   | none=>False
 | .sl es,none,some (.v (.int _ b))=>match cN P t with
   | some _=>(gt G->0<=b/\b<=es.length)/\K (.sl (es.take b.toNat))
   | none=>False
 | .v (.string s),some (.v (.int _ a)),some (.v (.int _ b))=>
   if fM P t then(gt G->0<=a/\a<=b/\b<=s.size)/\K (.v (.string (s.extract a.toNat b.toNat)))else False
 | .v (.string s),some (.v (.int _ a)),none=>
   if fM P t then(gt G->0<=a/\a<=s.size)/\K (.v (.string (s.extract a.toNat s.size)))else False
 | .v (.string s),none,some (.v (.int _ b))=>
   if fM P t then(gt G->0<=b/\b<=s.size)/\K (.v (.string (s.extract 0 b.toNat)))else False
 | _,_,_=>False
def asl(P:Program)(G:Option Bool)(H:aG)(t:TypeId)(x:AV)(lo hi:Option AV)(K:AV->Prop):Prop:=
 match x with
 | .os k=>match H k,cN P t with
   | some r,some (_,sz,_)=>match lo,hi with
     | some (.v (.int _ a)),some (.v (.int _ b))=>(gt G->(0<=a/\a<=b/\b<=r.es.length)/\r.sz=sz)/\K (.oz k a.toNat b.toNat)
     | some (.v (.int _ a)),none=>(gt G->(0<=a/\a<=r.es.length)/\r.sz=sz)/\K (.oz k a.toNat r.es.length)
     | none,some (.v (.int _ b))=>(gt G->(0<=b/\b<=r.es.length)/\r.sz=sz)/\K (.oz k 0 b.toNat)
     | _,_=>False
   | _,_=>False
 | x=>oU P G t x lo hi K
def GB(P:Program)(G:Option Bool)(t:TypeId)(x a b:AV)(K:AV->Prop):Prop:=
 match x,a,b with
 | .sl es,.v (.int _ a),.v (.int _ b)=>match cN P t with
   | some _=>(gt G->a=es.length/\b=es.length)/\K (.cl es)
   | none=>False
 | _,_,_=>False
def Ao(P:Program)(G:Option Bool)(t:TypeId)(x i:AV)(K:AV->Prop):Prop:=
 match x,i with
 | .v (.string s),.v (.int _ n)=>
   if fM P t then(gt G->0<=n/\n<s.size)/\K (.v (.int .u8 ((s.data.getD n.toNat 0).toNat:Int)))else False
 | .agg cs,.v (.int _ n)=>match Gi P t with
   | some (m,s,l)=>(gt G->0<=n/\n<m)/\apart G (n.toNat*s) l (.agg cs) K
   | none=>False
 | _,_=>False
def aun(op:UnOp)(x:AV)(K:AV->Prop):Prop:=
 match op,x with
 | .not,.v (.bool b)=>K (.v (.bool !b))
 | .neg,.v (.int k n)=>K (.v (.int k (k.wrap (0-n))))
 | _,_=>False
def vM:List (List AV)->Option (List Int)
 | []=>some []
 | [.v (.int .u8 n)]::r=>(vM r).map (n::·)
 | _=>none
def IF(P:Program)(t:TypeId):Bool:=
 match P.underlying t with
 | some (.slice e)=>match P.underlying e with
   | some (.int .u8)=>true
   | _=>false
 | _=>false
def La(P:Program)(t:TypeId):Option IntKind:=match P.underlying t with|some (.int k)=>some k|_=>none
def Bi(P:Program)(src dst:TypeId)(x:AV)(K:AV->Prop):Prop:=
 match x with
 | .v (.int _ n)=>match La P dst,La P src with
   | some k,some _=>K (.v (.int k (k.wrap n)))
   | _,_=>False
 | .v (.string s)=>if fM P src/\fM P dst then K (.v (.string s))else False
 | .sl es => if IF P src /\ fM P dst then
     match vM es with
     | some ns=>K (.v (.string (strOfNums ns)))
     | none=>False
   else False
 | _=>False
def wA:Operand->Bool
 | .const (.slice none 0 0)=>true
 | _=>false
def uH(op:BinOp)(x:AV)(K:AV->Prop):Prop:=
 match op,x with
 | .eql,.sl es=>(es=[]->K (.v (.bool true)))/\K (.v (.bool false))
 | .neq,.sl es=>(es=[]->K (.v (.bool false)))/\K (.v (.bool true))
 | .eql,.os _=>K (.v (.bool true))/\K (.v (.bool false))
 | .neq,.os _=>K (.v (.bool false))/\K (.v (.bool true))
 | .eql,.v (.slice none 0 0)=>K (.v (.bool true))
 | .neq,.v (.slice none 0 0)=>K (.v (.bool false))
 | _,_=>False
def jG(P:Program)(G:Option Bool)(ρ:Env)(H:aG)(op:Op)(K:AV->Prop):Prop:=
 match op with
 | .move x| .assign x=>cA G (aev ρ x) K
 | .pick c a b=>cA G (aev ρ c) fun
   | .v (.bool c)=>Dc G c (aev ρ a) (aev ρ b) K
   | _=>False
 | .build t parts=>sJ G ρ parts.toList fun l=>Bk P t l K
 | .load t a=>match ldT P t with
   | some l=>cA G (aev ρ a) fun a=>qR G H l a K
   | none=>False
 | .nilCheck x=>cA G (aev ρ x) fun
   | .rp cs off=>K (.rp cs off)
   | .op k i f=>K (.op k i f)
   | .v (.pointer none)=>(gt G->False)/\∃cs off,K (.rp cs off)
   | _=>False
 | .binOp op t x y _=>if wA y=true then cA G (aev ρ x) fun x=>dB P t=true/\uH op x K else cA G (aev ρ x) fun x=>cA G (aev ρ y) fun y=>jU P G op t x y K
 | .unOp op _ x=>cA G (aev ρ x) fun x=>aun op x K
 | .convert src dst x=>cA G (aev ρ x) fun x=>Bi P src dst x K
 | .slice t x lo hi none=>cA G (aev ρ x) fun x=>match lo,hi with
   | some lo,some hi=>cA G (aev ρ lo) fun lo=>cA G (aev ρ hi) fun hi=>asl P G H t x (some lo) (some hi) K
   | some lo,none=>cA G (aev ρ lo) fun lo=>asl P G H t x (some lo) none K
   | none,some hi=>cA G (aev ρ hi) fun hi=>asl P G H t x none (some hi) K
   | none,none=>False
 | .slice t x none (some hi) (some m)=>cA G (aev ρ x) fun x=>cA G (aev ρ hi) fun hi=>cA G (aev ρ m) fun m=>GB P G t x hi m K
 | .fieldAddr t x f=>cA G (aev ρ x) fun x=>lI P t f x K
 | .field t x f=>match aP P t f with
   | some (o,l)=>cA G (aev ρ x) fun x=>apart G o l x K
   | none=>False
 | .indexAddr t x i=>cA G (aev ρ x) fun x=>cA G (aev ρ i) fun i=>hJ P G H t x i K
 | .index t x i=>cA G (aev ρ x) fun x=>cA G (aev ρ i) fun i=>Ao P G t x i K
 | .extract x i=>cA G (aev ρ x) fun
   | .tup vs=>(gt G->i<vs.length)/\K (vs.getD i .any)
   | _=>False
 | .lookup t x i ok=>cA G (aev ρ x) fun x=>cA G (aev ρ i) fun i=>xL P H t x i ok K
 | .makeFunc f first cap=>match f with
   | .func f=>first=#[]/\De G ρ cap.toList fun l=>K (.fn f l)
   | _=>False
 | _=>False
def dC(ops:Array Oper)(ρ:Env)(g:Option (Nat×Bool))(K:Option Bool->Prop):Prop:=
 match g with
 | none=>K none
 | some (j,want)=>match (ops[j]?).bind (·.dst)with
   | some t=>match ρ t with
     | .v (.bool b)=>K (some (b == want))
     | .gd g (.v (.bool b))=>K (some (g&&(b == want)))
     | _=>False
   | none=>False
def uT(mt:Nat->Bool):Option Nat->Bool
 | some d=>mt d
 | none=>false
def rO(H:aG)(r:Row)(K:Nat->aG->Prop):Prop:=∀k,H k=none->K k (aM H k (some r))
def oN(cs:List AV)(f:Nat)(xs:List AV):List AV:=cs.take f++xs++cs.drop (f+xs.length)
def lQ:List (Nat×TypeId×Nat)->List AV->aG->(List AV->aG->Prop)->Prop
 | [],cs,H,K=>K cs H
 | x::r,cs,H,K=>rO H ⟨x.2.1,x.2.2,[]⟩ fun k H'=>lQ r (cs.set x.1 (.os k)) H' K
def EI(P:Program)(mt:Nat->Bool)(quiet:Bool)(G:Option Bool)(o:Oper)(x:Operand)(ρ:Env)(H:aG)(K:Env->aG->Prop):Prop:=
 if uT mt o.dst=true/\G=none/\quiet=false/\wA x=true then
   match cN P o.type with
   | some (e,sz,_)=>rO H ⟨e,sz,[]⟩ fun k H'=>K (upd ρ o.dst (.os k)) H'
   | none=>False
 else cA G (aev ρ x) fun y=>K (upd ρ o.dst (wr G y)) H
def anD(mt:Nat->Bool)(o:Oper)(t:TypeId)(cs:List AV)(ρ:Env)(H:aG)(K:Env->aG->Prop):Prop:=
 if uT mt o.dst=true then
   0<cs.length/\rO H ⟨t,cs.length,[cs]⟩ fun k H'=>K (upd ρ o.dst (.op k 0 0)) H'
 else K (upd ρ o.dst (.rp cs 0)) H
def qE(P:Program)(mt:Nat->Bool)(G:Option Bool)(o:Oper)(t:TypeId)(n:Nat)(parts:List (Nat×List AV))(ρ:Env)(H:aG)(K:Env->aG->Prop):Prop:=
 match cN P t with
 | some (e,sz,_)=>
   (parts.map (·.1)=Pk 0 n/\dM sz (parts.map (·.2))/\n*sz<=16777216) /\
   (if uT mt o.dst=true/\G=none then rO H ⟨e,sz,parts.map (·.2)⟩ fun k H'=>K (upd ρ o.dst (.os k)) H'
    else K (upd ρ o.dst (wr G (.sl (parts.map (·.2))))) H)
 | none=>False
def Br(P:Program)(o:Oper)(t:TypeId)(a:AV)(cs:List AV)(ρ:Env)(H:aG)(K:Env->aG->Prop):Prop:=
 match a with
 | .op k i f=>match H k,ldT P t with
   | some r, some l => (i < r.es.length /\ cs.length = l.getD 1 /\ f + cs.length <= r.sz /\ (l = none -> ∃ i, P.info? t = some i /\ i.size = 1)) /\
       K (upd ρ o.dst .any) (aM H k (some { r with es:=r.es.set i (oN (r.es.getD i []) f cs) }))
   | _,_=>False
 | _=>False
def xB(P:Program)(o:Oper)(t:TypeId)(a:AV)(cs:List AV)(ρ:Env)(H:aG)(K:Env->aG->Prop):Prop:=
 Br P o t a cs ρ H K\/((ldT P t).isSome=true/\∃nl:List (Nat×TypeId×Nat),(∀x∈nl,cs[x.1]?=some (.v (.slice none 0 0))/\0<x.2.2)/\lQ nl cs H fun cs H=>Br P o t a cs ρ H K)
def CI(x:Operand)(ρ:Env)(d:Option Nat)(H:aG)(K:Env->aG->Prop):Prop:=
 match x with
 | .tmp t=>match ρ t with
   | .os j=>match H j with
     | some r=>∀Hr:aG,Hr j=none->(∀k,k≠j->Hr k=H k)->K (upd (upd ρ (some t) (.sl r.es)) d (.sl r.es)) Hr
     | none=>False
   | _=>False
 | _=>False
def Cg{t j:Nat}{r:Row}{ρ:Env}{d:Option Nat}{H:aG}{K:Env->aG->Prop}(I:ρ t=.os j)(F:H j=some r)(h:∀E:aG,E j=none->(∀k,k≠j->E k=H k)->K (upd (upd ρ (some t) (.sl r.es)) d (.sl r.es)) E):CI (.tmp t) ρ d H K:=by grind[CI]
def Nl(l:List Nat)(H:aG):List AV->List AV->Prop
 | [],[]=>True
 | x::xs,y::ys=>(x=y\/∃j r,j∈l/\x=.os j/\H j=some r/\y=.sl r.es)/\Nl l H xs ys
 | _,_=>False
def ND(x:AV)(ρ:Env)(d:Option Nat)(H:aG)(K:Env->aG->Prop):Prop:=
 match x with
 | .agg cs=>∃(l:List Nat) (ys:List AV),Nl l H cs ys/\∀Hr:aG,(∀k,k∈l->Hr k=none)->(∀k,¬k∈l->Hr k=H k)->K (upd ρ d (.agg ys)) Hr
 | _=>False
def CV(H:aG)(x:AV)(K:List (List AV)->Prop):Prop:=
 match x with
 | .sl es=>K es
 | .os k=>match H k with
   | some r=>K r.es
   | none=>False
 | .oz k a b=>match H k with
   | some r=>K ((r.es.take b).drop a)
   | none=>False
 | _=>False
def aaS(H:aG)(x:AV)(K:Nat->Nat->Nat->Row->Prop):Prop:=
 match x with
 | .os k=>match H k with
   | some r=>K k 0 r.es.length r
   | none=>False
 | .oz k a b=>match H k with
   | some r=>K k a (b-a) r
   | none=>False
 | _=>False
def W7(P:Program)(o:Oper)(t:TypeId)(x y:AV)(ρ:Env)(H:aG)(K:Env->aG->Prop):Prop:=
 aaS H x fun k a n r=>CV H y fun news=>match cN P t with
   | some (_,sz,_)=>(r.sz=sz/\dM sz news)/\K (upd ρ o.dst (.v (.int .i64 (min news.length n:Nat)))) (aM H k (some { r with es:=r.es.take a++news.take (min news.length n)++r.es.drop (a+min news.length n) }))
   | none=>False
def NU(P:Program)(o:Oper)(t:TypeId)(x:AV)(ρ:Env)(H:aG)(K:Env->aG->Prop):Prop:=
 aaS H x fun k a n r=>match cN P t with
   | some (e,sz,_)=>match eD P e with
     | some zs=>r.sz=sz/\K (upd ρ o.dst .any) (aM H k (some { r with es:=r.es.take a++List.replicate n zs++r.es.drop (a+n) }))
     | none=>False
   | none=>False
def wZ(P:Program)(o:Oper)(t:TypeId)(s x:AV)(ρ:Env)(H:aG)(K:Env->aG->Prop):Prop:=
 match s,cN P t with
 | .os k,some (e,sz,bytes)=>match H k with
   | some r => CV H x fun news =>
       (r.e=e/\r.sz=sz/\dM sz news/\(r.es.length+news.length)*bytes<=140737488355328) /\
       ∀k',H k'=none->K (upd ρ o.dst (.os k')) (aM (aM H k none) k' (some ⟨e,sz,r.es++news⟩))
   | none=>False
 | .cl es, some (e, sz, bytes) => CV H x fun news =>
     (news≠[]/\dM sz es/\dM sz news/\(es.length+news.length)*bytes<=140737488355328) /\
     ∀k',H k'=none->K (upd ρ o.dst (.os k')) (aM H k' (some ⟨e,sz,es++news⟩))
 | .v (.slice none 0 0), some (e, sz, bytes) => CV H x fun news =>
     (news≠[]/\dM sz ([]:List (List AV))/\dM sz news/\(([]:List (List AV)).length+news.length)*bytes<=140737488355328) /\
     ∀k',H k'=none->K (upd ρ o.dst (.os k')) (aM H k' (some ⟨e,sz,[]++news⟩))
 | _,_=>False
def Lx:List (Nat×TypeId×Nat)->List AV->List AV
 | [],z=>z
 | x::r,z=>Lx r (z.set x.1 (.v (.slice none 0 0)))
def Ct(P:Program)(o:Oper)(t:TypeId)(parts:List (Nat×Operand))(ρ:Env)(H:aG)(K:Env->aG->Prop):Prop:=
 sJ none ρ parts fun l=>match eD P t,eY P t,uJ P t with
   | some z,some pl,some nl=>match wG pl (Lx nl z) l with
     | some cs=>K (upd ρ o.dst (.agg cs)) H
     | none=>False
   | _,_,_=>False
def E1(P:Program)(o:Oper)(t:TypeId)(parts:List (Nat×Operand))(ρ:Env)(H:aG)(K:Env->aG->Prop):Prop:=
 sJ none ρ parts fun l=>match eD P t,eY P t,uJ P t with
   | some z,some pl,some nl=>lQ nl z H fun z H=>match wG pl z l with
     | some cs=>K (upd ρ o.dst (.agg cs)) H
     | none=>False
   | _,_,_=>False
def nW(P:Program)(o:Oper)(t:TypeId)(m x v:AV)(ρ:Env)(H:aG)(K:Env->aG->Prop):Prop:=
 Hc P H t m x fun j r _ oi=>K (upd ρ o.dst .any) (aM H j (some { r with es:=Z4 r.es oi x v }))
def CG(P:Program)(o:Oper)(t:TypeId)(m x:AV)(ρ:Env)(H:aG)(K:Env->aG->Prop):Prop:=
 Hc P H t m x fun j r kt oi=>match oi with
   | some i=>K (upd ρ o.dst (.tup [(r.es.getD i []).getD 1 .any,.v (.int .i64 i)])) H
   | none=>match No P kt.2 with
     | some z=>K (upd ρ o.dst (.tup [z,.v (.int .i64 r.es.length)])) (aM H j (some { r with es:=r.es++[[x,z]] }))
     | none=>False
def xE(o:Oper)(m s v:AV)(ρ:Env)(H:aG)(K:Env->aG->Prop):Prop:=
 match m,s with
 | .om j,.v (.int _ i)=>match H j with
   | some r=>(0<=i/\i<r.es.length)/\K (upd ρ o.dst .any) (aM H j (some { r with es:=r.es.set i.toNat [(r.es.getD i.toNat []).getD 0 .any,v] }))
   | none=>False
 | _,_=>False
def wL(P:Program)(o:Oper)(t:TypeId)(l c:AV)(ρ:Env)(H:aG)(K:Env->aG->Prop):Prop:=
 match l,c with
 | .v (.int _ a),.v (.int _ b)=>match cN P t with
   | some (e,sz,bytes)=>match eD P e with
     | some z=>((0<=a/\a<=b)/\(bytes:Int)*b<=140737488355328)/\rO H ⟨e,sz,List.replicate a.toNat z⟩ fun k H'=>K (upd ρ o.dst (.os k)) H'
     | none=>False
   | none=>False
 | _,_=>False
def Q7:AV->Option (FuncId×List AV×List AV)
 | .v (.func (.func f) first captured)=>some (f,first.toList.map .v,captured.toList.map .v)
 | .fn f cap=>some (f,[],cap)
 | _=>none
def aE(P:Program)(f:FuncId):Bool:=match P.funcs[f]? with|some fn=>fn.name != "runtime.NumGoroutine" && fn.body.isSome|none=>false
abbrev mN:=FuncId->List AV->aG->(AV->aG->Prop)->Prop
def nfq(quiet:Bool)(r:AV)(K:AV->Prop):Prop:=match quiet,r with
 | true,.nf _=>False
 | false,.nf x=>K x
 | _,r=>K r
def E0(P:Program)(C:mN)(PC:FuncId->List AV->aG->AV->Prop)(nl quiet:Bool)(G:Option Bool)(o:Oper)(c:Call)(ρ:Env)(H:aG)(K:Env->aG->Prop):Prop:=
 match c.callee with
 | .builtin b=>De G ρ c.args.toList fun l=>match b,l,c.argTypes.toList with
   | .len,[x],[t]=>KL P H t x fun y=>K (upd ρ o.dst (wr G y)) H
   | .append,[s,x],[t,t']=>if t=t'/\G=none/\quiet=false then wZ P o t s x ρ H K else False
   | .copy,[x,y],[t,_]=>if G=none/\quiet=false then W7 P o t x y ρ H K else False
   | .clear,[x],[t]=>if G=none/\quiet=false then NU P o t x ρ H K else False
   | .max,[x,y],[_,_]=>VE x y fun z=>K (upd ρ o.dst (wr G z)) H
   | .min,[x,y],[_,_]=>Wm x y fun z=>K (upd ρ o.dst (wr G z)) H
   | _,_,_=>False
 | .value f=>cA G (aev ρ f) fun x=>match Q7 x with
   | some (f,first,captured)=>if nl=true then gt G/\quiet=false/\aE P f=true/\C f (first++c.args.toList.map (OT ρ)++captured) H fun r H'=>K (upd ρ o.dst r) H' else De G ρ c.args.toList fun l=>
     aE P f=true/\if G=none/\quiet=false then C f (first++l++captured) H fun r H'=>K (upd ρ o.dst r) H'
     else ∃r,(gt G->PC f (first++l++captured) H r)/\nfq quiet r fun r=>K (upd ρ o.dst (wr G r)) H
   | none=>False
 | .invoke _ _=>False
def aop(P:Program)(C:mN)(PC:FuncId->List AV->aG->AV->Prop)(mt:Nat->Bool)(quiet:Bool)(ops:Array Oper)(o:Oper)(ρ:Env)(H:aG)(K:Env->aG->Prop):Prop:=
 dC ops ρ o.guard fun G=>
 match o.op with
 | .assign x=>EI P mt quiet G o x ρ H K
 | .alloc t=>match eD P t with
   | some z => G = none /\ quiet = false /\ (if uT mt o.dst = true then match uJ P t with
       | some nl=>lQ nl z H fun z H=>rO H ⟨t,z.length,[z]⟩ fun k H'=>K (upd ρ o.dst (.op k 0 0)) H'
       | none=>False
     else rO H ⟨t,z.length,[z]⟩ fun k H'=>K (upd ρ o.dst (.op k 0 0)) H')
   | none=>False
 | .box t x=>G=none/\quiet=false/\cA G (aev ρ x) fun x=>oW x fun cs=>anD mt o t cs ρ H K
 | .buildSlice t n parts=>quiet=false/\sJ G ρ parts.toList fun l=>qE P mt G o t n l ρ H K
 | .store t a x => G = none /\ quiet = false /\ (if wA x = true then cA G (aev ρ a) fun a => match cN P t with
       | some (e,sz,_)=>rO H ⟨e,sz,[]⟩ fun k H=>xB P o t a [.os k] ρ H K
       | none=>False
     else cA G (aev ρ a) fun a=>cA G (aev ρ x) fun x=>oW x fun cs=>xB P o t a cs ρ H K)
 | .call c=>E0 P C PC (uT mt o.dst) quiet G o c ρ H K
 | .move x=>if uT mt o.dst=true then G=none/\quiet=false/\CI x ρ o.dst H K else jG P G ρ H (.move x) fun x=>K (upd ρ o.dst (wr G x)) H
 | .pick c a b=>jG P G ρ H (.pick c a b) fun x=>K (upd ρ o.dst (wr G x)) H
 | .build t parts=>if uT mt o.dst=true then G=none/\(if quiet=true then Ct P o t parts.toList ρ H K else E1 P o t parts.toList ρ H K)else jG P G ρ H (.build t parts) fun x=>K (upd ρ o.dst (wr G x)) H
 | .load t a=>if uT mt o.dst=true then G=none/\quiet=false/\jG P none ρ H (.load t a) fun x=>ND x ρ o.dst H K else jG P G ρ H (.load t a) fun x=>K (upd ρ o.dst (wr G x)) H
 | .nilCheck x=>jG P G ρ H (.nilCheck x) fun x=>K (upd ρ o.dst (wr G x)) H
 | .binOp op t x y t'=>jG P G ρ H (.binOp op t x y t') fun x=>K (upd ρ o.dst (wr G x)) H
 | .unOp op t x=>jG P G ρ H (.unOp op t x) fun x=>K (upd ρ o.dst (wr G x)) H
 | .convert s d x=>jG P G ρ H (.convert s d x) fun x=>K (upd ρ o.dst (wr G x)) H
 | .slice t x lo hi m=>jG P G ρ H (.slice t x lo hi m) fun x=>K (upd ρ o.dst (wr G x)) H
 | .fieldAddr t x f=>jG P G ρ H (.fieldAddr t x f) fun x=>K (upd ρ o.dst (wr G x)) H
 | .field t x f=>jG P G ρ H (.field t x f) fun x=>K (upd ρ o.dst (wr G x)) H
 | .indexAddr t x i=>jG P G ρ H (.indexAddr t x i) fun x=>K (upd ρ o.dst (wr G x)) H
 | .index t x i=>jG P G ρ H (.index t x i) fun x=>K (upd ρ o.dst (wr G x)) H
 | .extract x i=>jG P G ρ H (.extract x i) fun x=>K (upd ρ o.dst (wr G x)) H
 | .makeFunc f a b=>jG P G ρ H (.makeFunc f a b) fun x=>K (upd ρ o.dst (wr G x)) H
 | .makeSlice t l c=>G=none/\quiet=false/\cA G (aev ρ l) fun l=>cA G (aev ρ c) fun c=>wL P o t l c ρ H K
 | .lookup t x i ok=>jG P G ρ H (.lookup t x i ok) fun x=>K (upd ρ o.dst (wr G x)) H
 | .makeMap _ none=>G=none/\quiet=false/\rO H ⟨0,2,[]⟩ fun k H'=>K (upd ρ o.dst (.om k)) H'
 | .mapUpdate t m x v=>G=none/\quiet=false/\cA G (aev ρ m) fun m=>cA G (aev ρ x) fun x=>cA G (aev ρ v) fun v=>nW P o t m x v ρ H K
 | .insert t m x v=>G=none/\quiet=false/\cA G (aev ρ m) fun m=>cA G (aev ρ x) fun x=>cA G (aev ρ v) fun v=>nW P o t m x v ρ H K
 | .mapEntry t m x=>G=none/\quiet=false/\cA G (aev ρ m) fun m=>cA G (aev ρ x) fun x=>CG P o t m x ρ H K
 | .entryStore _ m s v=>G=none/\quiet=false/\cA G (aev ρ m) fun m=>cA G (aev ρ s) fun s=>cA G (aev ρ v) fun v=>xE o m s v ρ H K
 | _=>False
def yU(P:Program)(C:mN)(PC:FuncId->List AV->aG->AV->Prop)(mt:Nat->Bool)(quiet:Bool)(ops:Array Oper)(K:Env->aG->Prop):List Oper->Env->aG->Prop
 | [],ρ,H=>K ρ H
 | o::rest,ρ,H=>aop P C PC mt quiet ops o ρ H (yU P C PC mt quiet ops K rest)
def Ex.seq(K:Env->aG->Prop)(Q:Ex->Env->aG->Prop):Ex->Env->aG->Prop
 | .normal,ρ,H=>K ρ H
 | e,ρ,H=>Q e ρ H
def Ex.blk(id:Nat)(Q:Ex->Env->aG->Prop):Ex->Env->aG->Prop
 | .exit i,ρ,H=>if i=id then Q .normal ρ H else Q (.exit i) ρ H
 | e,ρ,H=>Q e ρ H
def Xh(W:(Ex->Env->aG->Prop)->Env->aG->Prop)(Q:Ex->Env->aG->Prop)(ρ:Env)(H:aG):Prop:=
 ∃(I:Env->aG->Prop) (μ:Env->aG->Nat),I ρ H/\∀ρ' H',I ρ' H'->W (Ex.seq (fun ρ'' H''=>I ρ'' H''/\μ ρ'' H''<μ ρ' H') Q) ρ' H'
def asB(mt:Nat->Bool)(o:Oper):Bool:=match o.op with
 | .alloc _=>true
 | .buildSlice ..=>true
 | .store ..=>true
 | .makeSlice ..=>true
 | .makeMap ..=>true
 | .mapUpdate ..=>true
 | .insert ..=>true
 | .mapEntry ..=>true
 | .entryStore ..=>true
 | .call ⟨.builtin .append,_,_⟩=>true
 | .call ⟨.builtin .copy,_,_⟩=>true
 | .call ⟨.builtin .clear,_,_⟩=>true
 | _=>uT mt o.dst
def WY(mt:Nat->Bool):List Oper->Nat
 | []=>0
 | o::r=>if asB mt o=true then 0 else WY mt r+1
def XK(ops:Array Oper)(n:Nat):Bool:=Region.noSelect ops&&decide (n<=ops.size)&&Region.lexHead .any ops (ops.size-n) n 0 (Array.replicate ops.size false)
def qH(o:Oper)(H:aG):aG:=match o.op with
 | .slice ..=>H
 | _=>fun _=>none
def Bj(P:Program)(C:mN)(PC:FuncId->List AV->aG->AV->Prop)(mt:Nat->Bool)(ops:Array Oper)(K:Env->aG->Prop):List (Nat×Bool)->Env->aG->Prop
 | [],ρ,H=>K ρ H
 | (k,b)::f,ρ,H=>match ops[k]? with
   | some o=>if b=true then aop P C PC mt true ops o ρ (qH o H) fun ρ' _=>Bj P C PC mt ops K f ρ' H
     else aop P C PC mt false ops o ρ H (Bj P C PC mt ops K f)
   | none=>False
def Ba(P:Program)(C:mN)(PC:FuncId->List AV->aG->AV->Prop)(mt:Nat->Bool)(ops:Array Oper)(K:Env->aG->Prop)(Hp:aG):List (Nat×Bool)->Env->aG->Prop
 | [],ρ,H=>K ρ H
 | (k,b)::f,ρ,H=>match ops[k]? with
   | some o=>if b=true then aop P C PC mt true ops o ρ Hp fun ρ' _=>Ba P C PC mt ops K Hp f ρ' H
     else aop P C PC mt false ops o ρ H (Ba P C PC mt ops K Hp f)
   | none=>False
def sS(l:List Nat)(H:aG)(K:Env->aG->Prop)(ρ':Env)(H':aG):Prop:=
 (∀k,k∈l->H' k=none)->∀Hm:aG,(∀k,k∈l->Hm k=H k)->(∀k,k∉l->Hm k=H' k)->K ρ' Hm
def gJ{l:List Nat}{H:aG}{K:Env->aG->Prop}{E:Env}{H':aG}(h:(∀k,k∈l->H' k=none)->∀F:aG,(∀k,k∈l->F k=H k)->(∀k,k∉l->F k=H' k)->K E F):sS l H K E H':=h
def tJ(ops:Array Oper):List (Nat×Bool)->Array Bool->Bool
 | [],listed=>(Region.ready .any ops listed).isEmpty
 | (k,true)::f,listed=>(Region.ready .any ops listed).contains k&&Region.free .any ops listed k&&tJ ops f (listed.setIfInBounds k true)
 | (k,false)::f,listed=>decide (Region.ready .any ops listed=[k])&&tJ ops f (listed.setIfInBounds k true)
def UU(ops:Array Oper)(f:List (Nat×Bool)):Bool:=Region.noSelect ops&&decide (f.length=ops.size)&&tJ ops f (Array.replicate ops.size false)
inductive Mx where
 | nil
 | q (k:Nat) (t:Mx)
 | a1 (k:Nat) (t:Mx)
 | a2 (k:Nat) (t:Mx) (k':Nat) (t':Mx)
 | a3 (k:Nat) (t:Mx) (k':Nat) (t':Mx) (k'':Nat) (t'':Mx)
def CW(P:Program)(C:mN)(PC:FuncId->List AV->aG->AV->Prop)(mt:Nat->Bool)(quiet:Bool)(ops:Array Oper)(k:Nat)(ρ:Env)(H:aG)(K:Env->aG->Prop):Prop:=
 match ops[k]? with
 | some o=>aop P C PC mt quiet ops o ρ H K
 | none=>False
def nJ(P:Program)(C:mN)(PC:FuncId->List AV->aG->AV->Prop)(mt:Nat->Bool)(ops:Array Oper)(K:Env->aG->Prop)(Hp:aG):Mx->Env->aG->Prop
 | .nil,ρ,H=>K ρ H
 | .q k t,ρ,H=>CW P C PC mt true ops k ρ Hp fun ρ' _=>nJ P C PC mt ops K Hp t ρ' H
 | .a1 k t,ρ,H=>CW P C PC mt false ops k ρ H (nJ P C PC mt ops K Hp t)
 | .a2 k t k' t',ρ,H=>CW P C PC mt false ops k ρ H (nJ P C PC mt ops K Hp t)/\CW P C PC mt false ops k' ρ H (nJ P C PC mt ops K Hp t')
 | .a3 k t k' t' k'' t'',ρ,H=>CW P C PC mt false ops k ρ H (nJ P C PC mt ops K Hp t)/\CW P C PC mt false ops k' ρ H (nJ P C PC mt ops K Hp t')/\CW P C PC mt false ops k'' ρ H (nJ P C PC mt ops K Hp t'')
def gA(ops:Array Oper):Mx->Nat->Array Bool->Bool
 | .nil,0,listed=>(Region.ready .any ops listed).isEmpty
 | .q k t,n+1,listed=>(Region.ready .any ops listed).contains k&&Region.free .any ops listed k&&gA ops t n (listed.setIfInBounds k true)
 | .a1 k t,n+1,listed=>decide (Region.ready .any ops listed=[k])&&gA ops t n (listed.setIfInBounds k true)
 | .a2 k t k' t',n+1,listed=>decide (Region.ready .any ops listed=[k,k'])&&gA ops t n (listed.setIfInBounds k true)&&gA ops t' n (listed.setIfInBounds k' true)
 | .a3 k t k' t' k'' t'',n+1,listed=>decide (Region.ready .any ops listed=[k,k',k''])&&gA ops t n (listed.setIfInBounds k true)&&gA ops t' n (listed.setIfInBounds k' true)&&gA ops t'' n (listed.setIfInBounds k'' true)
 | _,_,_=>false
def Gk(ops:Array Oper)(t:Mx):Bool:=Region.noSelect ops&&gA ops t ops.size (Array.replicate ops.size false)
def vV(P:Program)(C:mN)(PC:FuncId->List AV->aG->AV->Prop)(mt:Nat->Bool)(ops:Array Oper)(K:Env->aG->Prop)(m:Nat)(ρ:Env)(H:aG):Prop:=
 (m=ops.size/\Region.lexB .any ops=true/\yU P C PC mt true ops K ops.toList ρ H) \/
 (XK ops m=true/\yU P C PC mt true ops (fun ρ' _=>yU P C PC mt false ops K (ops.toList.drop m) ρ' H) (ops.toList.take m) ρ fun _=>none) \/
 (∃f,UU ops f=true/\Bj P C PC mt ops K f ρ H) \/
 ∃l t,(∀k,k∈l->(H k).isSome=true)/\Gk ops t=true/\∀Hp Hr:aG,(∀k,k∈l->Hp k=H k)->(∀k,k∉l->Hr k=H k)->(∀k,k∉l->Hp k=none)->(∀k,k∈l->Hr k=none)->nJ P C PC mt ops (sS l H K) Hp t ρ Hr
def jK{P:Program}{C:mN}{PC:FuncId->List AV->aG->AV->Prop}{mt:Nat->Bool}{l:List Oper}{K:Env->aG->Prop}{m:Nat}{ρ:Env}{H:aG}(F:(m == l.length)=true)(E:Region.lexB .any l.toArray=true)
 (h:yU P C PC mt true l.toArray K l ρ H):vV P C PC mt l.toArray K m ρ H:=.inl ⟨by grind,E,h⟩
def HV{P:Program}{C:mN}{PC:FuncId->List AV->aG->AV->Prop}{mt:Nat->Bool}{l:List Oper}{K:Env->aG->Prop}{m:Nat}{ρ:Env}{H:aG}(F:XK l.toArray m=true)
 (h:yU P C PC mt true l.toArray (fun E _=>yU P C PC mt false l.toArray K (l.drop m) E H) (l.take m) ρ fun _=>none):vV P C PC mt l.toArray K m ρ H:=.inr (.inl ⟨F,h⟩)
def mX{P:Program}{C:mN}{PC:FuncId->List AV->aG->AV->Prop}{mt:Nat->Bool}{l:List Oper}{K:Env->aG->Prop}{m:Nat}{ρ:Env}{H:aG}(f:List (Nat×Bool))(E:UU l.toArray f=true)
 (h:Bj P C PC mt l.toArray K f ρ H):vV P C PC mt l.toArray K m ρ H:=.inr (.inr (.inl ⟨f,E,h⟩))
def Co{P:Program}{C:mN}{PC:FuncId->List AV->aG->AV->Prop}{mt:Nat->Bool}{ops:List Oper}{K:Env->aG->Prop}{m:Nat}{ρ:Env}{H:aG}(l:List Nat)(t:Mx)(I:∀k,k∈l->(H k).isSome=true)(F:Gk ops.toArray t=true)
 (h:∀Hp E:aG,(∀k,k∈l->Hp k=H k)->(∀k,k∉l->E k=H k)->(∀k,k∉l->Hp k=none)->(∀k,k∈l->E k=none)->nJ P C PC mt ops.toArray (sS l H K) Hp t ρ E):vV P C PC mt ops.toArray K m ρ H:=.inr (.inr (.inr ⟨l,t,I,F,h⟩))
def mxL:List (Nat×Bool)->Mx
 | []=>.nil
 | (k,true)::f=>.q k (mxL f)
 | (k,false)::f=>.a1 k (mxL f)
def aiQ{P:Program}{C:mN}{PC:FuncId->List AV->aG->AV->Prop}{mt:Nat->Bool}{ops:Array Oper}{K:Env->aG->Prop}(Hp:aG):∀f,Ba P C PC mt ops K Hp f=nJ P C PC mt ops K Hp (mxL f)
 | []=>by rfl
 | (k,b)::f=>by funext ρ H;cases b <;> simp[Ba,mxL,nJ,CW,aiQ Hp f]
def axC{ops:Array Oper}{f:List (Nat×Bool)}(h:UU ops f=true):Gk ops (mxL f)=true:=by
 have E:∀(f:List (Nat×Bool)) (l:Array Bool),tJ ops f l=true->gA ops (mxL f) f.length l=true:=by
  intro f;induction f with
  | nil=>grind[tJ,mxL,gA]
  | cons x f ih=>
   intro l h;obtain⟨k,b⟩:=x;cases b <;> simp only[tJ,Bool.and_eq_true]at h <;> simp only[mxL,gA,List.length_cons,Bool.and_eq_true]
   all_goals grind
 simp only[UU,Bool.and_eq_true,decide_eq_true_eq]at h;simp only[Gk,Bool.and_eq_true]
 grind
def fV{P:Program}{C:mN}{PC:FuncId->List AV->aG->AV->Prop}{mt:Nat->Bool}{ops:List Oper}{K:Env->aG->Prop}{m:Nat}{ρ:Env}{H:aG}(l:List Nat)(f:List (Nat×Bool))(F:∀k,k∈l->(H k).isSome=true)(I:UU ops.toArray f=true)
 (h:∀Hp E:aG,(∀k,k∈l->Hp k=H k)->(∀k,k∉l->E k=H k)->(∀k,k∉l->Hp k=none)->(∀k,k∈l->E k=none)->Ba P C PC mt ops.toArray (sS l H K) Hp f ρ E):vV P C PC mt ops.toArray K m ρ H:=Co l (mxL f) F (axC I) fun Hp E h1 T J O=>by simp_all[aiQ]
def awp(P:Program)(C:mN)(PC:FuncId->List AV->aG->AV->Prop)(mt:Nat->Bool):Code->(Ex->Env->aG->Prop)->Env->aG->Prop
 | .skip,Q,ρ,H=>Q .normal ρ H
 | .region _ ops draw,Q,ρ,H=>if draw=true then vV P C PC mt ops (Q .normal) (WY mt ops.toList) ρ H else yU P C PC mt false ops (Q .normal) ops.toList ρ H
 | .seq a b,Q,ρ,H=>awp P C PC mt a (Ex.seq (awp P C PC mt b Q) Q) ρ H
 | .cond c a b,Q,ρ,H=>match aev ρ c with
   | .v (.bool t)=>(t=true->awp P C PC mt a Q ρ H)/\(t=false->awp P C PC mt b Q ρ H)
   | _=>False
 | .block id c,Q,ρ,H=>awp P C PC mt c (Ex.blk id Q) ρ H
 | .loop c,Q,ρ,H=>Xh (awp P C PC mt c) Q ρ H
 | .scope c,Q,ρ,H=>awp P C PC mt c Q ρ H
 | .label _,Q,ρ,H=>Q .normal ρ H
 | .exit id,Q,ρ,H=>Q (.exit id) ρ H
 | .ret,Q,ρ,H=>Q .ret ρ H
 | _,_,_,_=>False
def Bb(x:AV)(A B:Env->aG->Prop)(ρ:Env)(H:aG):Prop:=
 match x with
 | .v (.bool t)=>(t=true->A ρ H)/\(t=false->B ρ H)
 | _=>False
section
variable{P:Program}{C:mN}{PC:FuncId->List AV->aG->AV->Prop}{mt:Nat->Bool}{Q:Ex->Env->aG->Prop}{K:Env->aG->Prop}{ρ:Env}{H:aG}{a b c:Code}{id:Nat}{ops:Array Oper}{draw:Bool}
def acZ:awp P C PC mt .skip Q ρ H=Q .normal ρ H:=(rfl)
def JL:awp P C PC mt (.region id ops false) Q ρ H=yU P C PC mt false ops (Q .normal) ops.toList ρ H:=by simp[awp]
def Ry:awp P C PC mt (.region id ops true) Q ρ H=vV P C PC mt ops (Q .normal) (WY mt ops.toList) ρ H:=by simp[awp]
@[congr] theorem adraw_c {m m':Nat} (h:m=m'):vV P C PC mt ops K m ρ H=vV P C PC mt ops K m' ρ H:=h▸rfl
def Ys:awp P C PC mt (.seq a b) Q ρ H=awp P C PC mt a (Ex.seq (awp P C PC mt b Q) Q) ρ H:=(rfl)
def PT{x:Operand}:awp P C PC mt (.cond x a b) Q ρ H=Bb (aev ρ x) (awp P C PC mt a Q) (awp P C PC mt b Q) ρ H:=(rfl)
def Ma:awp P C PC mt (.block id c) Q ρ H=awp P C PC mt c (Ex.blk id Q) ρ H:=(rfl)
def Sk:awp P C PC mt (.loop c) Q ρ H=Xh (awp P C PC mt c) Q ρ H:=(rfl)
def Nh:awp P C PC mt (.scope c) Q ρ H=awp P C PC mt c Q ρ H:=(rfl)
def ZU{l:Nat}:awp P C PC mt (.label l) Q ρ H=Q .normal ρ H:=(rfl)
def ajN:awp P C PC mt (.exit id) Q ρ H=Q (.exit id) ρ H:=(rfl)
def aoY:awp P C PC mt .ret Q ρ H=Q .ret ρ H:=(rfl)
def agS:yU P C PC mt draw ops K [] ρ H=K ρ H:=(rfl)
def Y3{o:Oper}{r:List Oper}:yU P C PC mt draw ops K (o::r) ρ H=aop P C PC mt draw ops o ρ H (yU P C PC mt draw ops K r):=(rfl)
def UJ:Ex.seq K Q .normal ρ H=K ρ H:=(rfl)
def alD:Ex.seq K Q (.exit id) ρ H=Q (.exit id) ρ H:=(rfl)
def amD:Ex.seq K Q .ret ρ H=Q .ret ρ H:=(rfl)
def UG:Ex.blk id Q .normal ρ H=Q .normal ρ H:=(rfl)
def XQ:Ex.blk id Q .ret ρ H=Q .ret ρ H:=(rfl)
def Rb:Ex.blk id Q (.exit id) ρ H=Q .normal ρ H:=by simp[Ex.blk]
def aaI{i:Nat}(h:(i == id)=false):Ex.blk id Q (.exit i) ρ H=Q (.exit i) ρ H:=by grind[Ex.blk]
end
@[congr] theorem wopd_c {G x x' k} (h:x=x'):cA G x k=cA G x' k:=h▸rfl
@[congr] theorem abin_c {P G op t x x' y y' k} (h:x=x') (h':y=y'):jU P G op t x y k=jU P G op t x' y' k:=h▸h'▸rfl
@[congr] theorem apick_c {G c c' x x' y y' k} (h0:c=c') (h:x=x') (h':y=y'):Dc G c x y k=Dc G c' x' y' k:=h0▸h▸h'▸rfl
@[congr] theorem aload_c {G H l l' x x' k} (h:l=l') (h':x=x'):qR G H l x k=qR G H l' x' k:=h▸h'▸rfl
@[congr] theorem apart_c {G o o' l l' x x' k} (h0:o=o') (h:l=l') (h':x=x'):apart G o l x k=apart G o' l' x' k:=h0▸h▸h'▸rfl
@[congr] theorem alen_c {P H t x x' k} (h':x=x'):KL P H t x k=KL P H t x' k:=h'▸rfl
@[congr] theorem aindexAddr_c {P G H t x x' y y' k} (h:x=x') (h':y=y'):hJ P G H t x y k=hJ P G H t x' y' k:=h▸h'▸rfl
@[congr] theorem aindex_c {P G t x x' y y' k} (h:x=x') (h':y=y'):Ao P G t x y k=Ao P G t x' y' k:=h▸h'▸rfl
@[congr] theorem afieldAddr_c {P t f x x' k} (h':x=x'):lI P t f x k=lI P t f x' k:=h'▸rfl
@[congr] theorem abuild_c {P t l l' k} (h':l=l'):Bk P t l k=Bk P t l' k:=h'▸rfl
@[congr] theorem aslice_c {P G t x x' lo lo' hi hi' k} (h:x=x') (h1:lo=lo') (h2:hi=hi'):oU P G t x lo hi k=oU P G t x' lo' hi' k:=h▸h1▸h2▸rfl
@[congr] theorem aun_c {op x x' k} (h':x=x'):aun op x k=aun op x' k:=h'▸rfl
@[congr] theorem aconv_c {P s t x x' k} (h':x=x'):Bi P s t x k=Bi P s t x' k:=h'▸rfl
@[congr] theorem wcells_c {x x' K} (h:x=x'):oW x K=oW x' K:=h▸rfl
@[congr] theorem acond_c {x x' A B ρ H} (h':x=x'):Bb x A B ρ H=Bb x' A B ρ H:=h'▸rfl
@[congr] theorem abox_c {mt o t x x' ρ H K} (h:x=x'):anD mt o t x ρ H K=anD mt o t x' ρ H K:=h▸rfl
@[congr] theorem abuildSlice_c {P mt G o t n x x' ρ H K} (h:x=x'):qE P mt G o t n x ρ H K=qE P mt G o t n x' ρ H K:=h▸rfl
@[congr] theorem astore_c {P o t a a' x x' ρ H K} (h:a=a') (h':x=x'):Br P o t a x ρ H K=Br P o t a' x' ρ H K:=h▸h'▸rfl
@[congr] theorem aappend_c {P o t a a' x x' ρ H K} (h:a=a') (h':x=x'):wZ P o t a x ρ H K=wZ P o t a' x' ρ H K:=h▸h'▸rfl
@[congr] theorem asrc_c {H x x' K} (h:x=x'):CV H x K=CV H x' K:=h▸rfl
@[congr] theorem anew_c {H r r' K} (h:r=r'):rO H r K=rO H r' K:=h▸rfl
def aA{t:Bool}{A B:Env->aG->Prop}{ρ:Env}{H:aG}(h1:t=true->A ρ H)(E:t=false->B ρ H):Bb (.v (.bool t)) A B ρ H:=⟨h1,E⟩
def Gg(args:List AV):Env:=fun t=>args.getD t .any
def aR:AV->Nat
 | .v (.int _ n)=>n.toNat
 | _=>0
theorem aL{k n}:aR (.v (.int k n))=n.toNat:=(rfl)
section
variable{G:Option Bool}{k:AV->Prop}
def ajA{x}:cA G (.v x) k=k (.v x):=(rfl)
def S9:cA G .any k=k .any:=(rfl)
def YO{x}:cA G (.sl x) k=k (.sl x):=(rfl)
def Yq{x o}:cA G (.rp x o) k=k (.rp x o):=(rfl)
def Sa{x}:cA G (.agg x) k=k (.agg x):=(rfl)
def Tx{x}:cA G (.tup x) k=k (.tup x):=(rfl)
def X0{x}:cA G (.os x) k=k (.os x):=(rfl)
def Xi{x i f}:cA G (.op x i f) k=k (.op x i f):=(rfl)
def Yv{f l}:cA G (.fn f l) k=k (.fn f l):=(rfl)
def XS{j a b}:cA G (.oz j a b) k=k (.oz j a b):=(rfl)
def YD{es}:cA G (.cl es) k=k (.cl es):=(rfl)
def Xy{j}:cA G (.om j) k=k (.om j):=(rfl)
def WV{g x}:cA G (.gd g x) k=(gok G g/\k x):=(rfl)
end
def YE(K:Env->aG->Prop)(ρ:Env)(d:Option Tmp)(j:Nat)(H:aG):Prop:=K (upd ρ d (.os j)) H
def X7(K:Env->aG->Prop)(ρ:Env)(d:Option Tmp)(j:Nat)(H:aG):Prop:=K (upd ρ d (.op j 0 0)) H
def Tu(K:Env->aG->Prop)(ρ:Env)(d:Option Tmp)(r:AV)(H:aG):Prop:=K (upd ρ d r) H
def QP{K ρ d j H}:YE K ρ d j H=K (upd ρ d (.os j)) H:=(rfl)
def TQ{K ρ d j H}:X7 K ρ d j H=K (upd ρ d (.op j 0 0)) H:=(rfl)
def Qe{K ρ d r H}:Tu K ρ d r H=K (upd ρ d r) H:=(rfl)
def wpick(G:Option Bool)(c x y:AV)(k:AV->Prop):Prop:=match c with
 | .v (.bool c)=>Dc G c x y k
 | _=>False
@[congr] theorem wpick_c {G c c' x y k} (h:c=c'):wpick G c x y k=wpick G c' x y k:=h▸rfl
def Xv{G c x y k}:wpick G (.v (.bool c)) x y k=Dc G c x y k:=(rfl)
def Zj(G:Option Bool)(x:AV)(k:AV->Prop):Prop:=match x with
 | .rp cs off=>k (.rp cs off)
 | .op j i f=>k (.op j i f)
 | .v (.pointer none)=>(gt G->False)/\∃cs off,k (.rp cs off)
 | _=>False
@[congr] theorem wptr_c {G x x' k} (h:x=x'):Zj G x k=Zj G x' k:=h▸rfl
def Xl{G cs o k}:Zj G (.rp cs o) k=k (.rp cs o):=(rfl)
def Yi{G j i f k}:Zj G (.op j i f) k=k (.op j i f):=(rfl)
def SP{G k}:Zj G (.v (.pointer none)) k=((gt G->False)/\∃cs off,k (.rp cs off)):=(rfl)
def anP(G:Option Bool)(x:AV)(i:Nat)(k:AV->Prop):Prop:=match x with
 | .tup vs=>(gt G->i<vs.length)/\k (vs.getD i .any)
 | _=>False
@[congr] theorem wtup_c {G x x' i k} (h:x=x'):anP G x i k=anP G x' i k:=h▸rfl
def XN{G vs i k}:anP G (.tup vs) i k=((gt G->i<vs.length)/\k (vs.getD i .any)):=(rfl)
def ZK(P:Program)(d:Option Tmp)(t:TypeId)(a:AV)(cs:List AV)(ρ:Env)(H:aG)(K:Env->aG->Prop):Prop:=xB P ⟨d,.move (.tmp 0),0,"",#[],none⟩ t a cs ρ H K
@[congr] theorem wput_c {P d t a a' cs cs' ρ H K} (h:a=a') (h':cs=cs'):ZK P d t a cs ρ H K=ZK P d t a' cs' ρ H K:=h▸h'▸rfl
def NS(P:Program)(d:Option Tmp)(t:TypeId)(s x:AV)(ρ:Env)(H:aG)(K:Env->aG->Prop):Prop:=wZ P ⟨d,.move (.tmp 0),0,"",#[],none⟩ t s x ρ H K
@[congr] theorem wapp_c {P d t s s' x x' ρ H K} (h:s=s') (h':x=x'):NS P d t s x ρ H K=NS P d t s' x' ρ H K:=h▸h'▸rfl
def SZ(P:Program)(d:Option Tmp)(t:TypeId)(l c:AV)(ρ:Env)(H:aG)(K:Env->aG->Prop):Prop:=wL P ⟨d,.move (.tmp 0),0,"",#[],none⟩ t l c ρ H K
@[congr] theorem wmake_c {P d t s s' x x' ρ H K} (h:s=s') (h':x=x'):SZ P d t s x ρ H K=SZ P d t s' x' ρ H K:=h▸h'▸rfl
def TC(P:Program)(d:Option Tmp)(t:TypeId)(x y:AV)(ρ:Env)(H:aG)(K:Env->aG->Prop):Prop:=W7 P ⟨d,.move (.tmp 0),0,"",#[],none⟩ t x y ρ H K
@[congr] theorem wcopy_c {P d t s s' x x' ρ H K} (h:s=s') (h':x=x'):TC P d t s x ρ H K=TC P d t s' x' ρ H K:=h▸h'▸rfl
def Xo{P:Program}{d:Option Tmp}{t:TypeId}{x y:AV}{ρ:Env}{H:aG}{K:Env->aG->Prop}{e:TypeId}{sz E j a n:Nat}{r:Row}{news:List (List AV)}(T:cN P t=some (e,sz,E))(I:H j=some r)
 (F:(x=.os j/\a=0/\n=r.es.length)\/∃b,x=.oz j a b/\n=b-a) (O:y=.sl news\/(∃i r',y=.os i/\H i=some r'/\r'.es=news)\/∃i r' p q,y=.oz i p q/\H i=some r'/\(r'.es.take q).drop p=news)
 (h1:r.sz=sz) (J:dM sz news) (h:K (upd ρ d (.v (.int .i64 (min news.length n:Nat)))) (aM H j (some { r with es:=r.es.take a++news.take (min news.length n)++r.es.drop (a+min news.length n) }))):TC P d t x y ρ H K:=by grind[TC,W7,CV,aaS]
def Jg(P:Program)(d:Option Tmp)(t:TypeId)(x:AV)(ρ:Env)(H:aG)(K:Env->aG->Prop):Prop:=NU P ⟨d,.move (.tmp 0),0,"",#[],none⟩ t x ρ H K
@[congr] theorem wclear_c {P d t s s' ρ H K} (h:s=s'):Jg P d t s ρ H K=Jg P d t s' ρ H K:=h▸rfl
def agV{P:Program}{d:Option Tmp}{t:TypeId}{x:AV}{ρ:Env}{H:aG}{K:Env->aG->Prop}{e:TypeId}{sz E j a n:Nat}{r:Row}{F:List AV}(T:cN P t=some (e,sz,E))(I:eD P e=some F)(O:H j=some r)
 (J:(x=.os j/\a=0/\n=r.es.length)\/∃b,x=.oz j a b/\n=b-a) (h1:r.sz=sz) (h:K (upd ρ d .any) (aM H j (some { r with es:=r.es.take a++List.replicate n F++r.es.drop (a+n) }))):Jg P d t x ρ H K:=by grind[Jg,NU,aaS]
def YL{P:Program}{d:Option Tmp}{t:TypeId}{es:List (List AV)}{x:AV}{ρ:Env}{H:aG}{K:Env->aG->Prop}{e:TypeId}{sz E:Nat}{news:List (List AV)}(T:cN P t=some (e,sz,E))
  (I:x=.sl news\/∃i r',x=.os i/\H i=some r'/\r'.es=news) (h0:news≠[]) (h1:dM sz es) (O:dM sz news) (J:(es.length+news.length)*E<=140737488355328)
  (h:∀F,H F=none->K (upd ρ d (.os F)) (aM H F (some ⟨e,sz,es++news⟩))):NS P d t (.cl es) x ρ H K:=by
 unfold NS wZ
 grind[CV]
def alA{P:Program}{d:Option Tmp}{t:TypeId}{x:AV}{ρ:Env}{H:aG}{K:Env->aG->Prop}{e:TypeId}{sz E:Nat}{news:List (List AV)}(X:cN P t=some (e,sz,E))
  (O:x=.sl news\/∃i r',x=.os i/\H i=some r'/\r'.es=news) (h0:news≠[]) (J:dM sz news) (I:news.length*E<=140737488355328)
  (h:∀F,H F=none->K (upd ρ d (.os F)) (aM H F (some ⟨e,sz,news⟩))):NS P d t (.v (.slice none 0 0)) x ρ H K:=by
 unfold NS wZ;simp only[X];rcases O with rfl|⟨i,r',rfl,T,rfl⟩
 ·exact⟨⟨h0,trivial,J,by simpa using I⟩,h⟩
 ·simp only[CV,T];exact⟨⟨h0,trivial,J,by simpa using I⟩,h⟩
def aN{H:aG}{r:Row}{F:Nat->aG->Prop}(h:∀j,H j=none->F j (aM H j (some r))):rO H r F:=h
def cC{α:Type}(o:Option α)(f:α->Prop):Prop:=match o with|some x=>f x|none=>False
def Kq{α:Type}{x:α}{f:α->Prop}:cC (some x) f=f x:=(rfl)
@[congr] theorem withO_c {α:Type} {o o':Option α} {f:α->Prop} (h:o=o'):cC o f=cC o' f:=h▸rfl
section
variable{P:Program}{C:mN}{PC:FuncId->List AV->aG->AV->Prop}{mt:Nat->Bool}{q:Bool}{ops:Array Oper}{d:Option Tmp}{ty:TypeId}{pos:String}{aft:Array Edge}{ρ:Env}{H:aG}{K:Env->aG->Prop}{G:Option Bool}{k:AV->Prop}
def Xt{t}:aev ρ (.tmp t)=ρ t:=(rfl)
def LD{v}:aev ρ (.const v)=tR v:=(rfl)
def RH{f}:aev ρ (.func f)=.v (.func (.func f) #[] #[]):=(rfl)
def PM{t n a b}:jU P G .add t (.v (.int n a)) (.v (.int n b)) k=k (.v (.int n (n.wrap (a+b)))):=by simp[jU,CX]
def Rl{t n a b}:jU P G .sub t (.v (.int n a)) (.v (.int n b)) k=k (.v (.int n (n.wrap (a-b)))):=by simp[jU,CX]
def RK{t n a b}:jU P G .mul t (.v (.int n a)) (.v (.int n b)) k=k (.v (.int n (n.wrap (a*b)))):=by simp[jU,CX]
def SL{t n a b}:jU P G .quo t (.v (.int n a)) (.v (.int n b)) k=((gt G->b≠0)/\k (.v (.int n (n.wrap (a.tdiv b))))):=by simp[jU,CX]
def SF{t n a b}:jU P G .rem t (.v (.int n a)) (.v (.int n b)) k=((gt G->b≠0)/\k (.v (.int n (a.tmod b)))):=by simp[jU,CX]
def Sh{t n a b}:jU P G .eql t (.v (.int n a)) (.v (.int n b)) k=k (.v (.bool (a == b))):=by simp[jU,CX]
def S6{t n a b}:jU P G .neq t (.v (.int n a)) (.v (.int n b)) k=k (.v (.bool (a != b))):=by simp[jU,CX]
def PN{t n a b}:jU P G .lss t (.v (.int n a)) (.v (.int n b)) k=k (.v (.bool (decide (a<b)))):=by simp[jU,CX]
def TI{t n a b}:jU P G .leq t (.v (.int n a)) (.v (.int n b)) k=k (.v (.bool (decide (a<=b)))):=by simp[jU,CX]
def RV{t n a b}:jU P G .gtr t (.v (.int n a)) (.v (.int n b)) k=k (.v (.bool (decide (a>b)))):=by simp[jU,CX]
def Rh{t n a b}:jU P G .geq t (.v (.int n a)) (.v (.int n b)) k=k (.v (.bool (decide (a>=b)))):=by simp[jU,CX]
def QU{t n m a b}:jU P G .shl t (.v (.int n a)) (.v (.int m b)) k=((gt G->0<=b)/\k (.v (.int n (shV .shl n a b)))):=by rfl
def TP{t n m a b}:jU P G .shr t (.v (.int n a)) (.v (.int m b)) k=((gt G->0<=b)/\k (.v (.int n (shV .shr n a b)))):=by rfl
def Rz{t n a b}:jU P G .and t (.v (.int n a)) (.v (.int n b)) k=k (.v (.int n (xR .and n a b))):=by simp[jU,CX]
def YP{t n a b}:jU P G .or t (.v (.int n a)) (.v (.int n b)) k=k (.v (.int n (xR .or n a b))):=by simp[jU,CX]
def Gu{t n a b}:jU P G .andNot t (.v (.int n a)) (.v (.int n b)) k=k (.v (.int n (xR .andNot n a b))):=by simp[jU,CX]
def MY{op t x}:jU P G op t .any (.v x) k=((gt G->False)/\k .any):=by cases x with
 | pointer a=>cases a <;> rfl
 | _=>rfl
def My{x}:wW false .any (.v x)=.v x:=by rfl
def Ik{x}:wW true (.v x) .any=.v x:=by cases x with
 | bool b=>cases b <;> rfl
 | _=>rfl
def MM{t a b}:jU P G .add t (.v (.string a)) (.v (.string b)) k=((gt G->((a.size+b.size:Nat):Int)<=IntKind.i64.max)/\k (.v (.string (a++b)))):=(rfl)
def LZ{t a b}:jU P G .eql t (.v (.string a)) (.v (.string b)) k=k (.v (.bool (a.toList == b.toList))):=(rfl)
def Nn{t a b}:jU P G .neq t (.v (.string a)) (.v (.string b)) k=k (.v (.bool !(a.toList == b.toList))):=(rfl)
def LM{t a b}:jU P G .eql t (.v (.bool a)) (.v (.bool b)) k=if Ch P t then k (.v (.bool (a == b)))else False:=(rfl)
def LB{t a b}:jU P G .neq t (.v (.bool a)) (.v (.bool b)) k=if Ch P t then k (.v (.bool !(a == b)))else False:=(rfl)
def M3{t x y}:jU P G .eql t (.agg x) (.agg y) k=cC (C2 P t) fun l=>cC (kG l x y) fun b=>k (.v (.bool b)):=by grind[jU,cC]
def Nj{t x y}:jU P G .neq t (.agg x) (.agg y) k=cC (C2 P t) fun l=>cC (kG l x y) fun b=>k (.v (.bool !b)):=by grind[jU,cC]
def Qn{c x y}:Dc G c (.v x) (.v y) k=k (wW c (.v x) (.v y)):=(rfl)
def QR{c x g y}:Dc G c (.v x) (.gd g y) k=((gt G->c=false->g=true)/\k (wW c (.v x) y)):=(rfl)
def TW{c g x y}:Dc G c (.gd g x) (.v y) k=((gt G->c=true->g=true)/\k (wW c x (.v y))):=(rfl)
def Xd{c b}:wW c (.v (.bool true)) (.v (.bool b))=.v (.bool (c||b)):=(rfl)
def X9{c a}:wW c (.v (.bool a)) (.v (.bool false))=.v (.bool (c&&a)):=by cases a <;> cases c <;> rfl
def L0{cs o}:qR G H none (.rp cs o) k=((gt G->o<cs.length)/\k (cs.getD o .any)):=(rfl)
def LF{cs o n}:qR G H (some n) (.rp cs o) k=((gt G->o+n<=cs.length)/\k (.agg ((cs.drop o).take n))):=(rfl)
def Nz{j i f}:qR G H none (.op j i f) k=cC (H j) fun r=>(gt G->i<r.es.length/\f<r.sz)/\k ((r.es.getD i []).getD f .any):=by grind[qR,cC]
def MW{j i f n}:qR G H (some n) (.op j i f) k=cC (H j) fun r=>(gt G->i<r.es.length/\f+n<=r.sz)/\k (.agg (((r.es.getD i []).drop f).take n)):=by grind[qR,cC]
def Ym{o cs}:apart G o none (.agg cs) k=((gt G->o<cs.length)/\k (cs.getD o .any)):=(rfl)
def YV{o n cs}:apart G o (some n) (.agg cs) k=((gt G->o+n<=cs.length)/\k (.agg ((cs.drop o).take n))):=(rfl)
def W6{t es}:KL P H t (.sl es) k=if dB P t then k (.v (.int .i64 es.length))else False:=(rfl)
def Yo{t j}:KL P H t (.os j) k=cC (H j) fun r=>if dB P t then k (.v (.int .i64 r.es.length))else False:=by grind[KL,cC]
def XD{t s}:KL P H t (.v (.string s)) k=if fM P t then k (.v (.int .i64 s.size))else False:=(rfl)
def C1{t es n i}:hJ P G H t (.sl es) (.v (.int n i)) k=cC (cN P t) fun e=>(gt G->(0<=i/\i<es.length)/\(es.getD i.toNat []).length=e.2.1)/\k (.rp (es.getD i.toNat []) 0):=by grind[hJ,cC]
def C3{t j n i}:hJ P G H t (.os j) (.v (.int n i)) k=cC (H j) fun r=>cC (cN P t) fun e=>(gt G->(0<=i/\i<r.es.length)/\r.sz=e.2.1)/\k (.op j i.toNat 0):=by cases h1:H j <;> cases E:cN P t <;> simp[hJ,cC,h1,E]
def C4{t cs o n i}:hJ P G H t (.rp cs o) (.v (.int n i)) k=cC (Gi P t) fun e=>(gt G->0<=i/\i<e.1)/\k (.rp cs (o+i.toNat*e.2.1)):=by grind[hJ,cC]
def Db{t j a o n i}:hJ P G H t (.op j a o) (.v (.int n i)) k=cC (Gi P t) fun e=>(gt G->0<=i/\i<e.1)/\k (.op j a (o+i.toNat*e.2.1)):=by grind[hJ,cC]
def C9{t f cs o}:lI P t f (.rp cs o) k=cC (aP P t f) fun e=>k (.rp cs (o+e.1)):=by grind[lI,cC]
def C0{t f j i o}:lI P t f (.op j i o) k=cC (aP P t f) fun e=>k (.op j i (o+e.1)):=by grind[lI,cC]
def Yu{b}:aun .not (.v (.bool b)) k=k (.v (.bool !b)):=(rfl)
def Yg{n i}:aun .neg (.v (.int n i)) k=k (.v (.int n (n.wrap (0-i)))):=(rfl)
def L6{s t n i}:Bi P s t (.v (.int n i)) k=cC (La P t) fun m=>cC (La P s) fun _=>k (.v (.int m (m.wrap i))):=by grind[La,Bi,cC]
def MP{s t x}:Bi P s t (.v (.string x)) k=if fM P s/\fM P t then k (.v (.string x))else False:=(rfl)
def Su{s t es}:Bi P s t (.sl es) k=if IF P s/\fM P t then cC (vM es) fun ns=>k (.v (.string (strOfNums ns)))else False:=by grind[Bi,cC]
def MX{t es n a m b}:oU P G t (.sl es) (some (.v (.int n a))) (some (.v (.int m b))) k=cC (cN P t) fun e=>(gt G->(0<=a/\a<=b/\b<=es.length)/\dM e.2.1 es)/\k (.sl ((es.take b.toNat).drop a.toNat)):=by grind[oU,cC]
def TV{t es n a}:oU P G t (.sl es) (some (.v (.int n a))) none k=cC (cN P t) fun e=>(gt G->(0<=a/\a<=es.length)/\dM e.2.1 es)/\k (.sl (es.drop a.toNat)):=by grind[oU,cC]
def Qh{t es m b}:oU P G t (.sl es) none (some (.v (.int m b))) k=cC (cN P t) fun _=>(gt G->0<=b/\b<=es.length)/\k (.sl (es.take b.toNat)):=by grind[oU,cC]
def J3{t s n a m b}:oU P G t (.v (.string s)) (some (.v (.int n a))) (some (.v (.int m b))) k=if fM P t then(gt G->0<=a/\a<=b/\b<=s.size)/\k (.v (.string (s.extract a.toNat b.toNat)))else False:=(rfl)
def Mw{t s n a}:oU P G t (.v (.string s)) (some (.v (.int n a))) none k=if fM P t then(gt G->0<=a/\a<=s.size)/\k (.v (.string (s.extract a.toNat s.size)))else False:=(rfl)
def Lz{t s m b}:oU P G t (.v (.string s)) none (some (.v (.int m b))) k=if fM P t then(gt G->0<=b/\b<=s.size)/\k (.v (.string (s.extract 0 b.toNat)))else False:=(rfl)
def Tf{P:Program}{t es n m}{a b:Int}:GB P G t (.sl es) (.v (.int n a)) (.v (.int m b)) k=cC (cN P t) fun _=>(gt G->a=es.length/\b=es.length)/\k (.cl es):=by grind[GB,cC]
@[congr] theorem aclip_c {P:Program} {t x x' a a' b b'} (h:x=x') (h1:a=a') (h2:b=b'):GB P G t x a b k=GB P G t x' a' b' k:=h▸h1▸h2▸rfl
def Nx{t s n i}:Ao P G t (.v (.string s)) (.v (.int n i)) k=if fM P t then(gt G->0<=i/\i<s.size)/\k (.v (.int .u8 ((s.data.getD i.toNat 0).toNat:Int)))else False:=(rfl)
def Ni{t cs n i}:Ao P G t (.agg cs) (.v (.int n i)) k=cC (Gi P t) fun e=>(gt G->0<=i/\i<e.1)/\apart G (i.toNat*e.2.1) e.2.2 (.agg cs) k:=by grind[Ao,cC]
def Kv{cs}{k:List AV->Prop}:oW (.agg cs) k=k cs:=(rfl)
def Sz{v}{k:List AV->Prop}:oW (.v v) k=(v.oneCell'=true/\k [.v v]):=(rfl)
def Lq{es}{k:List AV->Prop}:oW (.sl es) k=k [.sl es]:=(rfl)
def Nm{cs o}{k:List AV->Prop}:oW (.rp cs o) k=k [.rp cs o]:=(rfl)
def MH{j}{k:List AV->Prop}:oW (.os j) k=k [.os j]:=(rfl)
def MV{j i f}{k:List AV->Prop}:oW (.op j i f) k=k [.op j i f]:=(rfl)
def Mm{t l}:Bk P t l k=cC (eD P t) fun z=>cC (eY P t) fun E=>cC (wG E z l) fun cs=>k (.agg cs):=by
 cases h1:eD P t with
 | none=>grind[Bk,cC]
 | some z=>cases F:eY P t<;>grind[Bk,cC]
def wgd(x:AV)(w:Bool)(F:Option Bool->Prop):Prop:=match x with
 | .v (.bool b)=>F (some (b == w))
 | .gd g (.v (.bool b))=>F (some (g&&(b == w)))
 | _=>False
@[congr] theorem wgd_c {x x' w F} (h:x=x'):wgd x w F=wgd x' w F:=h▸rfl
def arO{b w F}:wgd (.v (.bool b)) w F=F (some (b == w)):=(rfl)
def arY{g b w F}:wgd (.gd g (.v (.bool b))) w F=F (some (g&&(b == w))):=(rfl)
def GW{F}:dC ops ρ none F=F none:=(rfl)
def GF{j w F}:dC ops ρ (some (j,w)) F=cC ((ops[j]?).bind (·.dst)) fun t=>wgd (ρ t) w F:=by grind[dC,cC,wgd]
def pE(K:Env->aG->Prop)(ρ:Env)(d:Option Tmp)(G:Option Bool)(H:aG)(x:AV):Prop:=K (upd ρ d (wr G x)) H
def Nw{x}:pE K ρ d none H x=K (upd ρ d x) H:=(rfl)
def Nb{b x}:pE K ρ d (some b) H x=K (upd ρ d (.gd b x)) H:=(rfl)
end
section
variable{P:Program}{C:mN}{PC:FuncId->List AV->aG->AV->Prop}{mt:Nat->Bool}{q:Bool}{ops:Array Oper}{d:Option Tmp}{ty:TypeId}{pos:String}{aft:Array Edge}{gd:Option (Nat×Bool)}{ρ:Env}{H:aG}{K:Env->aG->Prop}
def afW{x}:aop P C PC mt q ops ⟨d,.move x,ty,pos,aft,gd⟩ ρ H K=dC ops ρ gd fun G=>if uT mt d=true then G=none/\q=false/\CI x ρ d H K else cA G (aev ρ x) (pE K ρ d G H):=(rfl)
def akG{c a b}:aop P C PC mt q ops ⟨d,.pick c a b,ty,pos,aft,gd⟩ ρ H K=dC ops ρ gd fun G=>cA G (aev ρ c) fun x=>wpick G x (aev ρ a) (aev ρ b) (pE K ρ d G H):=(rfl)
def Z3{t l}: aop P C PC mt q ops ⟨d, .build t l, ty, pos, aft, gd⟩ ρ H K = dC ops ρ gd fun G => if uT mt d = true then G = none /\ (if q = true then sJ none ρ l.toList (fun l => cC (eD P t) fun z => cC (eY P t) fun E => cC (uJ P t) fun nl => cC (wG E (Lx nl z) l) fun cs => pE K ρ d none H (.agg cs)) else
   sJ none ρ l.toList (fun l=>cC (eD P t) fun z=>cC (eY P t) fun E=>cC (uJ P t) fun nl=>lQ nl z H fun z H=>cC (wG E z l) fun cs=>pE K ρ d none H (.agg cs)))
  else sJ G ρ l.toList fun l=>Bk P t l (pE K ρ d G H):=by
 show dC ops ρ gd (fun G=>if uT mt d=true then G=none/\(if q=true then Ct P ⟨d,.build t l,ty,pos,aft,gd⟩ t l.toList ρ H K else E1 P ⟨d,.build t l,ty,pos,aft,gd⟩ t l.toList ρ H K)else _)=_
 congr 1;funext G;congr 3
 ·unfold Ct
  congr 1;funext l
  cases h1:eD P t with
  | none=>rfl
  | some z=>cases I:eY P t with
   | none=>rfl
   | some E=>cases F:uJ P t with
    | none=>rfl
    | some nl=>simp only[cC];cases J:wG E (Lx nl z) l <;> rfl
 unfold E1
 congr 1;funext l
 cases h1:eD P t with
 | none=>rfl
 | some z=>cases I:eY P t with
  | none=>rfl
  | some E=>cases F:uJ P t with
   | none=>rfl
   | some nl=>simp only[cC];congr 1;funext z H;cases J:wG E z l <;> rfl
def ahM{t x}:aop P C PC mt q ops ⟨d,.load t x,ty,pos,aft,gd⟩ ρ H K=dC ops ρ gd fun G=>if uT mt d=true then G=none/\q=false/\cC (ldT P t) fun l=>cA none (aev ρ x) fun y=>qR none H l y fun z=>ND z ρ d H K else cC (ldT P t) fun l=>cA G (aev ρ x) fun y=>qR G H l y (pE K ρ d G H):=by
 show dC ops ρ gd (fun G=>if uT mt d=true then G=none/\q=false/\jG P none ρ H (.load t x) fun z=>ND z ρ d H K else jG P G ρ H (.load t x) (pE K ρ d G H))=_
 grind[jG,cC]
def Om{x}:aop P C PC mt q ops ⟨d,.nilCheck x,ty,pos,aft,gd⟩ ρ H K=dC ops ρ gd fun G=>cA G (aev ρ x) fun y=>Zj G y (pE K ρ d G H):=(rfl)
def apY{op t x y t'}:aop P C PC mt q ops ⟨d,.binOp op t x y t',ty,pos,aft,gd⟩ ρ H K=dC ops ρ gd fun G=>if wA y=true then cA G (aev ρ x) fun x=>dB P t=true/\uH op x (pE K ρ d G H)else cA G (aev ρ x) fun x=>cA G (aev ρ y) fun y=>jU P G op t x y (pE K ρ d G H):=(rfl)
def avA{op t x}:aop P C PC mt q ops ⟨d,.unOp op t x,ty,pos,aft,gd⟩ ρ H K=dC ops ρ gd fun G=>cA G (aev ρ x) fun x=>aun op x (pE K ρ d G H):=(rfl)
def agW{s t x}:aop P C PC mt q ops ⟨d,.convert s t x,ty,pos,aft,gd⟩ ρ H K=dC ops ρ gd fun G=>cA G (aev ρ x) fun x=>Bi P s t x (pE K ρ d G H):=(rfl)
def OA{t x lo E}:aop P C PC mt q ops ⟨d,.slice t x (some lo) (some E) none,ty,pos,aft,gd⟩ ρ H K=dC ops ρ gd fun G=>cA G (aev ρ x) fun x=>cA G (aev ρ lo) fun lo=>cA G (aev ρ E) fun E=>asl P G H t x (some lo) (some E) (pE K ρ d G H):=(rfl)
def QW{t x E m}:aop P C PC mt q ops ⟨d,.slice t x none (some E) (some m),ty,pos,aft,gd⟩ ρ H K=dC ops ρ gd fun G=>cA G (aev ρ x) fun x=>cA G (aev ρ E) fun E=>cA G (aev ρ m) fun m=>GB P G t x E m (pE K ρ d G H):=(rfl)
def RF{t x lo}:aop P C PC mt q ops ⟨d,.slice t x (some lo) none none,ty,pos,aft,gd⟩ ρ H K=dC ops ρ gd fun G=>cA G (aev ρ x) fun x=>cA G (aev ρ lo) fun lo=>asl P G H t x (some lo) none (pE K ρ d G H):=(rfl)
def RA{t x E}:aop P C PC mt q ops ⟨d,.slice t x none (some E) none,ty,pos,aft,gd⟩ ρ H K=dC ops ρ gd fun G=>cA G (aev ρ x) fun x=>cA G (aev ρ E) fun E=>asl P G H t x none (some E) (pE K ρ d G H):=(rfl)
def KW{t x f}:aop P C PC mt q ops ⟨d,.fieldAddr t x f,ty,pos,aft,gd⟩ ρ H K=dC ops ρ gd fun G=>cA G (aev ρ x) fun x=>lI P t f x (pE K ρ d G H):=(rfl)
def KY{t x i}:aop P C PC mt q ops ⟨d,.indexAddr t x i,ty,pos,aft,gd⟩ ρ H K=dC ops ρ gd fun G=>cA G (aev ρ x) fun x=>cA G (aev ρ i) fun i=>hJ P G H t x i (pE K ρ d G H):=(rfl)
def abL{t x i}:aop P C PC mt q ops ⟨d,.index t x i,ty,pos,aft,gd⟩ ρ H K=dC ops ρ gd fun G=>cA G (aev ρ x) fun x=>cA G (aev ρ i) fun i=>Ao P G t x i (pE K ρ d G H):=(rfl)
def TA{x i}:aop P C PC mt q ops ⟨d,.extract x i,ty,pos,aft,gd⟩ ρ H K=dC ops ρ gd fun G=>cA G (aev ρ x) fun x=>anP G x i (pE K ρ d G H):=(rfl)
def VG{x}:aop P C PC mt q ops ⟨d,.assign x,ty,pos,aft,gd⟩ ρ H K=dC ops ρ gd fun G=>if uT mt d=true/\G=none/\q=false/\wA x=true then cC (cN P ty) fun e=>rO H ⟨e.1,e.2.1,[]⟩ (YE K ρ d)else cA G (aev ρ x) (pE K ρ d G H):=by
 show dC ops ρ gd (fun G=>EI P mt q G ⟨d,.assign x,ty,pos,aft,gd⟩ x ρ H K)=_
 congr 1;funext G
 unfold EI;cases h1:cN P ty <;> rfl
def aaX{t}:aop P C PC mt q ops ⟨d,.alloc t,ty,pos,aft,gd⟩ ρ H K=dC ops ρ gd fun G=>cC (eD P t) fun z=>G=none/\q=false/\(if uT mt d=true then cC (uJ P t) fun nl=>lQ nl z H fun z H=>rO H ⟨t,z.length,[z]⟩ (X7 K ρ d)else rO H ⟨t,z.length,[z]⟩ (X7 K ρ d)):=by
 show dC ops ρ gd (fun G=>match eD P t with
   | some z => G = none /\ q = false /\ (if uT mt d = true then match uJ P t with
       | some nl=>lQ nl z H fun z H=>rO H ⟨t,z.length,[z]⟩ fun k H'=>K (upd ρ d (.op k 0 0)) H'
       | none=>False
     else rO H ⟨t,z.length,[z]⟩ fun k H'=>K (upd ρ d (.op k 0 0)) H')
   | none=>False)=_
 congr 1;funext G;cases h1:eD P t <;> cases E:uJ P t <;> rfl
def amR{t x}:aop P C PC mt q ops ⟨d,.box t x,ty,pos,aft,gd⟩ ρ H K=dC ops ρ gd fun G=>G=none/\q=false/\cA G (aev ρ x) fun x=>oW x fun cs=>if uT mt d=true then 0<cs.length/\rO H ⟨t,cs.length,[cs]⟩ (X7 K ρ d)else K (upd ρ d (.rp cs 0)) H:=(rfl)
def Ju{t n l}:aop P C PC mt q ops ⟨d,.buildSlice t n l,ty,pos,aft,gd⟩ ρ H K=dC ops ρ gd fun G=>q=false/\sJ G ρ l.toList fun l=>cC (cN P t) fun e=>(l.map (·.1)=Pk 0 n/\dM e.2.1 (l.map (·.2))/\n*e.2.1<=16777216)/\(if uT mt d=true/\G=none then rO H ⟨e.1,e.2.1,l.map (·.2)⟩ (YE K ρ d)else pE K ρ d G H (.sl (l.map (·.2)))):=by
 show dC ops ρ gd (fun G=>q=false/\sJ G ρ l.toList fun l'=>qE P mt G ⟨d,.buildSlice t n l,ty,pos,aft,gd⟩ t n l' ρ H K)=_
 congr 1;funext G;congr 2;funext l;unfold qE;cases h1:cN P t <;> rfl
def Zs{t x y}:aop P C PC mt q ops ⟨d,.store t x y,ty,pos,aft,gd⟩ ρ H K=dC ops ρ gd fun G=>G=none/\q=false/\(if wA y=true then cA G (aev ρ x) fun x=>cC (cN P t) fun e=>rO H ⟨e.1,e.2.1,[]⟩ (fun j H=>ZK P d t x [.os j] ρ H K)else cA G (aev ρ x) fun x=>cA G (aev ρ y) fun y=>oW y fun cs=>ZK P d t x cs ρ H K):=by
 show dC ops ρ gd (fun G => G = none /\ q = false /\ (if wA y = true then cA G (aev ρ x) fun a => match cN P t with
       | some (e,sz,_)=>rO H ⟨e,sz,[]⟩ fun k H=>xB P _ t a [.os k] ρ H K
       | none=>False
     else cA G (aev ρ x) fun a=>cA G (aev ρ y) fun x=>oW x fun cs=>xB P _ t a cs ρ H K))=_
 congr 1;funext G;congr 4;funext a
 cases h1:cN P t <;> rfl
def aiR:Bj P C PC mt ops K [] ρ H=K ρ H:=(rfl)
def asR{k f}:Bj P C PC mt ops K ((k,true)::f) ρ H=cC ops[k]? fun o=>aop P C PC mt true ops o ρ (qH o H) fun E _=>Bj P C PC mt ops K f E H:=by grind[Bj,cC]
def awB{k f}:Bj P C PC mt ops K ((k,false)::f) ρ H=cC ops[k]? fun o=>aop P C PC mt false ops o ρ H (Bj P C PC mt ops K f):=by grind[Bj,cC]
def Zh{Hp}:Ba P C PC mt ops K Hp [] ρ H=K ρ H:=(rfl)
def aqG{Hp k f}:Ba P C PC mt ops K Hp ((k,true)::f) ρ H=cC ops[k]? fun o=>aop P C PC mt true ops o ρ Hp fun E _=>Ba P C PC mt ops K Hp f E H:=by grind[Ba,cC]
def amT{Hp k f}:Ba P C PC mt ops K Hp ((k,false)::f) ρ H=cC ops[k]? fun o=>aop P C PC mt false ops o ρ H (Ba P C PC mt ops K Hp f):=by grind[Ba,cC]
def atU{k}:CW P C PC mt q ops k ρ H K=cC ops[k]? fun o=>aop P C PC mt q ops o ρ H K:=by grind[CW,cC]
def Zb{Hp}:nJ P C PC mt ops K Hp .nil ρ H=K ρ H:=(rfl)
def anV{Hp k t}:nJ P C PC mt ops K Hp (.q k t) ρ H=CW P C PC mt true ops k ρ Hp fun E _=>nJ P C PC mt ops K Hp t E H:=(rfl)
def aoF{Hp k t}:nJ P C PC mt ops K Hp (.a1 k t) ρ H=CW P C PC mt false ops k ρ H (nJ P C PC mt ops K Hp t):=(rfl)
def tL{Hp k t k' t'}(h:CW P C PC mt false ops k ρ H (nJ P C PC mt ops K Hp t))(E:CW P C PC mt false ops k' ρ H (nJ P C PC mt ops K Hp t')):nJ P C PC mt ops K Hp (.a2 k t k' t') ρ H:=⟨h,E⟩
def NO{f cap}:aop P C PC mt q ops ⟨d,.makeFunc (.func f) #[] cap,ty,pos,aft,gd⟩ ρ H K=dC ops ρ gd fun G=>De G ρ cap.toList fun l=>pE K ρ d G H (.fn f l):=by
 show dC ops ρ gd (fun G=>jG P G ρ H (.makeFunc (.func f) #[] cap) (pE K ρ d G H))=_
 grind[jG]
def arZ(K:Env->aG->Prop)(ρ:Env)(d:Option Tmp)(j:Nat)(H:aG):Prop:=K (upd ρ d (.om j)) H
def Sf{j}:arZ K ρ d j H=K (upd ρ d (.om j)) H:=(rfl)
def UQ{t x i ok}:aop P C PC mt q ops ⟨d,.lookup t x i ok,ty,pos,aft,gd⟩ ρ H K=dC ops ρ gd fun G=>cA G (aev ρ x) fun x=>cA G (aev ρ i) fun i=>xL P H t x i ok (pE K ρ d G H):=(rfl)
def Tg{t}:aop P C PC mt q ops ⟨d,.makeMap t none,ty,pos,aft,gd⟩ ρ H K=dC ops ρ gd fun G=>G=none/\q=false/\rO H ⟨0,2,[]⟩ (arZ K ρ d):=(rfl)
def Mn(P:Program)(d:Option Tmp)(t:TypeId)(m x v:AV)(ρ:Env)(H:aG)(K:Env->aG->Prop):Prop:=nW P ⟨d,.move (.tmp 0),0,"",#[],none⟩ t m x v ρ H K
@[congr] theorem wmapU_c {P d t m m' x x' v v' ρ H K} (h0:m=m') (h1:x=x') (h2:v=v'):Mn P d t m x v ρ H K=Mn P d t m' x' v' ρ H K:=h0▸h1▸h2▸rfl
def ajC(P:Program)(d:Option Tmp)(t:TypeId)(m x:AV)(ρ:Env)(H:aG)(K:Env->aG->Prop):Prop:=CG P ⟨d,.move (.tmp 0),0,"",#[],none⟩ t m x ρ H K
@[congr] theorem wmapE_c {P d t m m' x x' ρ H K} (h0:m=m') (h1:x=x'):ajC P d t m x ρ H K=ajC P d t m' x' ρ H K:=h0▸h1▸rfl
def akJ(d:Option Tmp)(m s v:AV)(ρ:Env)(H:aG)(K:Env->aG->Prop):Prop:=xE ⟨d,.move (.tmp 0),0,"",#[],none⟩ m s v ρ H K
@[congr] theorem wmapS_c {d m m' x x' v v' ρ H K} (h0:m=m') (h1:x=x') (h2:v=v'):akJ d m x v ρ H K=akJ d m' x' v' ρ H K:=h0▸h1▸h2▸rfl
@[congr] theorem alookup_c {P H t x x' i i' ok k} (h0:x=x') (h1:i=i'):xL P H t x i ok k=xL P H t x' i' ok k:=h0▸h1▸rfl
def KF{t m x v}:aop P C PC mt q ops ⟨d,.mapUpdate t m x v,ty,pos,aft,gd⟩ ρ H K=dC ops ρ gd fun G=>G=none/\q=false/\cA G (aev ρ m) fun m=>cA G (aev ρ x) fun x=>cA G (aev ρ v) fun v=>Mn P d t m x v ρ H K:=(rfl)
def WA{t m x v}:aop P C PC mt q ops ⟨d,.insert t m x v,ty,pos,aft,gd⟩ ρ H K=dC ops ρ gd fun G=>G=none/\q=false/\cA G (aev ρ m) fun m=>cA G (aev ρ x) fun x=>cA G (aev ρ v) fun v=>Mn P d t m x v ρ H K:=(rfl)
def Pa{t m x}:aop P C PC mt q ops ⟨d,.mapEntry t m x,ty,pos,aft,gd⟩ ρ H K=dC ops ρ gd fun G=>G=none/\q=false/\cA G (aev ρ m) fun m=>cA G (aev ρ x) fun x=>ajC P d t m x ρ H K:=(rfl)
def Jm{t m s v}:aop P C PC mt q ops ⟨d,.entryStore t m s v,ty,pos,aft,gd⟩ ρ H K=dC ops ρ gd fun G=>G=none/\q=false/\cA G (aev ρ m) fun m=>cA G (aev ρ s) fun s=>cA G (aev ρ v) fun v=>akJ d m s v ρ H K:=(rfl)
def Fj{t j key ok k r kt oi z}(O:H j=some r)(I:UX P t=some kt)(J:pB P kt.1 key=true)(E:wV (tP P kt.1 key) r.es 0=some oi)(F:No P kt.2=some z)(h:k (OS ok z r.es oi)):xL P H t (.om j) key ok k:=by grind[xL,Hc]
def Oc{t j key v r kt oi}(J:H j=some r)(F:UX P t=some kt)(I:pB P kt.1 key=true)(E:wV (tP P kt.1 key) r.es 0=some oi)(h:K (upd ρ d .any) (aM H j (some { r with es:=Z4 r.es oi key v }))):Mn P d t (.om j) key v ρ H K:=by grind[Mn,nW,Hc]
def KO{t l c}:aop P C PC mt q ops ⟨d,.makeSlice t l c,ty,pos,aft,gd⟩ ρ H K=dC ops ρ gd fun G=>G=none/\q=false/\cA G (aev ρ l) fun l=>cA G (aev ρ c) fun c=>SZ P d t l c ρ H K:=(rfl)
def abA{t args tys}:aop P C PC mt q ops ⟨d,.call ⟨.value (.tmp t),args,tys⟩,ty,pos,aft,gd⟩ ρ H K=dC ops ρ gd fun G=>cA G (ρ t) fun x=>cC (Q7 x) fun y=>if uT mt d=true then gt G/\q=false/\aE P y.1=true/\C y.1 (y.2.1++args.toList.map (OT ρ)++y.2.2) H (Tu K ρ d)else De G ρ args.toList fun l=>aE P y.1=true/\(if G=none/\q=false then C y.1 (y.2.1++l++y.2.2) H (Tu K ρ d)else ∃r,(gt G->PC y.1 (y.2.1++l++y.2.2) H r)/\nfq q r (pE K ρ d G H)):=by
 show dC ops ρ gd (fun G=>E0 P C PC (uT mt d) q G ⟨d,.call ⟨.value (.tmp t),args,tys⟩,ty,pos,aft,gd⟩ ⟨.value (.tmp t),args,tys⟩ ρ H K)=_
 congr 1;funext G
 simp only[E0,aev]
 congr 1;funext x
 cases h:Q7 x with
 | none=>rfl
 | some y=>rfl
def akZ{f args tys}:aop P C PC mt q ops ⟨d,.call ⟨.value (.func f),args,tys⟩,ty,pos,aft,gd⟩ ρ H K=dC ops ρ gd fun G=>if uT mt d=true then gt G/\q=false/\aE P f=true/\C f (args.toList.map (OT ρ)) H (Tu K ρ d)else De G ρ args.toList fun l=>aE P f=true/\(if G=none/\q=false then C f l H (Tu K ρ d)else ∃r,(gt G->PC f l H r)/\nfq q r (pE K ρ d G H)):=by
 show dC ops ρ gd (fun G=>E0 P C PC (uT mt d) q G ⟨d,.call ⟨.value (.func f),args,tys⟩,ty,pos,aft,gd⟩ ⟨.value (.func f),args,tys⟩ ρ H K)=_
 congr 1;funext G
 simp only[E0,aev,cA,Q7,List.map_nil,List.nil_append,List.append_nil];rfl
def TF{t}:OT ρ (.tmp t)=ρ t:=(rfl)
def IV{v}:OT ρ (.const v)=.v v:=(rfl)
def L3{f}:OT ρ (.func f)=.v (.func (.func f) #[] #[]):=(rfl)
def aqA{x t}:aop P C PC mt q ops ⟨d,.call ⟨.builtin .len,#[x],#[t]⟩,ty,pos,aft,gd⟩ ρ H K=dC ops ρ gd fun G=>cA G (aev ρ x) fun x=>KL P H t x (pE K ρ d G H):=(rfl)
def aoU{x y t t'}:aop P C PC mt q ops ⟨d,.call ⟨.builtin .max,#[x,y],#[t,t']⟩,ty,pos,aft,gd⟩ ρ H K=dC ops ρ gd fun G=>cA G (aev ρ x) fun x=>cA G (aev ρ y) fun y=>VE x y (pE K ρ d G H):=(rfl)
def apC{x y t t'}:aop P C PC mt q ops ⟨d,.call ⟨.builtin .min,#[x,y],#[t,t']⟩,ty,pos,aft,gd⟩ ρ H K=dC ops ρ gd fun G=>cA G (aev ρ x) fun x=>cA G (aev ρ y) fun y=>Wm x y (pE K ρ d G H):=(rfl)
def ahO{n m a b}{k:AV->Prop}:VE (.v (.int n a)) (.v (.int m b)) k=k (.v (.int n (eN a b))):=(rfl)
def afF{n m a b}{k:AV->Prop}:Wm (.v (.int n a)) (.v (.int m b)) k=k (.v (.int n (asK a b))):=(rfl)
def akH{x y t t'}:aop P C PC mt q ops ⟨d,.call ⟨.builtin .copy,#[x,y],#[t,t']⟩,ty,pos,aft,gd⟩ ρ H K=dC ops ρ gd fun G=>cA G (aev ρ x) fun x=>cA G (aev ρ y) fun y=>if G=none/\q=false then TC P d t x y ρ H K else False:=(rfl)
def abZ{x t}:aop P C PC mt q ops ⟨d,.call ⟨.builtin .clear,#[x],#[t]⟩,ty,pos,aft,gd⟩ ρ H K=dC ops ρ gd fun G=>cA G (aev ρ x) fun x=>if G=none/\q=false then Jg P d t x ρ H K else False:=(rfl)
def aiY{G:Option Bool}{k:AV->Prop}{t es lo hi}:asl P G H t (.sl es) lo hi k=oU P G t (.sl es) lo hi k:=(rfl)
def arX{G:Option Bool}{k:AV->Prop}{t v lo hi}:asl P G H t (.v v) lo hi k=oU P G t (.v v) lo hi k:=(rfl)
def asA{G:Option Bool}{k:AV->Prop}{t j n a}:asl P G H t (.os j) (some (.v (.int n a))) none k=cC (H j) fun r=>cC (cN P t) fun e=>(gt G->(0<=a/\a<=r.es.length)/\r.sz=e.2.1)/\k (.oz j a.toNat r.es.length):=by cases h1:H j <;> cases E:cN P t <;> simp[asl,cC,h1,E]
def arN{G:Option Bool}{k:AV->Prop}{t j m b}:asl P G H t (.os j) none (some (.v (.int m b))) k=cC (H j) fun r=>cC (cN P t) fun e=>(gt G->(0<=b/\b<=r.es.length)/\r.sz=e.2.1)/\k (.oz j 0 b.toNat):=by cases h1:H j <;> cases E:cN P t <;> simp[asl,cC,h1,E]
def ST{k:AV->Prop}{es}:uH .eql (.sl es) k=((es=[]->k (.v (.bool true)))/\k (.v (.bool false))):=(rfl)
def QD{k:AV->Prop}{es}:uH .neq (.sl es) k=((es=[]->k (.v (.bool false)))/\k (.v (.bool true))):=(rfl)
def Lt{k:AV->Prop}{j}:uH .eql (.os j) k=(k (.v (.bool true))/\k (.v (.bool false))):=(rfl)
def Nq{k:AV->Prop}:uH .eql (.v (.slice none 0 0)) k=k (.v (.bool true)):=(rfl)
def L2{k:AV->Prop}:uH .neq (.v (.slice none 0 0)) k=k (.v (.bool false)):=(rfl)
def Nc{k:AV->Prop}{j}:uH .neq (.os j) k=(k (.v (.bool false))/\k (.v (.bool true))):=(rfl)
def VX{s x t t'}:aop P C PC mt q ops ⟨d,.call ⟨.builtin .append,#[s,x],#[t,t']⟩,ty,pos,aft,gd⟩ ρ H K=dC ops ρ gd fun G=>cA G (aev ρ s) fun s=>cA G (aev ρ x) fun x=>if t=t'/\G=none/\q=false then NS P d t s x ρ H K else False:=(rfl)
end
section
variable{P:Program}{d:Option Tmp}{ρ:Env}{H:aG}{K:Env->aG->Prop}
def YR{t n a m b}:SZ P d t (.v (.int n a)) (.v (.int m b)) ρ H K=cC (cN P t) fun e=>cC (eD P e.1) fun z=>((0<=a/\a<=b)/\(e.2.2:Int)*b<=140737488355328)/\rO H ⟨e.1,e.2.1,List.replicate a.toNat z⟩ (YE K ρ d):=by
 unfold SZ wL;cases h1:cN P t with
 | none=>rfl
 | some e=>obtain⟨x,y,z⟩:=e;cases E:eD P x <;> simp[cC,E] <;> intros <;> rfl
def atL{f first captured}:Q7 (.v (.func (.func f) first captured))=some (f,first.toList.map .v,captured.toList.map .v):=(rfl)
def arR{q x}{k:AV->Prop}:nfq q (.v x) k=k (.v x):=by cases q <;> rfl
def Yc{q x}{k:AV->Prop}:nfq q (.agg x) k=k (.agg x):=by cases q <;> rfl
def Yt{q x}{k:AV->Prop}:nfq q (.tup x) k=k (.tup x):=by cases q <;> rfl
def afB{x}{k:AV->Prop}:nfq false (.nf x) k=k x:=(rfl)
def aoV{f l}:Q7 (.fn f l)=some (f,[],l):=(rfl)
end
attribute [go_sem ↓] MY My Ik
attribute [go_sem] MY My Ik
@[congr] theorem asl_c {P G H t x x' lo lo' hi hi' k} (h:x=x') (h1:lo=lo') (h2:hi=hi'):asl P G H t x lo hi k=asl P G H t x' lo' hi' k:=h▸h1▸h2▸rfl
@[congr] theorem aeqNil_c {op x x' k} (h:x=x'):uH op x k=uH op x' k:=h▸rfl
def Oz{α:Type}{a:α}{l r:List α}:List.append (a::l) r=a::List.append l r:=(rfl)
def Tz{α:Type}{r:List α}:List.append [] r=r:=(rfl)
attribute [go_sem] Oz Tz
attribute [go_sem] qH
@[congr] theorem amax_c {x x' y y' K} (h:x=x') (h':y=y'):VE x y K=VE x' y' K:=h▸h'▸rfl
@[congr] theorem amin_c {x x' y y' K} (h:x=x') (h':y=y'):Wm x y K=Wm x' y' K:=h▸h'▸rfl
attribute [go_sem ↓] aoU apC ahO afF
attribute [go_sem] ahO afF
@[congr] theorem pinEnd_c {l l' H K ρ H'} (h:l=l'):sS l H K ρ H'=sS l' H K ρ H':=h▸rfl
attribute [go_sem] Lx List.set_cons_zero List.set_cons_succ
attribute [go_sem ↓] Zb anV aoF atU
attribute [go_sem ↓] Zh aqG amT
attribute [go_sem ↓] aiR asR awB akH abZ aiY arX asA arN ST QD Lt Nc Nq L2
attribute [go_sem] aiY arX asA arN ST QD Lt Nc Nq L2
attribute [go_sem ↓] arR Yc Yt afB
attribute [go_sem ↓] UQ Tg KF WA Pa Jm Xy Sf
attribute [go_sem] Xy Sf
attribute [go_sem] arR Yc Yt afB
attribute [go_sem ↓] NO KO abA YR QU TP Rz YP Gu Yv XS YD Tf QW
attribute [go_sem] YR QU TP Rz YP Gu Yv XS YD Tf atL aoV
attribute [go_sem] WY asB
@[congr] theorem ownNils_c {l l' z z' H K} (h:l=l') (h':z=z'):lQ l z H K=lQ l' z' H K:=h▸h'▸rfl
def Sj{z H K}:lQ [] z H K=K z H:=(rfl)
def Og{o e sz r z H K}:lQ ((o,e,sz)::r) z H K=rO H ⟨e,sz,[]⟩ fun k H'=>lQ r (z.set o (.os k)) H' K:=(rfl)
attribute [go_sem ↓] Sj Og
attribute [go_sem ↓] acZ JL Ry Ys PT Ma Nh ZU Sk ajN aoY agS Y3 UJ alD amD UG XQ Rb aaI
attribute [go_sem ↓] De sJ afW akG Z3 ahM Om apY avA agW OA RF RA KW KY abL TA VG aaX amR Ju Zs akZ aqA VX
attribute [go_sem ↓] Xv Xl Yi SP XN PM Rl RK SL SF Sh S6 PN TI RV Rh MM LZ Nn LM LB M3 Nj Qn QR TW Xd X9 L0 LF Nz MW Ym YV W6 Yo XD C1 C3 C4 Db C9 C0 Yu Yg L6 MP Su MX TV Qh J3 Mw Lz Nx Ni Kv Sz Lq Nm MH MV Mm arO arY GW GF ajA S9 YO Yq Sa Tx X0 Xi WV Kq Nw Nb QP TQ Qe Xt LD RH TF IV L3
attribute [go_sem] Vo Xv Xl Yi SP XN PM Rl RK SL SF Sh S6 PN TI RV Rh MM LZ Nn LM LB M3 Nj Qn QR TW Xd X9 L0 LF Nz MW Ym YV W6 Yo XD C1 C3 C4 Db C9 C0 Yu Yg L6 MP Su MX TV Qh J3 Mw Lz Nx Ni Kv Sz Lq Nm MH MV Mm arO arY GW GF ajA S9 YO Yq Sa Tx X0 Xi WV Kq Nw Nb QP TQ Qe Xt LD RH TF IV L3
attribute [go_sem] asM ajE uT wA tR Gg gt gok wr xV kG Rg Value.oneCell' Pk dM vM Option.map_some wG oN aB
attribute [go_sem] Bool.false_eq_true if_false if_true reduceCtorEq true_and and_true false_and and_false false_implies true_implies implies_true forall_const and_self imp_self ne_eq not_true_eq_false not_false_eq_true
attribute [go_sem] List.getD_cons_zero List.getD_cons_succ List.getD_nil List.length_cons List.length_nil List.drop_zero List.drop_succ_cons List.take_succ_cons List.take_zero Option.getD_some Option.getD_none Nat.zero_add Nat.add_zero List.map_cons List.map_nil List.cons_append List.nil_append List.append_nil
attribute [go_sem] Option.bind_some List.getElem?_toArray List.getElem?_cons_zero List.getElem?_cons_succ
attribute [go_sem ↓] reduceIte
attribute [go_sem] Nat.reduceEqDiff Nat.reduceAdd Nat.reduceMul Nat.reduceSub Nat.reduceLT Nat.reduceLeDiff Nat.reduceBEq
end Go.Aw
end
section
namespace Go.Aw
open Go.RowKit
structure Sg where
 ro:Nat->Prop
 fz:Nat->Prop
 loc:Nat->Value
 sz:Nat->Nat
 N:Nat
mutual
def rep(S:Sg)(w:World):AV->Value->Prop
 | .v x,y=>y=x
 | .any,_=>True
 | .sl es,y=>∃ad n c,y=.slice ad n c/\es.length=n/\n<=c/\c<=maxLen/\(es=[]\/∃b o sz,ad=some ⟨b,o,none⟩/\S.ro b/\0<sz/\jD S w b sz o es)
 | .rp cs off,y=>∃b o,y=.pointer (some ⟨b,o+off,none⟩)/\S.ro b/\dU S w b o cs
 | .agg cs,y=>∃l:List Value,y=.agg l.toArray/\bO S w cs l/\∀u∈l,u.oneCell'=true
 | .tup vs,y=>∃l:List Value,y=.tuple l.toArray/\bO S w vs l
 | .os k,y=>k<S.N/\y=S.loc k/\∃a n c,y=.slice a n c
 | .op k i f,y=>k<S.N/\∃g n c,S.loc k=.slice (some ⟨g,0,none⟩) n c/\y=.pointer (some ⟨g,i*S.sz k+f,none⟩)
 | .gd g x,y=>(g=true->rep S w x y)/\(g=false->y=undef)
 | .nf x,y=>rep S w x y
 | .fn f cap,y=>∃l:List Value,y=.func (.func f) #[] l.toArray/\bO S w cap l
 | .om k,y=>k<S.N/\y=S.loc k/\∃g,y=.map (some g)
 | .cl es,y=>∃ad n,y=.slice ad n n/\es.length=n/\n<=maxLen/\(es=[]\/∃b o sz,ad=some ⟨b,o,none⟩/\S.ro b/\0<sz/\jD S w b sz o es)
 | .oz k a b,y=>k<S.N/\∃ad n c ad' cc,S.loc k=.slice ad n c/\y=.slice ad' (b-a) cc/\a<=b/\b<=n/\(a<b->∃g,ad=some ⟨g,0,none⟩/\ad'=some ⟨g,a*S.sz k,none⟩)/\(a=0->ad'=ad/\cc=c)
def bO(S:Sg)(w:World):List AV->List Value->Prop
 | [],l=>l=[]
 | x::r,l=>∃u t,l=u::t/\rep S w x u/\bO S w r t
def dU(S:Sg)(w:World)(b:Nat):Nat->List AV->Prop
 | _,[]=>True
 | o,x::r=>(∃u,w.cell? ⟨b,o,none⟩=some u/\u.oneCell'=true/\rep S w x u)/\dU S w b (o+1) r
def jD(S:Sg)(w:World)(b sz:Nat):Nat->List (List AV)->Prop
 | _,[]=>True
 | o,cs::r=>cs.length=sz/\dU S w b o cs/\jD S w b sz (o+sz) r
end
structure Sg.le(S S':Sg):Prop where
 ro:∀k,S.ro k->S'.ro k
 N:S.N<=S'.N
 loc:∀k,k<S.N->S'.loc k=S.loc k
 sz:∀k,k<S.N->S'.sz k=S.sz k
def Sg.le_refl(S:Sg):S.le S:=⟨fun _ h=>h,Nat.le_refl _,fun _ _=>rfl,fun _ _=>rfl⟩
def Sg.le_trans{S S' F:Sg}(h:S.le S')(I:S'.le F):S.le F:=
 ⟨fun k E=>I.ro k (h.ro k E),Nat.le_trans h.N I.N,fun k E=>(I.loc k (Nat.lt_of_lt_of_le E h.N)).trans (h.loc k E),
  fun k E=>(I.sz k (Nat.lt_of_lt_of_le E h.N)).trans (h.sz k E)⟩
def blk:Value->Option Nat
 | .slice (some a) _ _=>some a.block
 | .map (some g)=>some g
 | _=>none
def iL(S:Sg)(w w':World):Prop:=∀k,S.ro k->w'.heap[k]?=w.heap[k]?
theorem iL.refl(S:Sg)(w:World):iL S w w:=fun _ _=>rfl
section
variable{S S':Sg}{w w':World}
def iL.cell(h:iL S w w'){b o:Nat}(E:S.ro b):w'.cell? ⟨b,o,none⟩=w.cell? ⟨b,o,none⟩:=World.cell?_of_block (a:=⟨b,o,none⟩) (h b E)
mutual
theorem nV(E:S.le S')(F:iL S w w'):∀(x:AV) (y:Value),rep S w x y->rep S' w' x y
 | .v _,_,h=>h
 | .any,_,_=>trivial
 | .sl es,y,h=>by
  simp only[rep]at h |-;obtain⟨X,n,c,rfl,h1,h2,T,J⟩:=h;refine⟨X,n,c,rfl,h1,h2,T,?_⟩;rcases J with J|⟨b,o,sz,rfl,I,Y,Z⟩
  ·grind
  ·exact .inr ⟨b,o,sz,rfl,E.ro b I,Y,Dl E F I sz o es Z⟩
 | .rp cs off,y,h=>by simp only[rep]at h |-;obtain⟨b,o,rfl,I,hc⟩:=h;exact⟨b,o,rfl,E.ro b I,zR E F I o cs hc⟩
 | .agg cs,y,h=>by simp only[rep]at h |-;obtain⟨l,rfl,O,h1⟩:=h;exact⟨l,rfl,eU E F cs l O,h1⟩
 | .tup vs,y,h=>by simp only[rep]at h |-;obtain⟨l,rfl,O⟩:=h;exact⟨l,rfl,eU E F vs l O⟩
 | .os k,y,h=>by simp only[rep]at h |-;exact⟨Nat.lt_of_lt_of_le h.1 E.N,by rw[E.loc k h.1];grind⟩
 | .op k i f,y,h=>by
  simp only[rep]at h |-;refine⟨Nat.lt_of_lt_of_le h.1 E.N,?_⟩;rw[E.loc k h.1,E.sz k h.1]
  grind
 | .gd g x,y,h=>by simp only[rep]at h |-;exact⟨fun hg=>nV E F x y (h.1 hg),h.2⟩
 | .nf x,y,h=>by simp only[rep]at h |-;exact nV E F x y h
 | .fn f cap,y,h=>by simp only[rep]at h |-;obtain⟨l,rfl,O⟩:=h;exact⟨l,rfl,eU E F cap l O⟩
 | .om k,y,h=>by simp only[rep]at h |-;exact⟨Nat.lt_of_lt_of_le h.1 E.N,by rw[E.loc k h.1];grind⟩
 | .oz k a b,y,h=>by
  simp only[rep]at h |-;refine⟨Nat.lt_of_lt_of_le h.1 E.N,?_⟩;rw[E.loc k h.1,E.sz k h.1]
  grind
 | .cl es,y,h=>by
  simp only[rep]at h |-;obtain⟨X,n,rfl,h1,T,J⟩:=h;refine⟨X,n,rfl,h1,T,?_⟩;rcases J with J|⟨b,o,sz,rfl,I,Y,Z⟩
  ·grind
  ·exact .inr ⟨b,o,sz,rfl,E.ro b I,Y,Dl E F I sz o es Z⟩
theorem eU(F:S.le S')(E:iL S w w'):∀(x:List AV) (l:List Value),bO S w x l->bO S' w' x l
 | [],_,h=>h
 | x::r,l,h=>by simp only[bO]at h |-;obtain⟨u,t,rfl,h1,I⟩:=h;exact⟨u,t,rfl,nV F E x u h1,eU F E r t I⟩
theorem zR(I:S.le S')(E:iL S w w'){b:Nat}(F:S.ro b):∀(o:Nat) (x:List AV),dU S w b o x->dU S' w' b o x
 | _,[],_=>trivial
 | o,x::r,h=>by simp only[dU]at h |-;obtain⟨⟨u,h1,O,J⟩,T⟩:=h;exact⟨⟨u,by rw[E.cell F];exact h1,O,nV I E x u J⟩,zR I E F (o+1) r T⟩
theorem Dl(I:S.le S')(F:iL S w w'){b:Nat}(E:S.ro b)(sz:Nat):∀(o:Nat) (x:List (List AV)),jD S w b sz o x->jD S' w' b sz o x
 | _,[],_=>trivial
 | o,x::r,h=>by simp only[jD]at h |-;exact⟨h.1,zR I F E o x h.2.1,Dl I F E sz (o+sz) r h.2.2⟩
end
def B8:∀(cs:List AV) (o j:Nat) {b:Nat},dU S w b o cs->j<cs.length->∃u,w.cell? ⟨b,o+j,none⟩=some u/\u.oneCell'=true/\rep S w (cs.getD j .any) u
 | [],_,_,_,_,h=>by grind
 | x::r,o,0,b,h,_=>by grind[dU]
 | x::r,o,j+1,b,h,hj=>by simp only[dU]at h;have:=B8 r (o+1) j h.2 (by simpa using hj);rw[show o+1+j=o+(j+1)by omega]at this;simpa using this
def AP:∀(cs:List AV) (o j:Nat) {b:Nat},dU S w b o cs->dU S w b (o+j) (cs.drop j)
 | [],_,_,_,_=>by simp[dU]
 | x::r,o,0,b,h=>by grind
 | x::r,o,j+1,b,h=>by
  simp only[dU]at h;have:=AP r (o+1) j h.2
  grind
def AC:∀(cs:List AV) (o j:Nat) {b:Nat},dU S w b o cs->dU S w b o (cs.take j)
 | [],_,_,_,_=>by grind
 | x::r,o,0,b,h=>by simp[dU]
 | x::r,o,j+1,b,h=>by simp only[dU,List.take_succ_cons]at h |-;exact⟨h.1,AC r (o+1) j h.2⟩
def oJ:∀(cs:List AV) (o:Nat) {b:Nat},dU S w b o cs->∃l:List Value,l.length=cs.length/\bO S w cs l/\(∀u∈l,u.oneCell'=true)/\∀j u,l[j]?=some u->w.cell? ⟨b,o+j,none⟩=some u
 | [],_,_,_=>⟨[],rfl,by rfl,by simp,by simp⟩
 | x::r,o,b,h=>by
  simp only[dU]at h;obtain⟨⟨u,h1,O,J⟩,Y⟩:=h;obtain⟨l,I,X,F,T⟩:=oJ r (o+1) Y;refine⟨u::l,by simp[I],?_,?_,?_⟩
  ·simp only[bO];exact⟨u,l,rfl,J,X⟩
  ·intro v E;rcases List.mem_cons.1 E with rfl|E
   ·exact O
   ·exact F v E
  ·intro j v E;cases j with
   | zero=>simp at E;subst E;simpa using h1
   | succ j=>rw[show o+(j+1)=o+1+j by omega];exact T j v (by simpa using E)
def vJ:∀(es:List (List AV)) (o i:Nat) {b sz:Nat},jD S w b sz o es->i<es.length->(es.getD i []).length=sz/\dU S w b (o+i*sz) (es.getD i [])
 | [],_,_,_,_,_,h=>by grind
 | x::r,o,0,b,sz,h,_=>by grind[jD]
 | x::r,o,i+1,b,sz,h,hi=>by simp only[jD]at h;have:=vJ r (o+sz) i h.2.2 (by simpa using hi);rw[show o+sz+i*sz=o+(i+1)*sz by rw[Nat.add_mul];omega]at this;simpa using this
theorem Ds:∀(es:List (List AV)) (o i:Nat) {b sz:Nat},jD S w b sz o es->jD S w b sz (o+i*sz) (es.drop i)
 | [],_,_,_,_,_=>by simp[jD]
 | x::r,o,0,b,sz,h=>by grind
 | x::r,o,i+1,b,sz,h=>by simp only[jD]at h;have:=Ds r (o+sz) i h.2.2;rw[show o+sz+i*sz=o+(i+1)*sz by rw[Nat.add_mul];omega]at this;simpa using this
theorem Aq:∀(es:List (List AV)) (o i:Nat) {b sz:Nat},jD S w b sz o es->jD S w b sz o (es.take i)
 | [],_,_,_,_,_=>by grind
 | x::r,o,0,b,sz,h=>by simp[jD]
 | x::r,o,i+1,b,sz,h=>by simp only[jD,List.take_succ_cons]at h |-;exact⟨h.1,h.2.1,Aq r _ i h.2.2⟩
def vS:∀(xs E:List AV) (o:Nat) {b:Nat},dU S w b o (xs++E)↔dU S w b o xs/\dU S w b (o+xs.length) E
 | [],E,o,b=>by simp[dU]
 | x::r,E,o,b=>by simp only[List.cons_append,dU,vS r E (o+1),List.length_cons,show o+1+r.length=o+(r.length+1)by omega,and_assoc]
def Ak:∀(es:List (List AV)) (o:Nat) {b sz:Nat},jD S w b sz o es->dU S w b o es.flatten
 | [],_,_,_,_=>by simp[dU]
 | x::r,o,b,sz,h=>by simp only[jD]at h;rw[List.flatten_cons,vS];refine⟨h.2.1,?_⟩;rw[h.1];exact Ak r _ h.2.2
def tK:∀(es:List (List AV)) (o:Nat) {b sz:Nat},(∀cs∈es,cs.length=sz)->dU S w b o es.flatten->jD S w b sz o es
 | [],_,_,_,_,_=>by simp[jD]
 | x::r,o,b,sz,hl,h=>by rw[List.flatten_cons,vS]at h;have E:=hl x (by simp);rw[E]at h;simp only[jD];exact⟨E,h.1,tK r _ (fun cs F=>hl cs (by simp[F])) h.2⟩
theorem qP:∀(es:List (List AV)) {sz:Nat},(∀cs∈es,cs.length=sz)->es.flatten.length=es.length*sz
 | [],_,_=>by simp
 | x::r,sz,hl=>by rw[List.flatten_cons,List.length_append,hl x (by simp),qP r (fun cs E=>hl cs (by simp[E])),List.length_cons,Nat.add_mul];omega
theorem jB:∀(x:List AV) (l:List Value),bO S w x l->l.length=x.length
 | [],l,h=>by grind[bO]
 | x::r,l,h=>by simp only[bO]at h;obtain⟨u,t,rfl,_,E⟩:=h;simp[jB r t E]
def D6:∀(x:List AV) (l:List Value) (j:Nat),bO S w x l->j<x.length->∃u,l[j]?=some u/\rep S w (x.getD j .any) u
 | [],_,_,_,h=>by grind
 | x::r,l,j,h,hj=>by
  simp only[bO]at h;obtain⟨u,t,rfl,h1,I⟩:=h;cases j with
  | zero=>exact⟨u,by simp,by simpa using h1⟩
  | succ j=>obtain⟨v,E,F⟩:=D6 r t j I (by simpa using hj);exact⟨v,by simpa using E,by simpa using F⟩
theorem gG:∀(x y:List AV) (l m:List Value),bO S w x l->bO S w y m->bO S w (x++y) (l++m)
 | [],y,l,m,h,h'=>by grind[bO]
 | x::r,y,l,m,h,h'=>by simp only[bO]at h;obtain⟨u,t,rfl,h1,E⟩:=h;simp only[List.cons_append,bO];exact⟨u,t++m,rfl,h1,gG r y t m E h'⟩
theorem yO:∀(x:List AV) (l:List Value) (j:Nat),bO S w x l->bO S w (x.drop j) (l.drop j)
 | [],l,j,h=>by grind[bO]
 | x::r,l,j,h=>by
  cases j with
  | zero=>simpa using h
  | succ j=>simp only[bO]at h;obtain⟨u,t,rfl,_,E⟩:=h;simpa using yO r t j E
theorem vD:∀(x:List AV) (l:List Value) (j:Nat),bO S w x l->bO S w (x.take j) (l.take j)
 | [],l,j,h=>by grind[bO]
 | x::r,l,j,h=>by
  cases j with
  | zero=>simp[bO]
  | succ j=>simp only[bO]at h;obtain⟨u,t,rfl,h1,E⟩:=h;simp only[List.take_succ_cons,bO];exact⟨u,t.take j,rfl,h1,vD r t j E⟩
def kQ:∀(x:List AV) (l:List Value) (o:Nat) {b:Nat},bO S w x l->(∀u∈l,u.oneCell'=true)->(∀j u,l[j]?=some u->w.cell? ⟨b,o+j,none⟩=some u)->dU S w b o x
 | [],_,_,_,_,_,_=>by simp[dU]
 | x::r,l,o,b,h,h1,hc=>by simp only[bO]at h;obtain⟨u,t,rfl,F,I⟩:=h;simp only[dU];refine⟨⟨u,by simpa using hc 0 u (by simp),h1 u (by simp),F⟩,kQ r t (o+1) I (fun v E=>h1 v (by simp[E])) fun j v E=>?_⟩;rw[show o+1+j=o+(j+1)by omega];exact hc (j+1) v (by simpa using E)
end
end Go.Aw
end
section
namespace Go.Aw
open Go.RowKit
def oC(S:Sg)(w:World):Nat->List (List AV)->List MapEntry->Prop
 | _,[],ms=>ms=[]
 | i,cs::r,ms=>∃m t,ms=m::t/\m.born=i/\bO S w cs [m.key,m.val]/\oC S w (i+1) r t
def OM(S:Sg)(w:World)(k:Nat)(r:Row):Prop:=∃xs,w.ownsRow 0 r.e r.sz (S.loc k) r.es.length xs/\bO S w r.es.flatten xs/\∀u∈xs,u.oneCell'=true
def aeN(S:Sg)(w:World)(k:Nat)(r:Row):Prop:=∃g ms,S.loc k=.map (some g)/\w.heap[g]?=some (.map (List.toArray ms) ms.length)/\oC S w 0 r.es ms/\r.sz=2
theorem asZ(a:Option Addr)(n c:Nat):blk (.slice a n c)=(Value.slice a n c).ownBlock:=by cases a <;> rfl
structure RowOK(S:Sg)(w:World)(k:Nat)(r:Row):Prop where
 lt:k<S.N
 sz:r.sz=S.sz k
 pos:0<r.sz
 len:∀cs∈r.es,cs.length=r.sz
 own:OM S w k r\/aeN S w k r
def BG(S:Sg)(w:World)(H:aG):Prop:=∀k r,H k=some r->RowOK S w k r
def RowOK.sl{S:Sg}{w:World}{k:Nat}{r:Row}(h:RowOK S w k r){a:Option Addr}{n c:Nat}(E:S.loc k=.slice a n c):OM S w k r:=by
 rcases h.own with h1|⟨g,ms,h1,_⟩
 all_goals grind
def RowOK.mp{S:Sg}{w:World}{k:Nat}{r:Row}(h:RowOK S w k r){g:Nat}(E:S.loc k=.map (some g)):aeN S w k r:=by
 rcases h.own with⟨xs,F,_⟩|h1
 ·rcases F.2 with⟨hv,_⟩|⟨_,_,_,hv,_⟩ <;> (rw[E]at hv;cases hv)
 omega
structure Agree(S:Sg)(H:aG)(w w':World):Prop where
 kept:iL S w w'
 own:∀k r,H k=some r->∀g,blk (S.loc k)=some g->w'.heap[g]?=w.heap[g]?
theorem Agree.refl(S:Sg)(H:aG)(w:World):Agree S H w w:=⟨iL.refl S w,fun _ _ _ _ _=>rfl⟩
def AX(P:Program)(S:Sg)(H:aG)(w:World)(z:AV)(e:Sem Value):Prop:=
 ∃v,rep S w z v/\∀w',Agree S H w w'->e.run P w'=.ok v w'
section
variable{P:Program}{S:Sg}{H:aG}{w:World}{G:Option Bool}{K:AV->Prop}
def rC{x:Value}:rep S w (.v x) x:=by rfl
def zM{t:TypeId}{l:Option Nat}(h:ldT P t=some l):∃d,P.underlying t=some d /\
 match l with
 | none=>(∀fs,d≠.struct fs)/\∀n e,d≠.array n e
 | some n=>((∃fs,d=.struct fs)\/∃m e,d=.array m e)/\∃i,P.info? t=some i/\i.size=n:=by grind[ldT]
def uM{t:TypeId}{l:Option Nat}(h:ldT P t=some l)(w:World):(isAgg t).run P w=.ok l.isSome w:=by
 obtain⟨d,E,F⟩:=zM h;cases l with
 | none=>simp_all[isAgg,run_underlying]
 | some n=>obtain⟨h1,_⟩:=F;simp only[isAgg,Sem.run_bind,run_underlying E,Result.andThen];rcases h1 with⟨fs,rfl⟩|⟨m,e,rfl⟩ <;> simp
theorem yG{t:TypeId}{n:Nat}(h:ldT P t=some (some n))(w:World):(sizeOf t).run P w=.ok n w:=by obtain⟨d,I,E⟩:=zM h;obtain⟨_,i,F,rfl⟩:=E;simp[sizeOf,typeInfo,F]
def AZ{t:TypeId}(h:ldT P t=some none){a:Addr}{v:Value}(E:w.cell? a=some v):(loadVar t a).run P w=.ok v w:=by simp_all[loadVar,uM]
def yY{t:TypeId}{l:List Value}(h:ldT P t=some (some l.length)){b o:Nat}(E:∀j v,l[j]?=some v->w.cell? ⟨b,o+j,none⟩=some v):
 (loadVar t ⟨b,o,none⟩).run P w=.ok (.agg l.toArray) w:=by simp_all[run_loadCells_list,Addr.add_lit,loadVar,uM,yG]
def RowOK.cells{k:Nat}{r:Row}(h:RowOK S w k r){J:Option Addr}{O Z:Nat}(X:S.loc k=.slice J O Z)(Y:r.es≠[]):∃g n c,S.loc k=.slice (some ⟨g,0,none⟩) n c/\dU S w g 0 r.es.flatten/\n=r.es.length:=by
 obtain⟨xs,E,I,h1⟩:=h.sl X;rcases E.2 with⟨_,hn⟩|⟨g,cap,cur,F,_⟩
 ·grind
 ·refine⟨g,_,cap,F,?_,rfl⟩;refine kQ _ xs 0 I h1 fun j u T=>?_
  have:=E.cells (g:=g) (by rw[F];rfl) j u T
  grind[Addr.add_lit]
def RowOK.els{k:Nat}{r:Row}(h:RowOK S w k r){X:Option Addr}{F T:Nat}(J:S.loc k=.slice X F T)(E:r.es≠[]):∃g n c,S.loc k=.slice (some ⟨g,0,none⟩) n c/\jD S w g r.sz 0 r.es/\n=r.es.length:=by obtain⟨g,n,c,h1,O,I⟩:=h.cells J E;exact⟨g,n,c,h1,tK _ _ h.len O,I⟩
def Agree.cell{w':World}(F:Agree S H w w'){b o:Nat}{u:Value}(E:S.ro b)(h:w.cell? ⟨b,o,none⟩=some u):w'.cell? ⟨b,o,none⟩=some u:=(F.kept.cell E).trans h
def Agree.cellOwn{w':World}(F:Agree S H w w'){k g n c o:Nat}{r:Row}{u:Value}(E:H k=some r)(I:S.loc k=.slice (some ⟨g,0,none⟩) n c)(h:w.cell? ⟨g,o,none⟩=some u):w'.cell? ⟨g,o,none⟩=some u:=by
 have:=F.own k r E g (by rw[I];rfl)
 grind[World.cell?_of_block]
theorem GK{t:TypeId}{l:Option Nat}{x:AV}(Y:ldT P t=some l)(hH:BG S w H)(h:qR G H l x K):
  ∃z,K z/\(gt G->∀u,rep S w x u->AX P S H w z (Instr.loadAt t u)):=by
 unfold qR at h;split at h
 ·rename_i cs off;cases l with
  | none=>refine⟨_,h.2,fun X u J=>?_⟩;simp only[rep]at J;obtain⟨b,o,rfl,hb,hc⟩:=J;obtain⟨v,h1,_,h3⟩:=B8 cs o off hc (h.1 X);refine⟨v,h3,fun w' T=>?_⟩;simp[Instr.loadAt,Instr.sureAddr,AZ Y (T.cell hb h1)]
  | some n=>
   refine⟨_,h.2,fun X u J=>?_⟩;simp only[rep]at J;obtain⟨b,o,rfl,hb,hc⟩:=J;obtain⟨l,I,e2,e3,e4⟩:=oJ _ _ (AC _ _ n (AP cs o off hc));have aa:=h.1 X;have hn:l.length=n:=by grind
   refine⟨.agg l.toArray,by grind[rep],fun w' T=>?_⟩;rw[<-hn]at Y;simp[Instr.loadAt,Instr.sureAddr,yY Y (fun j v hj=>T.cell hb (e4 j v hj))]
 ·rename_i k i f;split at h
  ·rename_i r hk;have Z:=hH k r hk;cases l with
   | none=>
    refine⟨_,h.2,fun X u J=>?_⟩;simp only[rep]at J;obtain⟨_,g,n,c,E,rfl⟩:=J;obtain⟨hi,hf⟩:=h.1 X;have O:r.es≠[]:=fun e=>by grind
    obtain⟨g',n',c',F,he,_⟩:=Z.els E O;rw[E]at F;injection F with I e2 e3;injection I with I;injection I with I;subst I;obtain⟨e4,e5⟩:=vJ _ 0 i he hi;obtain⟨v,h1,_,h3⟩:=B8 _ _ f e5 (by omega);refine⟨v,h3,fun w' T=>?_⟩;rw[<-Z.sz];rw[Nat.zero_add]at h1;simp[Instr.loadAt,Instr.sureAddr,AZ Y (T.cellOwn hk E h1)]
   | some m=>
    refine⟨_,h.2,fun X u J=>?_⟩;simp only[rep]at J;obtain⟨_,g,n,c,E,rfl⟩:=J;obtain⟨hi,hf⟩:=h.1 X;have O:r.es≠[]:=fun e=>by grind
    obtain⟨g',n',c',F,he,_⟩:=Z.els E O;rw[E]at F;injection F with I e2 e3;injection I with I;injection I with I;subst I;obtain⟨e4,e5⟩:=vJ _ 0 i he hi;obtain⟨l,I,e2,e3,e6⟩:=oJ _ _ (AC _ _ m (AP _ _ f e5));have hn:l.length=m:=by grind
    refine⟨.agg l.toArray,by grind[rep],fun w' T=>?_⟩;rw[<-hn]at Y;rw[<-Z.sz];rw[Nat.zero_add]at e6;simp[Instr.loadAt,Instr.sureAddr,yY Y (fun j v hj=>T.cellOwn hk E (e6 j v hj))]
  grind
 grind
def rJ{t:TypeId}(h:ldT P t=some none){l:List Value}{o:Nat}{u:Value}(E:l[o]?=some u):(part t l.toArray o).run P w=.ok u w:=by simp_all[part,uM]
def K6{t:TypeId}{n:Nat}(h:ldT P t=some (some n)){l:List Value}{o:Nat}:(part t l.toArray o).run P w=.ok (.agg ((l.drop o).take n).toArray) w:=by simp_all[part,uM,yG]
def Hh{t:TypeId}{l:Option Nat}{x:AV}{off:Nat}(F:ldT P t=some l)(h:apart G off l x K):
  ∃z,K z/\(gt G->∀u,rep S w x u->∃cs:Array Value,u=.agg cs/\AX P S H w z (part t cs off)):=by
 unfold apart at h;split at h
 ·rename_i cs;cases l with
  | none=>refine⟨_,h.2,fun I u E=>?_⟩;simp only[rep]at E;obtain⟨l,rfl,h1,_⟩:=E;obtain⟨v,J,O⟩:=D6 cs l off h1 (h.1 I);exact⟨_,rfl,v,O,fun w' _=>rJ F J⟩
  | some n=>
   refine⟨_,h.2,fun I u E=>?_⟩;simp only[rep]at E;obtain⟨l,rfl,h1,T⟩:=E;refine⟨_,rfl,_,?_,fun w' _=>K6 F⟩
   grind[rep,vD,yO]
 grind
def Df{t:TypeId}{f o:Nat}{l:Option Nat}(h:aP P t f=some (o,l)):
  ∃fs E i,P.underlying t=some (.struct fs)/\fs[f]?=some E/\E.offset=o/\P.info? E.type=some i/\i.size≠0/\ldT P E.type=some l:=by
 unfold aP at h;cases F:P.underlying t with
 | none=>grind
 | some d=>
  cases d <;> simp only[F]at h <;> try (simp at h;done)
  grind[ldT]
def GG{t:TypeId}{f o:Nat}{l:Option Nat}(h:aP P t f=some (o,l))(b p:Nat)(w:World):
  (Instr.fieldAt t (.pointer (some ⟨b,p,none⟩)) f).run P w=.ok (.pointer (some ⟨b,p+o,none⟩)) w:=by
 obtain⟨fs,J,i,I,E,rfl,O,F,_⟩:=Df h;simp_all[Instr.fieldAt,run_underlying,Instr.sureAddr,fieldPlace,sizeOf,typeInfo,Addr.add_lit]
def FE{t:TypeId}{f:Nat}{x:AV}(h:lI P t f x K):
  ∃z,K z/\(gt G->∀u,rep S w x u->AX P S H w z (Instr.fieldAt t u f)):=by
 unfold lI at h;split at h
 ·rename_i cs off;split at h
  ·rename_i o l F;refine⟨_,h,fun _ u E=>?_⟩;simp only[rep]at E;obtain⟨b,p,rfl,J,I⟩:=E;refine⟨_,?_,fun w' _=>GG F b (p+off) w'⟩
   grind[rep]
  grind
 ·rename_i k i g;split at h
  ·rename_i o l F;refine⟨_,h,fun _ u E=>?_⟩;simp only[rep]at E;obtain⟨h1,b,n,c,O,rfl⟩:=E;refine⟨_,?_,fun w' _=>GG F b _ w'⟩
   grind[rep]
  grind
 grind
def jW{t:TypeId}{e sz E:Nat}(h:cN P t=some (e,sz,E)):
  ∃i z,P.underlying t=some (.slice e)/\P.info? e=some i/\i.size=sz/\i.bytes=E/\0<sz/\0<E/\i.zero=some z/\z.cells.size=sz:=by
 unfold cN at h;cases F:P.underlying t<;>simp_all<;>grind
def NF{t:TypeId}{n s:Nat}{l:Option Nat}(h:Gi P t=some (n,s,l)):
  ∃e i,P.underlying t=some (.array n e)/\P.info? e=some i/\i.size=s/\s≠0/\ldT P e=some l:=by
 unfold Gi at h
 grind[ldT]
def BV{t:TypeId}{e sz E:Nat}(h:cN P t=some (e,sz,E))(b o len cap:Nat)(k:IntKind)(i:Int)(h0:0<=i)(h1:i<len)(w:World):
  (Instr.indexAt t (.slice (some ⟨b,o,none⟩) len cap) (.int k i)).run P w=.ok (.pointer (some ⟨b,o+i.toNat*sz,none⟩)) w:=by
 obtain⟨J,z,F,I,rfl,_⟩:=jW h;simp[Instr.indexAt,run_underlying F,asIntOf,h0,h1,sizeOf,typeInfo,I,Addr.add_lit]
def A7{t:TypeId}{n s:Nat}{l:Option Nat}(h:Gi P t=some (n,s,l))(b o:Nat)(k:IntKind)(i:Int)(h0:0<=i)(h1:i<n)(w:World):
  (Instr.indexAt t (.pointer (some ⟨b,o,none⟩)) (.int k i)).run P w=.ok (.pointer (some ⟨b,o+i.toNat*s,none⟩)) w:=by
 obtain⟨e,I,E,F,rfl,_⟩:=NF h;simp[Instr.indexAt,run_underlying E,asIntOf,h0,h1,Instr.sureAddr,sizeOf,typeInfo,F,Addr.add_lit]
theorem Fu{t:TypeId}{x i:AV}(hH:BG S w H)(h:hJ P G H t x i K):
  ∃z,K z/\(gt G->∀u v,rep S w x u->rep S w i v->AX P S H w z (Instr.indexAt t u v)):=by
 unfold hJ at h;split at h
 ·rename_i es k n;split at h
  ·rename_i e sz O he;refine⟨_,h.2,fun X u v F I=>?_⟩;obtain⟨⟨h0,h1⟩,h2⟩:=h.1 X;simp only[rep]at F I;subst I;obtain⟨ad,m,c,rfl,e1,_,_,e2⟩:=F;rcases e2 with rfl|⟨b,o,ab,rfl,hb,_,Y⟩
   ·grind
   ·have J:n.toNat<es.length:=by omega
    obtain⟨e3,e4⟩:=vJ es o n.toNat Y J;have aa:ab=sz:=by omega
    subst aa;refine⟨_,?_,fun w' _=>BV he b o m c k n h0 (by omega) w'⟩;simp only[rep]
    grind
  grind
 ·rename_i k ik n;split at h
  ·rename_i r e sz O hk he;refine⟨_,h.2,fun X u v F I=>?_⟩;obtain⟨⟨h0,h1⟩,h2⟩:=h.1 X;have hr:=hH k r hk;have Z:r.es≠[]:=fun e=>by grind
   simp only[rep]at F I;subst I;obtain⟨J,rfl,_,_,_,T⟩:=F;obtain⟨g,m,c,E,_,hm⟩:=hr.els T Z;rw[E];refine⟨_,?_,fun w' _=>BV he g 0 m c ik n h0 (by omega) w'⟩;simp only[rep];exact⟨J,g,m,c,E,by rw[<-hr.sz,h2];simp⟩
  grind
 ·rename_i cs off k n;split at h
  ·rename_i m s l ha;refine⟨_,h.2,fun X u v F I=>?_⟩;obtain⟨h0,h1⟩:=h.1 X;simp only[rep]at F I;subst I;obtain⟨b,o,rfl,hb,hc⟩:=F;refine⟨_,?_,fun w' _=>A7 ha b (o+off) k n h0 h1 w'⟩
   grind[rep]
  grind
 ·rename_i k j f ik n;split at h
  ·rename_i m s l ha;refine⟨_,h.2,fun X u v F I=>?_⟩;obtain⟨h0,h1⟩:=h.1 X;simp only[rep]at F I;subst I;obtain⟨J,g,n',c,E,rfl⟩:=F;refine⟨_,?_,fun w' _=>A7 ha g _ ik n h0 h1 w'⟩
   grind[rep]
  grind
 grind
def BU{t:TypeId}(h:dB P t=true):∃e,P.underlying t=some (.slice e):=by grind[dB]
theorem mH{t:TypeId}(h:fM P t=true):P.underlying t=some .string:=by grind[fM]
def acF{t:TypeId}(h:U1 P t=true):∃e,P.underlying t=some (.pointer e):=by grind[U1]
def WQ{t:TypeId}(h:Ch P t=true):P.underlying t=some .bool:=by grind[Ch]
def IR{t ty:TypeId}{x:AV}(X:BG S w H)(h:KL P H t x K):
  ∃z,K z/\(gt G->∀u,rep S w x u->AX P S H w z (Builtin.len_ #[t] ty #[u])):=by
 unfold KL at h;split at h
 ·rename_i es;split at h
  ·rename_i I;obtain⟨e,Y⟩:=BU I;refine⟨_,h,fun _ u E=>?_⟩;simp only[rep]at E;obtain⟨ad,m,c,rfl,Z,_⟩:=E;refine⟨_,rC,fun w' _=>?_⟩;simp_all[Builtin.len_,run_underlying,goInt]
  grind
 ·rename_i k;split at h
  ·rename_i r J;split at h
   ·rename_i I;obtain⟨e,Y⟩:=BU I;refine⟨_,h,fun _ u E=>?_⟩;simp only[rep]at E;obtain⟨_,rfl,_,_,_,F⟩:=E;obtain⟨xs,O,_⟩:=(X k r J).sl F;refine⟨_,rC,fun w' _=>?_⟩;rcases O.2 with⟨T,hn⟩|⟨g,cap,cur,T,_⟩
    all_goals simp_all[Builtin.len_,run_underlying,goInt]
   grind
  grind
 ·rename_i s;split at h
  ·rename_i I;refine⟨_,h,fun _ u E=>?_⟩;simp only[rep]at E;subst E;refine⟨_,rC,fun w' _=>?_⟩;simp_all[Builtin.len_,run_underlying,mH,goInt]
  grind
 grind
def JP{x y:AV}{tys:Array TypeId}{ty:TypeId}(h:VE x y K):
  ∃z,K z/\(gt G->∀u v,rep S w x u->rep S w y v->AX P S H w z (Builtin.max_ tys ty #[u,v])):=by
 unfold VE at h;split at h
 ·refine⟨_,h,fun _ u v F E=>?_⟩;simp only[rep]at F E;subst F;subst E;exact⟨_,rC,fun w' _=>by rfl⟩
 grind
def It{x y:AV}{tys:Array TypeId}{ty:TypeId}(h:Wm x y K):
  ∃z,K z/\(gt G->∀u v,rep S w x u->rep S w y v->AX P S H w z (Builtin.min_ tys ty #[u,v])):=by
 unfold Wm at h;split at h
 ·refine⟨_,h,fun _ u v F E=>?_⟩;simp only[rep]at F E;subst F;subst E;exact⟨_,rC,fun w' _=>by rfl⟩
 grind
end
end Go.Aw
end
section
namespace Go.Aw
open Go.RowKit
section
variable{P:Program}{S:Sg}{H:aG}{w:World}{G:Option Bool}{K:AV->Prop}
def iX{z:AV}{e:Sem Value}{v:Value}(E:rep S w z v)(h:∀w',e.run P w'=.ok v w'):AX P S H w z e:=⟨v,E,fun w' _=>h w'⟩
theorem pV{t:TypeId}{c:Nat}(h:xA P t=some c):(c=0/\∃k,P.underlying t=some (.int k))\/(c=1/\P.underlying t=some .string)\/(c=2/\P.underlying t=some .bool):=by grind[xA]
def Xb{t:TypeId}{c:Nat}(h:xA P t=some c)(E:(P.info? t).isSome=true):ldT P t=some none:=by grind[Option.isSome_iff_exists,ldT,pV]
def zI{t:TypeId}{c:Nat}{x y:AV}{u v:Value}{b:Bool}{d:Nat}(J:xA P t=some c)(h:xV c x y=some b)(I:rep S w x u)(F:rep S w y v)(w':World):
  (Op.equalIn (d+1) t u v).run P w'=.ok b w':=by
 unfold xV at h;split at h
 ·split at h
  ·simp only[rep]at I F;subst I F;rename_i E;subst E;simp at h;rcases pV J with⟨_,k',O⟩|⟨h0,_⟩|⟨h0,_⟩
   all_goals grind[run_equalIn_int]
  grind
 all_goals grind[rep,pV,run_equalIn_string,run_equalIn_bool']
def wU:∀(fs:List Field) (l:List Nat) (xs ys:List AV) (o:Nat) (us vs pu pv:List Value) (b:Bool) (d:Nat),
  rY P o fs=some l->kG l xs ys=some b->bO S w xs us->bO S w ys vs->pu.length=o->pv.length=o->∀w':World,
  (Op.eqFields (d+1) (pu++us).toArray (pv++vs).toArray fs).run P w'=.ok b w'
 | [],l,xs,ys,o,us,vs,pu,pv,b,d,E,he,_,_,_,_,w'=>by simp only[rY]at E;injection E with E;subst E;cases xs <;> cases ys <;> simp[kG]at he;simp_all[Op.eqFields]
 | f::fs,l,xs,ys,o,us,vs,pu,pv,b,d,E,he,hx,hy,e1,e2,w'=>by
  simp only[rY]at E;split at E
  ·rename_i hc;simp only[Bool.and_eq_true,bne_iff_ne,ne_eq,beq_iff_eq]at hc;obtain⟨⟨hn,ho⟩,hi⟩:=hc;cases X:xA P f.type with
   | none=>grind
   | some c=>
    cases hr:rY P (o+1) fs with
    | none=>grind
    | some l'=>
     simp[X,hr]at E;subst E;cases xs with
     | nil=>grind[kG]
     | cons x xs=>
      cases ys with
      | nil=>grind[kG]
      | cons y ys=>
       simp only[kG]at he;cases T:xV c x y with
       | none=>grind[Rg]
       | some b1=>
        cases J:kG l' xs ys with
        | none=>grind[Rg]
        | some b2=>
         simp[T,J,Rg]at he;simp only[bO]at hx hy;obtain⟨u,O,rfl,hu,Z⟩:=hx;obtain⟨v,F,rfl,hv,Y⟩:=hy;have I:=Xb X hi;have p1:∀w':World,(part f.type (pu++u::O).toArray f.offset).run P w'=.ok u w':=fun w'=>rJ (w:=w') I (by grind)
         have p2:∀w':World,(part f.type (pv++v::F).toArray f.offset).run P w'=.ok v w':=fun w'=>rJ (w:=w') I (by grind)
         have q:=zI (d:=d) X T hu hv;have ih:=wU fs l' xs ys (o+1) O F (pu++[u]) (pv++[v]) b2 d hr J Z Y (by grind) (by grind) w';simp only[List.append_assoc,List.singleton_append]at ih;simp only[Op.eqFields,hn,ne_eq,not_false_eq_true,if_true,Sem.run_bind,p1,p2,q,Result.andThen_ok,Sem.run_ite];simp_all;grind
  grind
def DX{e:TypeId}{c:Nat}(T:xA P e=some c)(Z:(P.info? e).isSome=true){d:Nat}:∀(m i:Nat) (xs ys:List AV) (us vs pu pv:List Value) (b:Bool),
   kG (List.replicate m c) xs ys=some b->bO S w xs us->bO S w ys vs->pu.length=i->pv.length=i->∀w':World,
   ((forIn (m := Sem) (List.range' i m) ((none, ()) : Option Bool × Unit) (fun i _ => do
         if !(<-Op.equalIn (d+1) e (<-part e (pu++us).toArray (i*1)) (<-part e (pv++vs).toArray (i*1)))then pure (ForInStep.done (some false,()))
         else pure (ForInStep.yield (none,())))).run P w').andThen (fun r w'=>Sem.run P (match r.1 with
       | some x=>pure x
       | none=>pure true:Sem Bool) w')=.ok b w'
 | 0,i,xs,ys,us,vs,pu,pv,b,he,_,_,_,_,w'=>by cases xs <;> cases ys <;> simp[kG]at he;simp_all
 | m+1,i,xs,ys,us,vs,pu,pv,b,he,hx,hy,e1,e2,w'=>by
   rw[List.replicate_succ]at he;cases xs with
   | nil=>grind[kG]
   | cons x xs=>
     cases ys with
     | nil=>grind[kG]
     | cons y ys=>
       simp only[kG]at he;cases O:xV c x y with
       | none=>grind[Rg]
       | some b1=>
         cases I:kG (List.replicate m c) xs ys with
         | none=>grind[Rg]
         | some b2=>
           simp[O,I,Rg]at he;simp only[bO]at hx hy;obtain⟨u,J,rfl,hu,Y⟩:=hx;obtain⟨v,E,rfl,hv,X⟩:=hy;have F:=Xb T Z;have p1:∀w':World,(part e (pu++u::J).toArray (i*1)).run P w'=.ok u w':=fun w'=>rJ (w:=w') F (by grind)
           have p2:∀w':World,(part e (pv++v::E).toArray (i*1)).run P w'=.ok v w':=fun w'=>rJ (w:=w') F (by grind)
           have q:=zI (d:=d) T O hu hv;have ih:=DX T Z (d:=d) m (i+1) xs ys J E (pu++[u]) (pv++[v]) b2 I Y X (by grind) (by grind) w';simp only[List.append_assoc,List.singleton_append]at ih;simp only[List.range'_succ,List.forIn_cons,Sem.run_bind,p1,p2,q,Result.andThen_ok,Sem.run_ite,bind_assoc];simp_all;grind
def Gd{t:TypeId}{l:List Nat}(h:C2 P t=some l){xs E:List AV}{b:Bool}(he:kG l xs E=some b){F vs:List Value}
  (O:bO S w xs F) (Z:bO S w E vs) (d:Nat) (w':World):(Op.equalIn (d+2) t (.agg F.toArray) (.agg vs.toArray)).run P w'=.ok b w':=by
 unfold C2 at h;split at h
 ·rename_i fs Y;split at h
  ·rename_i X;have hf:P.fieldsOf t=fs:=by grind[Program.fieldsOf]
   rw[run_equalIn_struct w' (d+1) t _ _ (by grind) X.1,hf];simpa using wU fs.toList l xs E 0 F vs [] [] b d h he O Z rfl rfl w'
  grind
 ·rename_i n e Y;split at h
  ·rename_i X;cases T:xA P e with
   | none=>grind
   | some c=>
    simp[T]at h;subst h;cases hi:P.info? e with
    | none=>grind
    | some i=>
     have I:i.size=1:=by grind
     have J:=DX (P:=P) (S:=S) (w:=w) T (by grind) (d:=d) n 0 xs E F vs [] [] b he O Z rfl rfl w';simp only[List.nil_append]at J;rw[Op.equalIn];simp only[Sem.run_bind,run_underlying Y,Result.andThen_ok,sizeOf,typeInfo,run_program,hi,Sem.run_pure,I];simp_all;grind
  grind
 grind
def iV(op:BinOp)(t:TypeId)(x y:Operand)(a b:Value)(h1:a≠.nilIface)(E:∀cs,a≠.agg cs)(w':World):(eqGuard op t x y a b).run P w'=.ok () w':=by simp_all[eqGuard]
def Vf{t:TypeId}{l:List Nat}(h:C2 P t=some l):P.eqGuardType P.depth t=false:=by grind[C2]
def VU{op:BinOp}{t:TypeId}{x y:AV}(h:jU P G op t x y K):
   ∃z,K z/\(gt G->∀u v,rep S w x u->rep S w y v->∀I F,AX P S H w z (do eqGuard op t I F u v;binOp op t u v)):=by
 unfold jU at h;split at h
 . rename_i k a k' b;split at h
   . rename_i Z;refine⟨_,h.2,fun Y u v J O I F=>?_⟩;have X:=h.1 Y;simp only[rep]at J O;subst J O;refine iX rC fun w'=>?_
     simp only[Sem.run_bind,iV op t I F (.int k a) (.int k' b) (by simp) (by simp) w',Result.andThen_ok];have ac:¬b<0:=by omega
     cases op <;> simp only[CX,Bool.false_eq_true]at Z <;> simp[binOp,Op.shift,ac,shV]
   split at h
   . rename_i hk;subst hk;have E:∀(z:Value),(∀w',(binOp op t (.int k a) (.int k b)).run P w'=.ok z w')->∀u v,rep S w (.v (.int k a)) u->rep S w (.v (.int k b)) v->∀I F,AX P S H w (.v z) (do eqGuard op t I F u v;binOp op t u v):=by simp_all[rep,iX,iV]
     cases op <;> simp only at h <;> first
       | exact h.elim
       | (refine ⟨_, h, fun _ => E _ (fun w' => ?_)⟩
          first
            | (simp[binOp,Op.intArith,Op.intCmp];done)
            | (simp[binOp];rfl))
       | exact⟨_,h.2,fun Y=>E _ (fun w'=>by simp[binOp,Op.intDiv,h.1 Y])⟩
   grind
 . rename_i a b;have E:∀(z:Value),(∀w',(binOp op t (.string a) (.string b)).run P w'=.ok z w')->∀u v,rep S w (.v (.string a)) u->rep S w (.v (.string b)) v->∀I F,AX P S H w (.v z) (do eqGuard op t I F u v;binOp op t u v):=by simp_all[rep,iX,iV]
   cases op <;> simp only at h <;> first
     | exact h.elim
     | exact⟨_,h,fun _=>E _ (fun w'=>by simp[binOp,Op.stringOp])⟩
     | exact ⟨_, h.2, fun Y => E _ (fun w' => by
         have:=h.1 Y;have h2:¬((a.size+b.size:Nat):Int)>IntKind.i64.max:=by omega
         simp only[binOp,Op.stringOp];simp_all)⟩
 . rename_i a b;split at h
   . rename_i X;have T:=WQ X;cases op <;> simp only at h <;> first
       | exact h.elim
       | (refine ⟨_, h, fun _ u v J O I F => ?_⟩
          simp only[rep]at J O;subst J O;refine iX rC fun w'=>?_
          simp only[Sem.run_bind,iV _ t I F (.bool a) (.bool b) (by simp) (by simp) w',Result.andThen_ok];simp[binOp,run_equal_bool w' t a b T])
   grind
 . rename_i xs ys;split at h
   . rename_i l hl;split at h
     . rename_i b X;cases op <;> simp only at h <;> first
         | exact h.elim
         | (refine ⟨_, h, fun _ u v J O I F => ?_⟩
            simp only[rep]at J O;obtain⟨us,rfl,ab,_⟩:=J;obtain⟨vs,rfl,aa,_⟩:=O;refine iX rC fun w'=>?_
            have q:=Gd hl X ab aa 9998 w';simp only[Sem.run_bind,run_eqGuard_agg _ _ _ _ _ _ _ (Vf hl),Result.andThen_ok]
            first
              | (rw[run_eql_struct,q];rfl)
              | simp_all[run_neq_struct])
     grind
   grind
 . skip
   split at h
   . rename_i b X;split at h
     . rename_i hp;obtain⟨e,T⟩:=acF hp;have hq:∀u,rep S w x u->∃a,u=.pointer a/\a.isNone=b:=by
         intro u J;unfold Vo at X
         grind[rep]
       have he:∀(a:Option Addr) w',(Op.equal t (.pointer a) (.pointer none)).run P w'=.ok a.isNone w':=by intro a w';have e0:Op.equal t (.pointer a) (.pointer none)=Op.equalIn (9999+1) t (.pointer a) (.pointer none):=rfl;rw[e0];unfold Op.equalIn;cases a <;> simp[run_underlying T]
       cases op <;> simp only at h <;> first
         | exact h.elim
         | (refine ⟨_, h, fun _ u v J O I F => ?_⟩
            obtain⟨a,rfl,rfl⟩:=hq u J;simp only[rep]at O;subst O;refine iX rC fun w'=>?_
            simp only[Sem.run_bind,iV _ t I F (.pointer a) (.pointer none) (by simp) (by simp) w',Result.andThen_ok];simp[binOp,he])
     grind
   grind
 grind
end
end Go.Aw
end
