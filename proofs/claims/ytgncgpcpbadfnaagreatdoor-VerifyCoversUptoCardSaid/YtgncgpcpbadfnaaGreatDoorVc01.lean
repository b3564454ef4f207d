import Derived.StillTail
import Derived.WalkKit
import Derived.Deep.Quiet
import Derived.Deep.QuietTactic
import Derived.Maps.AppendAt
import Derived.Laws.BytesArg
set_option linter.unusedSimpArgs false
set_option linter.unusedVariables false
set_option linter.defProp false
set_option maxRecDepth 100000
namespace Go.Aw
open Go.RowKit
inductive AV where
 | v (x:Value)
 | any
 | sl (es:List (List AV))
 | rp (cs:List AV) (off:Nat)
 | agg (cs:List AV)
 | tup (vs:List AV)
 | os (k:Nat)
 | op (k i f:Nat)
 | gd (g:Bool) (x:AV)
 | fn (f:FuncId) (cap:List AV)
 | oz (k a b:Nat)
 | nf (x:AV)
 | om (k:Nat)
 | cl (es:List (List AV))
 deriving Inhabited
structure Row where
 e:TypeId
 sz:Nat
 es:List (List AV)
abbrev Env:=Nat->AV
abbrev aH:=Nat->Option Row
inductive Ex where
 | normal
 | exit (id:Nat)
 | ret
def upd(ρ:Env)(d:Option Nat)(x:AV):Env:=
 match d with
 | some d=>fun t=>if t=d then x else ρ t
 | none=>ρ
def aI(H:aH)(k:Nat)(r:Option Row):aH:=fun j=>if j=k then r else H j
def aiB(ρ:Env)(d:Nat)(x:AV)(t:Nat):upd ρ (some d) x t=if t=d then x else ρ t:=rfl
def Z5(ρ:Env)(x:AV):upd ρ none x=ρ:=rfl
def aB(H:aH)(k:Nat)(r:Option Row):aI H k r k=r:=by simp[aI]
def aD(H:aH)(k:Nat)(r:Option Row)(j:Nat)(h:j≠k):aI H k r j=H j:=by simp[aI,h]
def ldT(P:Program)(t:TypeId):Option (Option Nat):=
 match P.underlying t,P.info? t with
 | some (.struct _),some i=>some (some i.size)
 | some (.array _ _),some i=>some (some i.size)
 | some _,some _=>some none
 | _,_=>none
def aK(P:Program)(t:TypeId)(f:Nat):Option (Nat×Option Nat):=
 match P.underlying t with
 | some (.struct fs)=>match fs[f]? with
   | some fd=>match P.info? fd.type with
     | some i=>if i.size=0 then none else(ldT P fd.type).map fun l=>(fd.offset,l)
     | none=>none
   | none=>none
 | _=>none
def bT(P:Program)(t:TypeId):Option (TypeId×Nat×Nat):=
 match P.underlying t with
 | some (.slice e)=>match P.info? e with
   | some i=>if i.size=0\/i.bytes=0\/i.zero.map (·.cells.size)≠some i.size then none else some (e,i.size,i.bytes)
   | none=>none
 | _=>none
def Bc(P:Program)(t:TypeId):Option (Nat×Nat×Option Nat):=
 match P.underlying t with
 | some (.array n e)=>match P.info? e with
   | some i=>if i.size=0 then none else(ldT P e).map fun l=>(n,i.size,l)
   | none=>none
 | _=>none
def pQ:Value->AV
 | .slice none 0 0=>.sl []
 | x=>.v x
def cV(P:Program)(t:TypeId):Option (List AV):=
 match P.info? t with
 | some i=>match i.zero with
   | some z=>if z.cells.size=i.size/\i.size≠0/\z.cells.toList.all (·.oneCell')=true then some (z.cells.toList.map pQ)else none
   | none=>none
 | none=>none
def JS(P:Program):Nat->TypeId->Nat->List (Nat×TypeId×Nat)
 | 0,_,_=>[]
 | n+1,t,o=>match P.underlying t with
   | some (.slice _)=>match bT P t with
     | some (e,sz,_)=>[(o,e,sz)]
     | none=>[]
   | some (.struct fs)=>fs.toList.flatMap fun f=>JS P n f.type (o+f.offset)
   | some (.array m e)=>(List.range m).flatMap fun j=>JS P n e (o+j*((P.info? e).map (·.size)).getD 0)
   | _=>[]
def WW:Option Value->Bool
 | some (.slice none 0 0)=>true
 | _=>false
def qI(P:Program)(t:TypeId):Option (List (Nat×TypeId×Nat)):=
 match P.info? t with
 | some i=>match i.zero with
   | some z=>if(JS P 8 t 0).all (fun x=>WW z.cells.toList[x.1]?&&decide (0<x.2.2))=true then some (JS P 8 t 0)else none
   | none=>none
 | none=>none
def dB(P:Program)(t:TypeId):Option (List (Nat×Nat)):=
 match P.underlying t with
 | some (.struct fs)=>fs.toList.mapM fun f=>(P.info? f.type).map fun i=>(f.offset,i.size)
 | some (.array n e)=>(P.info? e).map fun i=>(List.range n).map fun j=>(j*i.size,i.size)
 | _=>none
def dN(P:Program)(t:TypeId):Bool:=match P.underlying t with|some .string=>true|_=>false
def cA(P:Program)(t:TypeId):Bool:=match P.underlying t with|some (.slice _)=>true|_=>false
def AA(P:Program)(t:TypeId):Bool:=match P.underlying t with|some .bool=>true|_=>false
def QN(P:Program)(t:TypeId):Bool:=match P.underlying t with|some (.pointer _)=>true|_=>false
def PS:AV->Option Bool
 | .v (.pointer none)=>some true
 | .rp ..=>some false
 | .op ..=>some false
 | _=>none
def aev(ρ:Env):Operand->AV
 | .tmp t=>ρ t
 | .const v=>pQ v
 | .global _=>.any
 | .func f=>.v (.func (.func f) #[] #[])
def Ls(ρ:Env):Operand->AV
 | .const v=>.v v
 | x=>aev ρ x
def gt:Option Bool->Prop
 | none=>True
 | some b=>b=true
def gok:Option Bool->Bool->Prop
 | none,g=>g=true
 | some b,g=>b=true->g=true
def wr:Option Bool->AV->AV
 | none,x=>x
 | some b,x=>.gd b x
def bR(G:Option Bool)(x:AV)(k:AV->Prop):Prop:=
 match x with
 | .gd g y=>gok G g/\k y
 | x=>k x
def mB(x:AV)(K:List AV->Prop):Prop:=
 match x with
 | .agg cs=>K cs
 | .v y=>y.oneCell'=true/\K [.v y]
 | .sl es=>K [.sl es]
 | .rp cs o=>K [.rp cs o]
 | .os k=>K [.os k]
 | .op k i f=>K [.op k i f]
 | _=>False
def tC(P:Program)(t:TypeId):Option Nat:=match P.underlying t with|some (.int _)=>some 0|some .string=>some 1|some .bool=>some 2|_=>none
def uI(c:Nat)(x y:AV):Option Bool:=
 match c,x,y with
 | 0,.v (.int k a),.v (.int k' b)=>if k=k' then some (a == b)else none
 | 1,.v (.string a),.v (.string b)=>some (a.toList == b.toList)
 | 2,.v (.bool a),.v (.bool b)=>some (a == b)
 | _,_,_=>none
def Nm:Option Bool->Option Bool->Option Bool
 | some a,some b=>some (a&&b)
 | _,_=>none
def iF:List Nat->List AV->List AV->Option Bool
 | [],[],[]=>some true
 | c::l,x::r,y::s=>Nm (uI c x y) (iF l r s)
 | _,_,_=>none
def oP(P:Program):Nat->List Field->Option (List Nat)
 | _,[]=>some []
 | o,f::r=>if f.name != "_" && f.offset == o&&(P.info? f.type).isSome then match tC P f.type,oP P (o+1) r with
   | some c,some l=>some (c::l)
   | _,_=>none
   else none
def AO(P:Program)(t:TypeId):Option (List Nat):=
 match P.underlying t with
 | some (.struct fs)=>if P.stoodInHeld t=false/\P.eqGuardType P.depth t=false then oP P 0 fs.toList else none
 | some (.array n e)=>if(P.info? e).map (·.size)=some 1/\P.eqGuardType P.depth t=false then(tC P e).map (List.replicate n)else none
 | _=>none
def xV:BinOp->Bool
 | .shl=>true
 | .shr=>true
 | _=>false
def shV(op:BinOp)(k:IntKind)(a b:Int):Int:=match op with
 | .shl=>k.wrap (a*2^min b.toNat k.bits)
 | _=>a.fdiv (2^min b.toNat k.bits)
def pP(op:BinOp)(k:IntKind)(a b:Int):Int:=match op with
 | .and=>k.wrap ((BitVec.ofInt k.bits a &&& BitVec.ofInt k.bits b).toNat:Nat)
 | .or=>k.wrap ((BitVec.ofInt k.bits a ||| BitVec.ofInt k.bits b).toNat:Nat)
 | .xor=>k.wrap ((BitVec.ofInt k.bits a ^^^ BitVec.ofInt k.bits b).toNat:Nat)
 | _=>k.wrap ((BitVec.ofInt k.bits a &&& ~~~(BitVec.ofInt k.bits b)).toNat:Nat)
def gZ(P:Program)(G:Option Bool)(op:BinOp)(t:TypeId)(x y:AV)(K:AV->Prop):Prop:=
 match x,y with
 | .v (.int k a),.v (.int k' b)=>
   if xV op=true then(gt G->0<=b)/\K (.v (.int k (shV op k a b)))
   else if k=k' then
     match op with
     | .and=>K (.v (.int k (pP .and k a b)))
     | .or=>K (.v (.int k (pP .or k a b)))
     | .xor=>K (.v (.int k (pP .xor k a b)))
     | .andNot=>K (.v (.int k (pP .andNot k a b)))
     | .add=>K (.v (.int k (k.wrap (a+b))))
     | .sub=>K (.v (.int k (k.wrap (a-b))))
     | .mul=>K (.v (.int k (k.wrap (a*b))))
     | .quo=>(gt G->b≠0)/\K (.v (.int k (k.wrap (a.tdiv b))))
     | .rem=>(gt G->b≠0)/\K (.v (.int k (a.tmod b)))
     | .eql=>K (.v (.bool (a == b)))
     | .neq=>K (.v (.bool (a != b)))
     | .lss=>K (.v (.bool (decide (a<b))))
     | .leq=>K (.v (.bool (decide (a<=b))))
     | .gtr=>K (.v (.bool (decide (a>b))))
     | .geq=>K (.v (.bool (decide (a>=b))))
     | _=>False
   else False
 | .v (.string a),.v (.string b)=>
   match op with
   | .add=>(gt G->((a.size+b.size:Nat):Int)<=IntKind.i64.max)/\K (.v (.string (a++b)))
   | .eql=>K (.v (.bool (a.toList == b.toList)))
   | .neq=>K (.v (.bool !(a.toList == b.toList)))
   | .lss=>K (.v (.bool (Op.bytesLess a.toList b.toList)))
   | _=>False
 | .v (.bool a),.v (.bool b)=>
   if AA P t then
     match op with
     | .eql=>K (.v (.bool (a == b)))
     | .neq=>K (.v (.bool !(a == b)))
     | _=>False
   else False
 | .agg xs,.agg ys=>match AO P t with
   | some l=>match iF l xs ys with
     | some b=>match op with
       | .eql=>K (.v (.bool b))
       | .neq=>K (.v (.bool !b))
       | _=>False
     | none=>False
   | none=>False
 | x,.v (.pointer none)=>match PS x with
   | some b => if QN P t then
       match op with
       | .eql=>K (.v (.bool b))
       | .neq=>K (.v (.bool !b))
       | _=>False
     else False
   | none=>(gt G->False)/\K .any
 | _,_=>(gt G->False)/\K .any
def Rq(P:Program)(t:TypeId):Option (TypeId×TypeId):=match P.underlying t with|some (.map k e)=>some (k,e)|_=>none
def Is(P:Program)(t:TypeId):Option AV:=
 match P.info? t with
 | some i=>match i.zero with
   | some (.agg cs)=>if cs.toList.all (·.oneCell')=true then some (.agg (cs.toList.map pQ))else none
   | some v=>if v.oneCell'=true then some (pQ v)else none
   | none=>none
 | none=>none
def pL(P:Program)(kt:TypeId)(x y:AV):Option Bool:=
 match x,y with
 | .v a,.v b=>match tC P kt with
   | some c=>uI c (.v a) (.v b)
   | none=>none
 | _,_=>none
def mF(P:Program)(kt:TypeId):AV->Bool
 | .v (.int _ _)=>tC P kt == some 0
 | .v (.string _)=>tC P kt == some 1
 | .v (.bool _)=>tC P kt == some 2
 | _=>false
def tA(eq:AV->Option Bool):List (List AV)->Nat->Option (Option Nat)
 | [],_=>some none
 | e::r,i=>match eq (e.getD 0 .any)with
   | some true=>some (some i)
   | some false=>tA eq r (i+1)
   | none=>none
def Fv(ok:Bool)(z:AV)(es:List (List AV))(oi:Option Nat):AV:=
 match oi with
 | some i=>if ok=true then .tup [(es.getD i []).getD 1 .any,.v (.bool true)]else(es.getD i []).getD 1 .any
 | none=>if ok=true then .tup [z,.v (.bool false)]else z
def V5(es:List (List AV))(oi:Option Nat)(k v:AV):List (List AV):=
 match oi with
 | some i=>es.set i [k,v]
 | none=>es++[[k,v]]
def DR(P:Program)(H:aH)(t:TypeId)(x key:AV)(K:Nat->Row->TypeId×TypeId->Option Nat->Prop):Prop:=
 match x with
 | .om j=>match H j,Rq P t with
   | some r,some kt=>match tA (pL P kt.1 key) r.es 0 with
     | some oi=>mF P kt.1 key=true/\K j r kt oi
     | none=>False
   | _,_=>False
 | _=>False
def tF(P:Program)(H:aH)(t:TypeId)(x key:AV)(ok:Bool)(K:AV->Prop):Prop:=
 DR P H t x key fun _ r kt oi=>match Is P kt.2 with
   | some z=>K (Fv ok z r.es oi)
   | none=>False
def xO(c:Bool):AV->AV->AV
 | .v (.bool true),.v (.bool b)=>.v (.bool (c||b))
 | .v (.bool a),.v (.bool false)=>.v (.bool (c&&a))
 | .v (.bool a),.v (.bool b)=>.v (.bool (bif c then a else b))
 | x,y=>bif c then x else y
def AI(G:Option Bool)(c:Bool)(x y:AV)(K:AV->Prop):Prop:=
 match x,y with
 | .gd g x,.gd g' y=>(gt G->c=true->g=true)/\(gt G->c=false->g'=true)/\K (xO c x y)
 | .gd g x,y=>(gt G->c=true->g=true)/\K (xO c x y)
 | x,.gd g' y=>(gt G->c=false->g'=true)/\K (xO c x y)
 | x,y=>K (xO c x y)
def nG(G:Option Bool)(H:aH)(l:Option Nat)(x:AV)(K:AV->Prop):Prop:=
 match x with
 | .rp cs off=>match l with
   | none=>(gt G->off<cs.length)/\K (cs.getD off .any)
   | some n=>(gt G->off+n<=cs.length)/\K (.agg ((cs.drop off).take n))
 | .op k i f=>match H k with
   | some r=>match l with
     | none=>(gt G->i<r.es.length/\f<r.sz)/\K ((r.es.getD i []).getD f .any)
     | some n=>(gt G->i<r.es.length/\f+n<=r.sz)/\K (.agg (((r.es.getD i []).drop f).take n))
   | none=>False
 | _=>False
def apart(G:Option Bool)(off:Nat)(l:Option Nat)(x:AV)(K:AV->Prop):Prop:=
 match x with
 | .agg cs=>match l with
   | none=>(gt G->off<cs.length)/\K (cs.getD off .any)
   | some n=>(gt G->off+n<=cs.length)/\K (.agg ((cs.drop off).take n))
 | _=>False
def GG(P:Program)(H:aH)(t:TypeId)(x:AV)(K:AV->Prop):Prop:=
 match x with
 | .sl es=>if cA P t then K (.v (.int .i64 es.length))else False
 | .os k=>match H k with
   | some r=>if cA P t then K (.v (.int .i64 r.es.length))else False
   | none=>False
 | .oz _ a b=>if cA P t then K (.v (.int .i64 (b-a:Nat)))else False
 | .v (.string s)=>if dN P t then K (.v (.int .i64 s.size))else False
 | _=>False
def lC(a b:Int):Int:=if b>a then b else a
def adU(a b:Int):Int:=if b<a then b else a
def Pd(x y:AV)(K:AV->Prop):Prop:=
 match x,y with
 | .v (.int k a),.v (.int _ b)=>K (.v (.int k (lC a b)))
 | _,_=>False
def QA(x y:AV)(K:AV->Prop):Prop:=
 match x,y with
 | .v (.int k a),.v (.int _ b)=>K (.v (.int k (adU a b)))
 | _,_=>False
def dZ(P:Program)(G:Option Bool)(H:aH)(t:TypeId)(x i:AV)(K:AV->Prop):Prop:=
 match x,i with
 | .sl es,.v (.int _ n)=>match bT P t with
   | some (_,sz,_)=>(gt G->(0<=n/\n<es.length)/\(es.getD n.toNat []).length=sz)/\K (.rp (es.getD n.toNat []) 0)
   | none=>False
 | .os k,.v (.int _ n)=>match H k,bT P t with
   | some r,some (_,sz,_)=>(gt G->(0<=n/\n<r.es.length)/\r.sz=sz)/\K (.op k n.toNat 0)
   | _,_=>False
 | .oz k a b,.v (.int _ n)=>match H k,bT P t with
   | some r,some (_,sz,_)=>(gt G->(0<=n/\n<(b-a:Nat))/\r.sz=sz)/\K (.op k (a+n.toNat) 0)
   | _,_=>False
 | .rp cs off,.v (.int _ n)=>match Bc P t with
   | some (m,s,_)=>(gt G->0<=n/\n<m)/\K (.rp cs (off+n.toNat*s))
   | none=>False
 | .op k j f,.v (.int _ n)=>match Bc P t with
   | some (m,s,_)=>(gt G->0<=n/\n<m)/\K (.op k j (f+n.toNat*s))
   | none=>False
 | _,_=>False
def iQ(P:Program)(t:TypeId)(f:Nat)(x:AV)(K:AV->Prop):Prop:=
 match x with
 | .rp cs off=>match aK P t f with
   | some (o,_)=>K (.rp cs (off+o))
   | none=>False
 | .op k i g=>match aK P t f with
   | some (o,_)=>K (.op k i (g+o))
   | none=>False
 | _=>False
def qC(places:List (Nat×Nat)):List AV->List (Nat×List AV)->Option (List AV)
 | cs,[]=>some cs
 | cs,(i,x)::rest=>match places[i]? with
   | some (off,n)=>if x.length=n/\off+n<=cs.length then qC places (cs.take off++x++cs.drop (off+n)) rest else none
   | none=>none
def pA(G:Option Bool)(ρ:Env):List (Nat×Operand)->(List (Nat×List AV)->Prop)->Prop
 | [],K=>K []
 | (i,x)::rest,K=>bR G (aev ρ x) fun y=>mB y fun cs=>pA G ρ rest fun l=>K ((i,cs)::l)
def AM(G:Option Bool)(ρ:Env):List Operand->(List AV->Prop)->Prop
 | [],K=>K []
 | x::rest,K=>bR G (aev ρ x) fun y=>AM G ρ rest fun l=>K (y::l)
def wC(P:Program)(t:TypeId)(parts:List (Nat×List AV))(K:AV->Prop):Prop:=
 match cV P t,dB P t with
 | some z,some pl=>match qC pl z parts with
   | some cs=>K (.agg cs)
   | none=>False
 | _,_=>False
def JY:Nat->Nat->List Nat
 | _,0=>[]
 | i,n+1=>i::JY (i+1) n
def cH(n:Nat):List (List AV)->Prop
 | []=>True
 | cs::r=>cs.length=n/\cH n r
def lY(P:Program)(G:Option Bool)(t:TypeId)(x:AV)(lo hi:Option AV)(K:AV->Prop):Prop:=
 match x,lo,hi with
 | .sl es,some (.v (.int _ a)),some (.v (.int _ b))=>match bT P t with
   | some (_,sz,_)=>(gt G->(0<=a/\a<=b/\b<=es.length)/\cH sz es)/\K (.sl ((es.take b.toNat).drop a.toNat))
   | none=>False
 | .sl es,some (.v (.int _ a)),none=>match bT P t with
   | some (_,sz,_)=>(gt G->(0<=a/\a<=es.length)/\cH sz es)/\K (.sl (es.drop a.toNat))
   | none=>False
 | .sl es,none,some (.v (.int _ b))=>match bT P t with
   | some _=>(gt G->0<=b/\b<=es.length)/\K (.sl (es.take b.toNat))
   | none=>False
 | .v (.string s),some (.v (.int _ a)),some (.v (.int _ b))=>
   if dN P t then(gt G->0<=a/\a<=b/\b<=s.size)/\K (.v (.string (s.extract a.toNat b.toNat)))else False
 | .v (.string s),some (.v (.int _ a)),none=>
   if dN P t then(gt G->0<=a/\a<=s.size)/\K (.v (.string (s.extract a.toNat s.size)))else False
 | .v (.string s),none,some (.v (.int _ b))=>
   if dN P t then(gt G->0<=b/\b<=s.size)/\K (.v (.string (s.extract 0 b.toNat)))else False
 | _,_,_=>False
def asl(P:Program)(G:Option Bool)(H:aH)(t:TypeId)(x:AV)(lo hi:Option AV)(K:AV->Prop):Prop:=
 match x with
 | .os k=>match H k,bT P t with
   | some r,some (_,sz,_)=>match lo,hi with
     | some (.v (.int _ a)),some (.v (.int _ b))=>(gt G->(0<=a/\a<=b/\b<=r.es.length)/\r.sz=sz)/\K (.oz k a.toNat b.toNat)
     | some (.v (.int _ a)),none=>(gt G->(0<=a/\a<=r.es.length)/\r.sz=sz)/\K (.oz k a.toNat r.es.length)
     | none,some (.v (.int _ b))=>(gt G->(0<=b/\b<=r.es.length)/\r.sz=sz)/\K (.oz k 0 b.toNat)
     | _,_=>False
   | _,_=>False
 | .oz k a b=>match H k,bT P t with
   | some r,some (_,sz,_)=>match lo,hi with
     | some (.v (.int _ l)),none=>(gt G->(0<=l/\l<=(b-a:Nat))/\r.sz=sz)/\K (.oz k (a+l.toNat) b)
     | _,_=>False
   | _,_=>False
 | x=>lY P G t x lo hi K
def Eg(P:Program)(G:Option Bool)(t:TypeId)(x a b:AV)(K:AV->Prop):Prop:=
 match x,a,b with
 | .sl es,.v (.int _ a),.v (.int _ b)=>match bT P t with
   | some _=>(gt G->a=es.length/\b=es.length)/\K (.cl es)
   | none=>False
 | _,_,_=>False
def xD(P:Program)(G:Option Bool)(t:TypeId)(x i:AV)(K:AV->Prop):Prop:=
 match x,i with
 | .v (.string s),.v (.int _ n)=>
   if dN P t then(gt G->0<=n/\n<s.size)/\K (.v (.int .u8 ((s.data.getD n.toNat 0).toNat:Int)))else False
 | .agg cs,.v (.int _ n)=>match Bc P t with
   | some (m,s,l)=>(gt G->0<=n/\n<m)/\apart G (n.toNat*s) l (.agg cs) K
   | none=>False
 | _,_=>False
def aun(op:UnOp)(x:AV)(K:AV->Prop):Prop:=
 match op,x with
 | .not,.v (.bool b)=>K (.v (.bool !b))
 | .neg,.v (.int k n)=>K (.v (.int k (k.wrap (0-n))))
 | _,_=>False
def uH:List (List AV)->Option (List Int)
 | []=>some []
 | [.v (.int .u8 n)]::r=>(uH r).map (n::·)
 | _=>none
def CP(P:Program)(t:TypeId):Bool:=
 match P.underlying t with
 | some (.slice e)=>match P.underlying e with
   | some (.int .u8)=>true
   | _=>false
 | _=>false
def Fq(P:Program)(t:TypeId):Option IntKind:=match P.underlying t with|some (.int k)=>some k|_=>none
def xL(P:Program)(src dst:TypeId)(x:AV)(K:AV->Prop):Prop:=
 match x with
 | .v (.int _ n)=>match Fq P dst,Fq P src with
   | some k,some _=>K (.v (.int k (k.wrap n)))
   | _,_=>False
 | .v (.string s)=>if dN P src/\dN P dst then K (.v (.string s))else False
 | .sl es => if CP P src /\ dN P dst then
     match uH es with
     | some ns=>K (.v (.string (strOfNums ns)))
     | none=>False
   else False
 | _=>False
def sF:Operand->Bool
 | .const (.slice none 0 0)=>true
 | _=>false
def pX(op:BinOp)(x:AV)(K:AV->Prop):Prop:=
 match op,x with
 | .eql,.sl es=>(es=[]->K (.v (.bool true)))/\K (.v (.bool false))
 | .neq,.sl es=>(es=[]->K (.v (.bool false)))/\K (.v (.bool true))
 | .eql,.os _=>K (.v (.bool true))/\K (.v (.bool false))
 | .neq,.os _=>K (.v (.bool false))/\K (.v (.bool true))
 | .eql,.v (.slice none 0 0)=>K (.v (.bool true))
 | .neq,.v (.slice none 0 0)=>K (.v (.bool false))
 | _,_=>False
def gP(P:Program)(G:Option Bool)(ρ:Env)(H:aH)(op:Op)(K:AV->Prop):Prop:=
 match op with
 | .move x| .assign x=>bR G (aev ρ x) K
 | .pick c a b=>bR G (aev ρ c) fun
   | .v (.bool c)=>AI G c (aev ρ a) (aev ρ b) K
   | _=>False
 | .build t parts=>pA G ρ parts.toList fun l=>wC P t l K
 | .load t a=>match ldT P t with
   | some l=>bR G (aev ρ a) fun a=>nG G H l a K
   | none=>False
 | .nilCheck x=>bR G (aev ρ x) fun
   | .rp cs off=>K (.rp cs off)
   | .op k i f=>K (.op k i f)
   | .v (.pointer none)=>(gt G->False)/\∃cs off,K (.rp cs off)
   | _=>False
 | .binOp op t x y _=>if sF y=true then bR G (aev ρ x) fun x=>cA P t=true/\pX op x K else bR G (aev ρ x) fun x=>bR G (aev ρ y) fun y=>gZ P G op t x y K
 | .unOp op _ x=>bR G (aev ρ x) fun x=>aun op x K
 | .convert src dst x=>bR G (aev ρ x) fun x=>xL P src dst x K
 | .slice t x lo hi none=>bR G (aev ρ x) fun x=>match lo,hi with
   | some lo,some hi=>bR G (aev ρ lo) fun lo=>bR G (aev ρ hi) fun hi=>asl P G H t x (some lo) (some hi) K
   | some lo,none=>bR G (aev ρ lo) fun lo=>asl P G H t x (some lo) none K
   | none,some hi=>bR G (aev ρ hi) fun hi=>asl P G H t x none (some hi) K
   | none,none=>False
 | .slice t x none (some hi) (some m)=>bR G (aev ρ x) fun x=>bR G (aev ρ hi) fun hi=>bR G (aev ρ m) fun m=>Eg P G t x hi m K
 | .fieldAddr t x f=>bR G (aev ρ x) fun x=>iQ P t f x K
 | .field t x f=>match aK P t f with
   | some (o,l)=>bR G (aev ρ x) fun x=>apart G o l x K
   | none=>False
 | .indexAddr t x i=>bR G (aev ρ x) fun x=>bR G (aev ρ i) fun i=>dZ P G H t x i K
 | .index t x i=>bR G (aev ρ x) fun x=>bR G (aev ρ i) fun i=>xD P G t x i K
 | .extract x i=>bR G (aev ρ x) fun
   | .tup vs=>(gt G->i<vs.length)/\K (vs.getD i .any)
   | _=>False
 | .lookup t x i ok=>bR G (aev ρ x) fun x=>bR G (aev ρ i) fun i=>tF P H t x i ok K
 | .makeFunc f first cap=>match f with
   | .func f=>first=#[]/\AM G ρ cap.toList fun l=>K (.fn f l)
   | _=>False
 | _=>False
def cG(ops:Array Oper)(ρ:Env)(g:Option (Nat×Bool))(K:Option Bool->Prop):Prop:=
 match g with
 | none=>K none
 | some (j,want)=>match (ops[j]?).bind (·.dst)with
   | some t=>match ρ t with
     | .v (.bool b)=>K (some (b == want))
     | .gd g (.v (.bool b))=>K (some (g&&(b == want)))
     | _=>False
   | none=>False
def qV(mt:Nat->Bool):Option Nat->Bool
 | some d=>mt d
 | none=>false
def oA(H:aH)(r:Row)(K:Nat->aH->Prop):Prop:=∀k,H k=none->K k (aI H k (some r))
def lV(cs:List AV)(f:Nat)(xs:List AV):List AV:=cs.take f++xs++cs.drop (f+xs.length)
def jC:List (Nat×TypeId×Nat)->List AV->aH->(List AV->aH->Prop)->Prop
 | [],cs,H,K=>K cs H
 | x::r,cs,H,K=>oA H ⟨x.2.1,x.2.2,[]⟩ fun k H'=>jC r (cs.set x.1 (.os k)) H' K
def B5(P:Program)(mt:Nat->Bool)(quiet:Bool)(G:Option Bool)(o:Oper)(x:Operand)(ρ:Env)(H:aH)(K:Env->aH->Prop):Prop:=
 if qV mt o.dst=true/\G=none/\quiet=false/\sF x=true then
   match bT P o.type with
   | some (e,sz,_)=>oA H ⟨e,sz,[]⟩ fun k H'=>K (upd ρ o.dst (.os k)) H'
   | none=>False
 else bR G (aev ρ x) fun y=>K (upd ρ o.dst (wr G y)) H
def acO(mt:Nat->Bool)(o:Oper)(t:TypeId)(cs:List AV)(ρ:Env)(H:aH)(K:Env->aH->Prop):Prop:=
 if qV mt o.dst=true then
   0<cs.length/\oA H ⟨t,cs.length,[cs]⟩ fun k H'=>K (upd ρ o.dst (.op k 0 0)) H'
 else K (upd ρ o.dst (.rp cs 0)) H
def nA(P:Program)(mt:Nat->Bool)(G:Option Bool)(o:Oper)(t:TypeId)(n:Nat)(parts:List (Nat×List AV))(ρ:Env)(H:aH)(K:Env->aH->Prop):Prop:=
 match bT P t with
 | some (e,sz,_)=>
   (parts.map (·.1)=JY 0 n/\cH sz (parts.map (·.2))/\n*sz<=16777216) /\
   (if qV mt o.dst=true/\G=none then oA H ⟨e,sz,parts.map (·.2)⟩ fun k H'=>K (upd ρ o.dst (.os k)) H'
    else K (upd ρ o.dst (wr G (.sl (parts.map (·.2))))) H)
 | none=>False
def yA(P:Program)(o:Oper)(t:TypeId)(a:AV)(cs:List AV)(ρ:Env)(H:aH)(K:Env->aH->Prop):Prop:=
 match a with
 | .op k i f=>match H k,ldT P t with
   | some r, some l => (i < r.es.length /\ cs.length = l.getD 1 /\ f + cs.length <= r.sz /\ (l = none -> ∃ i, P.info? t = some i /\ i.size = 1)) /\
       K (upd ρ o.dst .any) (aI H k (some { r with es:=r.es.set i (lV (r.es.getD i []) f cs) }))
   | _,_=>False
 | _=>False
def sR(P:Program)(o:Oper)(t:TypeId)(a:AV)(cs:List AV)(ρ:Env)(H:aH)(K:Env->aH->Prop):Prop:=
 yA P o t a cs ρ H K\/((ldT P t).isSome=true/\∃nl:List (Nat×TypeId×Nat),(∀x∈nl,cs[x.1]?=some (.v (.slice none 0 0))/\0<x.2.2)/\jC nl cs H fun cs H=>yA P o t a cs ρ H K)
def Al(x:Operand)(ρ:Env)(d:Option Nat)(H:aH)(K:Env->aH->Prop):Prop:=
 match x with
 | .tmp t=>match ρ t with
   | .os j=>match H j with
     | some r=>∀Hr:aH,Hr j=none->(∀k,k≠j->Hr k=H k)->K (upd (upd ρ (some t) (.sl r.es)) d (.sl r.es)) Hr
     | none=>False
   | _=>False
 | _=>False
def IW{t j:Nat}{r:Row}{ρ:Env}{d:Option Nat}{H:aH}{K:Env->aH->Prop}(F:ρ t=.os j)(E:H j=some r)(h:∀A:aH,A j=none->(∀k,k≠j->A k=H k)->K (upd (upd ρ (some t) (.sl r.es)) d (.sl r.es)) A):Al (.tmp t) ρ d H K:=by unfold Al;simp only[F,E];exact h
def Jt(l:List Nat)(H:aH):List AV->List AV->Prop
 | [],[]=>True
 | x::xs,y::ys=>(x=y\/∃j r,j∈l/\x=.os j/\H j=some r/\y=.sl r.es)/\Jt l H xs ys
 | _,_=>False
def JC(x:AV)(ρ:Env)(d:Option Nat)(H:aH)(K:Env->aH->Prop):Prop:=
 match x with
 | .agg cs=>∃(l:List Nat) (ys:List AV),Jt l H cs ys/\∀Hr:aH,(∀k,k∈l->Hr k=none)->(∀k,¬k∈l->Hr k=H k)->K (upd ρ d (.agg ys)) Hr
 | _=>False
def rV(H:aH)(x:AV)(K:List (List AV)->Prop):Prop:=
 match x with
 | .sl es=>K es
 | .os k=>match H k with
   | some r=>K r.es
   | none=>False
 | .oz k a b=>match H k with
   | some r=>K ((r.es.take b).drop a)
   | none=>False
 | _=>False
def Qz(H:aH)(x:AV)(K:Nat->Nat->Nat->Row->Prop):Prop:=
 match x with
 | .os k=>match H k with
   | some r=>K k 0 r.es.length r
   | none=>False
 | .oz k a b=>match H k with
   | some r=>K k a (b-a) r
   | none=>False
 | _=>False
def SA(P:Program)(o:Oper)(t:TypeId)(x y:AV)(ρ:Env)(H:aH)(K:Env->aH->Prop):Prop:=
 Qz H x fun k a n r=>rV H y fun news=>match bT P t with
   | some (_,sz,_)=>(r.sz=sz/\cH sz news)/\K (upd ρ o.dst (.v (.int .i64 (min news.length n:Nat)))) (aI H k (some { r with es:=r.es.take a++news.take (min news.length n)++r.es.drop (a+min news.length n) }))
   | none=>False
def Pt(P:Program)(o:Oper)(t:TypeId)(x:AV)(ρ:Env)(H:aH)(K:Env->aH->Prop):Prop:=
 Qz H x fun k a n r=>match bT P t with
   | some (e,sz,_)=>match cV P e with
     | some zs=>r.sz=sz/\K (upd ρ o.dst .any) (aI H k (some { r with es:=r.es.take a++List.replicate n zs++r.es.drop (a+n) }))
     | none=>False
   | none=>False
def qK(P:Program)(o:Oper)(t:TypeId)(s x:AV)(ρ:Env)(H:aH)(K:Env->aH->Prop):Prop:=
 match s,bT P t with
 | .os k,some (e,sz,bytes)=>match H k with
   | some r => rV H x fun news =>
       (r.e=e/\r.sz=sz/\cH sz news/\(r.es.length+news.length)*bytes<=140737488355328) /\
       ∀k',H k'=none->K (upd ρ o.dst (.os k')) (aI (aI H k none) k' (some ⟨e,sz,r.es++news⟩))
   | none=>False
 | .cl es, some (e, sz, bytes) => rV H x fun news =>
     (news≠[]/\cH sz es/\cH sz news/\(es.length+news.length)*bytes<=140737488355328) /\
     ∀k',H k'=none->K (upd ρ o.dst (.os k')) (aI H k' (some ⟨e,sz,es++news⟩))
 | .oz k a b,some (e,sz,bytes)=>match H k with
   | some r => rV H x fun news =>
       (r.e=e/\r.sz=sz/\news≠[]/\cH sz news/\b=r.es.length/\(r.es.length+news.length)*bytes<=140737488355328) /\
       ∀(k':Nat) (pre:List (List AV)),pre.length<=a->H k'=none->K (upd ρ o.dst (.oz k' pre.length (pre.length+(b-a)+news.length))) (aI (aI H k none) k' (some ⟨e,sz,pre++(r.es.drop a++news)⟩))
   | none=>False
 | .v (.slice none 0 0), some (e, sz, bytes) => rV H x fun news =>
     (news=[]/\K (upd ρ o.dst (.v (.slice none 0 0))) H) \/
     (news≠[]/\cH sz ([]:List (List AV))/\cH sz news/\(([]:List (List AV)).length+news.length)*bytes<=140737488355328) /\
     ∀k',H k'=none->K (upd ρ o.dst (.os k')) (aI H k' (some ⟨e,sz,[]++news⟩))
 | .sl es,some _=>rV H x fun news=>news=[]/\K (upd ρ o.dst (.sl es)) H
 | _,_=>False
def IU:List (Nat×TypeId×Nat)->List AV->List AV
 | [],z=>z
 | x::r,z=>IU r (z.set x.1 (.v (.slice none 0 0)))
def Au(P:Program)(o:Oper)(t:TypeId)(parts:List (Nat×Operand))(ρ:Env)(H:aH)(K:Env->aH->Prop):Prop:=
 pA none ρ parts fun l=>match cV P t,dB P t,qI P t with
   | some z,some pl,some nl=>match qC pl (IU nl z) l with
     | some cs=>K (upd ρ o.dst (.agg cs)) H
     | none=>False
   | _,_,_=>False
def BR(P:Program)(o:Oper)(t:TypeId)(parts:List (Nat×Operand))(ρ:Env)(H:aH)(K:Env->aH->Prop):Prop:=
 pA none ρ parts fun l=>match cV P t,dB P t,qI P t with
   | some z,some pl,some nl=>jC nl z H fun z H=>match qC pl z l with
     | some cs=>K (upd ρ o.dst (.agg cs)) H
     | none=>False
   | _,_,_=>False
def lF(P:Program)(o:Oper)(t:TypeId)(m x v:AV)(ρ:Env)(H:aH)(K:Env->aH->Prop):Prop:=
 DR P H t m x fun j r _ oi=>K (upd ρ o.dst .any) (aI H j (some { r with es:=V5 r.es oi x v }))
def Ao(P:Program)(o:Oper)(t:TypeId)(m x:AV)(ρ:Env)(H:aH)(K:Env->aH->Prop):Prop:=
 DR P H t m x fun j r kt oi=>match oi with
   | some i=>K (upd ρ o.dst (.tup [(r.es.getD i []).getD 1 .any,.v (.int .i64 i)])) H
   | none=>match Is P kt.2 with
     | some z=>K (upd ρ o.dst (.tup [z,.v (.int .i64 r.es.length)])) (aI H j (some { r with es:=r.es++[[x,z]] }))
     | none=>False
def sS(o:Oper)(m s v:AV)(ρ:Env)(H:aH)(K:Env->aH->Prop):Prop:=
 match m,s with
 | .om j,.v (.int _ i)=>match H j with
   | some r=>(0<=i/\i<r.es.length)/\K (upd ρ o.dst .any) (aI H j (some { r with es:=r.es.set i.toNat [(r.es.getD i.toNat []).getD 0 .any,v] }))
   | none=>False
 | _,_=>False
def sA(P:Program)(o:Oper)(t:TypeId)(l c:AV)(ρ:Env)(H:aH)(K:Env->aH->Prop):Prop:=
 match l,c with
 | .v (.int _ a),.v (.int _ b)=>match bT P t with
   | some (e,sz,bytes)=>match cV P e with
     | some z=>((0<=a/\a<=b)/\(bytes:Int)*b<=140737488355328)/\oA H ⟨e,sz,List.replicate a.toNat z⟩ fun k H'=>K (upd ρ o.dst (.os k)) H'
     | none=>False
   | none=>False
 | _,_=>False
def HT:AV->Option (FuncId×List AV×List AV)
 | .v (.func (.func f) first captured)=>some (f,first.toList.map .v,captured.toList.map .v)
 | .fn f cap=>some (f,[],cap)
 | _=>none
def aG(P:Program)(f:FuncId):Bool:=match P.funcs[f]? with|some fn=>fn.name != "runtime.NumGoroutine" && fn.body.isSome|none=>false
abbrev kY:=FuncId->List AV->aH->(AV->aH->Prop)->Prop
def nfq(quiet:Bool)(r:AV)(K:AV->Prop):Prop:=match quiet,r with
 | true,.nf _=>False
 | false,.nf x=>K x
 | _,r=>K r
def Cs(P:Program)(C:kY)(PC:FuncId->List AV->aH->AV->Prop)(nl quiet:Bool)(G:Option Bool)(o:Oper)(c:Call)(ρ:Env)(H:aH)(K:Env->aH->Prop):Prop:=
 match c.callee with
 | .builtin b=>AM G ρ c.args.toList fun l=>match b,l,c.argTypes.toList with
   | .len,[x],[t]=>GG P H t x fun y=>K (upd ρ o.dst (wr G y)) H
   | .append,[s,x],[t,t']=>if t=t'/\G=none/\quiet=false then qK P o t s x ρ H K else False
   | .copy,[x,y],[t,_]=>if G=none/\quiet=false then SA P o t x y ρ H K else False
   | .clear,[x],[t]=>if G=none/\quiet=false then Pt P o t x ρ H K else False
   | .max,[x,y],[_,_]=>Pd x y fun z=>K (upd ρ o.dst (wr G z)) H
   | .min,[x,y],[_,_]=>QA x y fun z=>K (upd ρ o.dst (wr G z)) H
   | _,_,_=>False
 | .value f=>bR G (aev ρ f) fun x=>match HT x with
   | some (f,first,captured)=>if nl=true then gt G/\quiet=false/\aG P f=true/\C f (first++c.args.toList.map (Ls ρ)++captured) H fun r H'=>K (upd ρ o.dst r) H' else AM G ρ c.args.toList fun l=>
     aG P f=true/\if G=none/\quiet=false then C f (first++l++captured) H fun r H'=>K (upd ρ o.dst r) H'
     else ∃r,(gt G->PC f (first++l++captured) H r)/\nfq quiet r fun r=>K (upd ρ o.dst (wr G r)) H
   | none=>False
 | .invoke _ _=>False
def aop(P:Program)(C:kY)(PC:FuncId->List AV->aH->AV->Prop)(mt:Nat->Bool)(quiet:Bool)(ops:Array Oper)(o:Oper)(ρ:Env)(H:aH)(K:Env->aH->Prop):Prop:=
 cG ops ρ o.guard fun G=>
 match o.op with
 | .assign x=>B5 P mt quiet G o x ρ H K
 | .alloc t=>match cV P t with
   | some z => G = none /\ quiet = false /\ (if qV mt o.dst = true then match qI P t with
       | some nl=>jC nl z H fun z H=>oA H ⟨t,z.length,[z]⟩ fun k H'=>K (upd ρ o.dst (.op k 0 0)) H'
       | none=>False
     else oA H ⟨t,z.length,[z]⟩ fun k H'=>K (upd ρ o.dst (.op k 0 0)) H')
   | none=>False
 | .box t x=>G=none/\quiet=false/\bR G (aev ρ x) fun x=>mB x fun cs=>acO mt o t cs ρ H K
 | .buildSlice t n parts=>quiet=false/\pA G ρ parts.toList fun l=>nA P mt G o t n l ρ H K
 | .store t a x => G = none /\ quiet = false /\ (if sF x = true then bR G (aev ρ a) fun a => match bT P t with
       | some (e,sz,_)=>oA H ⟨e,sz,[]⟩ fun k H=>sR P o t a [.os k] ρ H K
       | none=>False
     else bR G (aev ρ a) fun a=>bR G (aev ρ x) fun x=>mB x fun cs=>sR P o t a cs ρ H K)
 | .call c=>Cs P C PC (qV mt o.dst) quiet G o c ρ H K
 | .move x=>if qV mt o.dst=true then G=none/\quiet=false/\Al x ρ o.dst H K else gP P G ρ H (.move x) fun x=>K (upd ρ o.dst (wr G x)) H
 | .pick c a b=>gP P G ρ H (.pick c a b) fun x=>K (upd ρ o.dst (wr G x)) H
 | .build t parts=>if qV mt o.dst=true then G=none/\(if quiet=true then Au P o t parts.toList ρ H K else BR P o t parts.toList ρ H K)else gP P G ρ H (.build t parts) fun x=>K (upd ρ o.dst (wr G x)) H
 | .load t a=>if qV mt o.dst=true then G=none/\quiet=false/\gP P none ρ H (.load t a) fun x=>JC x ρ o.dst H K else gP P G ρ H (.load t a) fun x=>K (upd ρ o.dst (wr G x)) H
 | .nilCheck x=>gP P G ρ H (.nilCheck x) fun x=>K (upd ρ o.dst (wr G x)) H
 | .binOp op t x y t'=>gP P G ρ H (.binOp op t x y t') fun x=>K (upd ρ o.dst (wr G x)) H
 | .unOp op t x=>gP P G ρ H (.unOp op t x) fun x=>K (upd ρ o.dst (wr G x)) H
 | .convert s d x=>gP P G ρ H (.convert s d x) fun x=>K (upd ρ o.dst (wr G x)) H
 | .slice t x lo hi m=>gP P G ρ H (.slice t x lo hi m) fun x=>K (upd ρ o.dst (wr G x)) H
 | .fieldAddr t x f=>gP P G ρ H (.fieldAddr t x f) fun x=>K (upd ρ o.dst (wr G x)) H
 | .field t x f=>gP P G ρ H (.field t x f) fun x=>K (upd ρ o.dst (wr G x)) H
 | .indexAddr t x i=>gP P G ρ H (.indexAddr t x i) fun x=>K (upd ρ o.dst (wr G x)) H
 | .index t x i=>gP P G ρ H (.index t x i) fun x=>K (upd ρ o.dst (wr G x)) H
 | .extract x i=>gP P G ρ H (.extract x i) fun x=>K (upd ρ o.dst (wr G x)) H
 | .makeFunc f a b=>gP P G ρ H (.makeFunc f a b) fun x=>K (upd ρ o.dst (wr G x)) H
 | .makeSlice t l c=>G=none/\quiet=false/\bR G (aev ρ l) fun l=>bR G (aev ρ c) fun c=>sA P o t l c ρ H K
 | .lookup t x i ok=>gP P G ρ H (.lookup t x i ok) fun x=>K (upd ρ o.dst (wr G x)) H
 | .makeMap _ none=>G=none/\quiet=false/\oA H ⟨0,2,[]⟩ fun k H'=>K (upd ρ o.dst (.om k)) H'
 | .mapUpdate t m x v=>G=none/\quiet=false/\bR G (aev ρ m) fun m=>bR G (aev ρ x) fun x=>bR G (aev ρ v) fun v=>lF P o t m x v ρ H K
 | .insert t m x v=>G=none/\quiet=false/\bR G (aev ρ m) fun m=>bR G (aev ρ x) fun x=>bR G (aev ρ v) fun v=>lF P o t m x v ρ H K
 | .mapEntry t m x=>G=none/\quiet=false/\bR G (aev ρ m) fun m=>bR G (aev ρ x) fun x=>Ao P o t m x ρ H K
 | .entryStore _ m s v=>G=none/\quiet=false/\bR G (aev ρ m) fun m=>bR G (aev ρ s) fun s=>bR G (aev ρ v) fun v=>sS o m s v ρ H K
 | _=>False
def wK(P:Program)(C:kY)(PC:FuncId->List AV->aH->AV->Prop)(mt:Nat->Bool)(quiet:Bool)(ops:Array Oper)(K:Env->aH->Prop):List Oper->Env->aH->Prop
 | [],ρ,H=>K ρ H
 | o::rest,ρ,H=>aop P C PC mt quiet ops o ρ H (wK P C PC mt quiet ops K rest)
def Ex.seq(K:Env->aH->Prop)(Q:Ex->Env->aH->Prop):Ex->Env->aH->Prop
 | .normal,ρ,H=>K ρ H
 | e,ρ,H=>Q e ρ H
def Ex.blk(id:Nat)(Q:Ex->Env->aH->Prop):Ex->Env->aH->Prop
 | .exit i,ρ,H=>if i=id then Q .normal ρ H else Q (.exit i) ρ H
 | e,ρ,H=>Q e ρ H
def ND(W:(Ex->Env->aH->Prop)->Env->aH->Prop)(Q:Ex->Env->aH->Prop)(ρ:Env)(H:aH):Prop:=
 ∃(I:Env->aH->Prop) (μ:Env->aH->Nat),I ρ H/\∀ρ' H',I ρ' H'->W (Ex.seq (fun ρ'' H''=>I ρ'' H''/\μ ρ'' H''<μ ρ' H') Q) ρ' H'
def aeW(mt:Nat->Bool)(o:Oper):Bool:=match o.op with
 | .alloc _=>true
 | .buildSlice ..=>true
 | .store ..=>true
 | .makeSlice ..=>true
 | .makeMap ..=>true
 | .mapUpdate ..=>true
 | .insert ..=>true
 | .mapEntry ..=>true
 | .entryStore ..=>true
 | .call ⟨.builtin .append,_,_⟩=>true
 | .call ⟨.builtin .copy,_,_⟩=>true
 | .call ⟨.builtin .clear,_,_⟩=>true
 | _=>qV mt o.dst
def Th(mt:Nat->Bool):List Oper->Nat
 | []=>0
 | o::r=>if aeW mt o=true then 0 else Th mt r+1
def Tz(ops:Array Oper)(n:Nat):Bool:=Region.noSelect ops&&decide (n<=ops.size)&&Region.lexHead .any ops (ops.size-n) n 0 (Array.replicate ops.size false)
def qH(o:Oper)(H:aH):aH:=match o.op with
 | .slice ..=>H
 | _=>fun _=>none
def zX(P:Program)(C:kY)(PC:FuncId->List AV->aH->AV->Prop)(mt:Nat->Bool)(ops:Array Oper)(K:Env->aH->Prop):List (Nat×Bool)->Env->aH->Prop
 | [],ρ,H=>K ρ H
 | (k,b)::f,ρ,H=>match ops[k]? with
   | some o=>if b=true then aop P C PC mt true ops o ρ (qH o H) fun ρ' _=>zX P C PC mt ops K f ρ' H
     else aop P C PC mt false ops o ρ H (zX P C PC mt ops K f)
   | none=>False
def uZ(P:Program)(C:kY)(PC:FuncId->List AV->aH->AV->Prop)(mt:Nat->Bool)(ops:Array Oper)(K:Env->aH->Prop)(Hp:aH):List (Nat×Bool)->Env->aH->Prop
 | [],ρ,H=>K ρ H
 | (k,b)::f,ρ,H=>match ops[k]? with
   | some o=>if b=true then aop P C PC mt true ops o ρ Hp fun ρ' _=>uZ P C PC mt ops K Hp f ρ' H
     else aop P C PC mt false ops o ρ H (uZ P C PC mt ops K Hp f)
   | none=>False
def oR(l:List Nat)(H:aH)(K:Env->aH->Prop)(ρ':Env)(H':aH):Prop:=
 (∀k,k∈l->H' k=none)->∀Hm:aH,(∀k,k∈l->Hm k=H k)->(∀k,k∉l->Hm k=H' k)->K ρ' Hm
def dX{l:List Nat}{H:aH}{K:Env->aH->Prop}{A:Env}{H':aH}(h:(∀k,k∈l->H' k=none)->∀E:aH,(∀k,k∈l->E k=H k)->(∀k,k∉l->E k=H' k)->K A E):oR l H K A H':=h
def pE(ops:Array Oper):List (Nat×Bool)->Array Bool->Bool
 | [],listed=>(Region.ready .any ops listed).isEmpty
 | (k,true)::f,listed=>(Region.ready .any ops listed).contains k&&Region.free .any ops listed k&&pE ops f (listed.setIfInBounds k true)
 | (k,false)::f,listed=>decide (Region.ready .any ops listed=[k])&&pE ops f (listed.setIfInBounds k true)
def RX(ops:Array Oper)(f:List (Nat×Bool)):Bool:=Region.noSelect ops&&decide (f.length=ops.size)&&pE ops f (Array.replicate ops.size false)
inductive Mx where
 | nil
 | q (k:Nat) (t:Mx)
 | a1 (k:Nat) (t:Mx)
 | a2 (k:Nat) (t:Mx) (k':Nat) (t':Mx)
 | a3 (k:Nat) (t:Mx) (k':Nat) (t':Mx) (k'':Nat) (t'':Mx)
def AD(P:Program)(C:kY)(PC:FuncId->List AV->aH->AV->Prop)(mt:Nat->Bool)(quiet:Bool)(ops:Array Oper)(k:Nat)(ρ:Env)(H:aH)(K:Env->aH->Prop):Prop:=
 match ops[k]? with
 | some o=>aop P C PC mt quiet ops o ρ H K
 | none=>False
def kX(P:Program)(C:kY)(PC:FuncId->List AV->aH->AV->Prop)(mt:Nat->Bool)(ops:Array Oper)(K:Env->aH->Prop)(Hp:aH):Mx->Env->aH->Prop
 | .nil,ρ,H=>K ρ H
 | .q k t,ρ,H=>AD P C PC mt true ops k ρ Hp fun ρ' _=>kX P C PC mt ops K Hp t ρ' H
 | .a1 k t,ρ,H=>AD P C PC mt false ops k ρ H (kX P C PC mt ops K Hp t)
 | .a2 k t k' t',ρ,H=>AD P C PC mt false ops k ρ H (kX P C PC mt ops K Hp t)/\AD P C PC mt false ops k' ρ H (kX P C PC mt ops K Hp t')
 | .a3 k t k' t' k'' t'',ρ,H=>AD P C PC mt false ops k ρ H (kX P C PC mt ops K Hp t)/\AD P C PC mt false ops k' ρ H (kX P C PC mt ops K Hp t')/\AD P C PC mt false ops k'' ρ H (kX P C PC mt ops K Hp t'')
def dW(ops:Array Oper):Mx->Nat->Array Bool->Bool
 | .nil,0,listed=>(Region.ready .any ops listed).isEmpty
 | .q k t,n+1,listed=>(Region.ready .any ops listed).contains k&&Region.free .any ops listed k&&dW ops t n (listed.setIfInBounds k true)
 | .a1 k t,n+1,listed=>decide (Region.ready .any ops listed=[k])&&dW ops t n (listed.setIfInBounds k true)
 | .a2 k t k' t',n+1,listed=>decide (Region.ready .any ops listed=[k,k'])&&dW ops t n (listed.setIfInBounds k true)&&dW ops t' n (listed.setIfInBounds k' true)
 | .a3 k t k' t' k'' t'',n+1,listed=>decide (Region.ready .any ops listed=[k,k',k''])&&dW ops t n (listed.setIfInBounds k true)&&dW ops t' n (listed.setIfInBounds k' true)&&dW ops t'' n (listed.setIfInBounds k'' true)
 | _,_,_=>false
def Hg(ops:Array Oper)(t:Mx):Bool:=Region.noSelect ops&&dW ops t ops.size (Array.replicate ops.size false)
def tQ(P:Program)(C:kY)(PC:FuncId->List AV->aH->AV->Prop)(mt:Nat->Bool)(ops:Array Oper)(K:Env->aH->Prop)(m:Nat)(ρ:Env)(H:aH):Prop:=
 (m=ops.size/\Region.lexB .any ops=true/\wK P C PC mt true ops K ops.toList ρ H) \/
 (Tz ops m=true/\wK P C PC mt true ops (fun ρ' _=>wK P C PC mt false ops K (ops.toList.drop m) ρ' H) (ops.toList.take m) ρ fun _=>none) \/
 (∃f,RX ops f=true/\zX P C PC mt ops K f ρ H) \/
 ∃l t,(∀k,k∈l->(H k).isSome=true)/\Hg ops t=true/\∀Hp Hr:aH,(∀k,k∈l->Hp k=H k)->(∀k,k∉l->Hr k=H k)->(∀k,k∉l->Hp k=none)->(∀k,k∈l->Hr k=none)->kX P C PC mt ops (oR l H K) Hp t ρ Hr
def dF{P:Program}{C:kY}{PC:FuncId->List AV->aH->AV->Prop}{mt:Nat->Bool}{l:List Oper}{K:Env->aH->Prop}{m:Nat}{ρ:Env}{H:aH}(E:(m == l.length)=true)(A:Region.lexB .any l.toArray=true)
 (h:wK P C PC mt true l.toArray K l ρ H):tQ P C PC mt l.toArray K m ρ H:=.inl ⟨by simpa using E,A,h⟩
def E7{P:Program}{C:kY}{PC:FuncId->List AV->aH->AV->Prop}{mt:Nat->Bool}{l:List Oper}{K:Env->aH->Prop}{m:Nat}{ρ:Env}{H:aH}(E:Tz l.toArray m=true)
 (h:wK P C PC mt true l.toArray (fun A _=>wK P C PC mt false l.toArray K (l.drop m) A H) (l.take m) ρ fun _=>none):tQ P C PC mt l.toArray K m ρ H:=.inr (.inl ⟨E,h⟩)
def CN{P:Program}{C:kY}{PC:FuncId->List AV->aH->AV->Prop}{mt:Nat->Bool}{l:List Oper}{K:Env->aH->Prop}{m:Nat}{ρ:Env}{H:aH}(f:List (Nat×Bool))(A:RX l.toArray f=true)
 (h:zX P C PC mt l.toArray K f ρ H):tQ P C PC mt l.toArray K m ρ H:=.inr (.inr (.inl ⟨f,A,h⟩))
def Av{P:Program}{C:kY}{PC:FuncId->List AV->aH->AV->Prop}{mt:Nat->Bool}{ops:List Oper}{K:Env->aH->Prop}{m:Nat}{ρ:Env}{H:aH}(l:List Nat)(t:Mx)(F:∀k,k∈l->(H k).isSome=true)(E:Hg ops.toArray t=true)
 (h:∀Hp A:aH,(∀k,k∈l->Hp k=H k)->(∀k,k∉l->A k=H k)->(∀k,k∉l->Hp k=none)->(∀k,k∈l->A k=none)->kX P C PC mt ops.toArray (oR l H K) Hp t ρ A):tQ P C PC mt ops.toArray K m ρ H:=.inr (.inr (.inr ⟨l,t,F,E,h⟩))
def mxL:List (Nat×Bool)->Mx
 | []=>.nil
 | (k,true)::f=>.q k (mxL f)
 | (k,false)::f=>.a1 k (mxL f)
def YM{P:Program}{C:kY}{PC:FuncId->List AV->aH->AV->Prop}{mt:Nat->Bool}{ops:Array Oper}{K:Env->aH->Prop}(Hp:aH):∀f,uZ P C PC mt ops K Hp f=kX P C PC mt ops K Hp (mxL f)
 | []=>by funext ρ H;simp only[uZ,mxL,kX]
 | (k,b)::f=>by funext ρ H;cases b <;> simp[uZ,mxL,kX,AD,YM Hp f]
def aiQ{ops:Array Oper}{f:List (Nat×Bool)}(h:RX ops f=true):Hg ops (mxL f)=true:=by
 have A:∀(f:List (Nat×Bool)) (l:Array Bool),pE ops f l=true->dW ops (mxL f) f.length l=true:=by
  intro f;induction f with
  | nil=>intro l h;simpa[pE,mxL,dW]using h
  | cons x f ih=>
   intro l h;obtain⟨k,b⟩:=x;cases b <;> simp only[pE,Bool.and_eq_true]at h <;> simp only[mxL,dW,List.length_cons,Bool.and_eq_true]
   ·exact⟨h.1,ih _ h.2⟩
   ·exact⟨h.1,ih _ h.2⟩
 simp only[RX,Bool.and_eq_true,decide_eq_true_eq]at h;simp only[Hg,Bool.and_eq_true];have e:=A f _ h.2;rw[h.1.2]at e;exact⟨h.1.1,e⟩
def gW{P:Program}{C:kY}{PC:FuncId->List AV->aH->AV->Prop}{mt:Nat->Bool}{ops:List Oper}{K:Env->aH->Prop}{m:Nat}{ρ:Env}{H:aH}(l:List Nat)(f:List (Nat×Bool))(F:∀k,k∈l->(H k).isSome=true)(I:RX ops.toArray f=true)
 (h:∀Hp A:aH,(∀k,k∈l->Hp k=H k)->(∀k,k∉l->A k=H k)->(∀k,k∉l->Hp k=none)->(∀k,k∈l->A k=none)->uZ P C PC mt ops.toArray (oR l H K) Hp f ρ A):tQ P C PC mt ops.toArray K m ρ H:=Av l (mxL f) F (aiQ I) fun Hp A h1 M J E=>by rw[<-YM Hp f];exact h Hp A h1 M J E
def awp(P:Program)(C:kY)(PC:FuncId->List AV->aH->AV->Prop)(mt:Nat->Bool):Code->(Ex->Env->aH->Prop)->Env->aH->Prop
 | .skip,Q,ρ,H=>Q .normal ρ H
 | .region _ ops draw,Q,ρ,H=>if draw=true then tQ P C PC mt ops (Q .normal) (Th mt ops.toList) ρ H else wK P C PC mt false ops (Q .normal) ops.toList ρ H
 | .seq a b,Q,ρ,H=>awp P C PC mt a (Ex.seq (awp P C PC mt b Q) Q) ρ H
 | .cond c a b,Q,ρ,H=>match aev ρ c with
   | .v (.bool t)=>(t=true->awp P C PC mt a Q ρ H)/\(t=false->awp P C PC mt b Q ρ H)
   | _=>False
 | .block id c,Q,ρ,H=>awp P C PC mt c (Ex.blk id Q) ρ H
 | .loop c,Q,ρ,H=>ND (awp P C PC mt c) Q ρ H
 | .scope c,Q,ρ,H=>awp P C PC mt c Q ρ H
 | .label _,Q,ρ,H=>Q .normal ρ H
 | .exit id,Q,ρ,H=>Q (.exit id) ρ H
 | .ret,Q,ρ,H=>Q .ret ρ H
 | _,_,_,_=>False
def xK(x:AV)(A B:Env->aH->Prop)(ρ:Env)(H:aH):Prop:=
 match x with
 | .v (.bool t)=>(t=true->A ρ H)/\(t=false->B ρ H)
 | _=>False
section
variable{P:Program}{C:kY}{PC:FuncId->List AV->aH->AV->Prop}{mt:Nat->Bool}{Q:Ex->Env->aH->Prop}{K:Env->aH->Prop}{ρ:Env}{H:aH}{a b c:Code}{id:Nat}{ops:Array Oper}{draw:Bool}
def WD:awp P C PC mt .skip Q ρ H=Q .normal ρ H:=(rfl)
def FZ:awp P C PC mt (.region id ops false) Q ρ H=wK P C PC mt false ops (Q .normal) ops.toList ρ H:=by simp[awp]
def Me:awp P C PC mt (.region id ops true) Q ρ H=tQ P C PC mt ops (Q .normal) (Th mt ops.toList) ρ H:=by simp[awp]
@[congr] theorem adraw_c {m m':Nat} (h:m=m'):tQ P C PC mt ops K m ρ H=tQ P C PC mt ops K m' ρ H:=h▸rfl
def Tv:awp P C PC mt (.seq a b) Q ρ H=awp P C PC mt a (Ex.seq (awp P C PC mt b Q) Q) ρ H:=(rfl)
def Mw{x:Operand}:awp P C PC mt (.cond x a b) Q ρ H=xK (aev ρ x) (awp P C PC mt a Q) (awp P C PC mt b Q) ρ H:=(rfl)
def I6:awp P C PC mt (.block id c) Q ρ H=awp P C PC mt c (Ex.blk id Q) ρ H:=(rfl)
def L0:awp P C PC mt (.loop c) Q ρ H=ND (awp P C PC mt c) Q ρ H:=(rfl)
def IE:awp P C PC mt (.scope c) Q ρ H=awp P C PC mt c Q ρ H:=(rfl)
def UQ{l:Nat}:awp P C PC mt (.label l) Q ρ H=Q .normal ρ H:=(rfl)
def Zt:awp P C PC mt (.exit id) Q ρ H=Q (.exit id) ρ H:=(rfl)
def acA:awp P C PC mt .ret Q ρ H=Q .ret ρ H:=(rfl)
def Z0:wK P C PC mt draw ops K [] ρ H=K ρ H:=(rfl)
def VQ{o:Oper}{r:List Oper}:wK P C PC mt draw ops K (o::r) ρ H=aop P C PC mt draw ops o ρ H (wK P C PC mt draw ops K r):=(rfl)
def QC:Ex.seq K Q .normal ρ H=K ρ H:=(rfl)
def Zd:Ex.seq K Q (.exit id) ρ H=Q (.exit id) ρ H:=(rfl)
def aeK:Ex.seq K Q .ret ρ H=Q .ret ρ H:=(rfl)
def Pl:Ex.blk id Q .normal ρ H=Q .normal ρ H:=(rfl)
def SN:Ex.blk id Q .ret ρ H=Q .ret ρ H:=(rfl)
def MO:Ex.blk id Q (.exit id) ρ H=Q .normal ρ H:=by simp[Ex.blk]
def UD{i:Nat}(h:(i == id)=false):Ex.blk id Q (.exit i) ρ H=Q (.exit i) ρ H:=by
 have:i≠id:=by simpa using h
 simp[Ex.blk,this]
end
@[congr] theorem wopd_c {G x x' k} (h:x=x'):bR G x k=bR G x' k:=h▸rfl
@[congr] theorem abin_c {P G op t x x' y y' k} (h:x=x') (h':y=y'):gZ P G op t x y k=gZ P G op t x' y' k:=h▸h'▸rfl
@[congr] theorem apick_c {G c c' x x' y y' k} (h0:c=c') (h:x=x') (h':y=y'):AI G c x y k=AI G c' x' y' k:=h0▸h▸h'▸rfl
@[congr] theorem aload_c {G H l l' x x' k} (h:l=l') (h':x=x'):nG G H l x k=nG G H l' x' k:=h▸h'▸rfl
@[congr] theorem apart_c {G o o' l l' x x' k} (h0:o=o') (h:l=l') (h':x=x'):apart G o l x k=apart G o' l' x' k:=h0▸h▸h'▸rfl
@[congr] theorem alen_c {P H t x x' k} (h':x=x'):GG P H t x k=GG P H t x' k:=h'▸rfl
@[congr] theorem aindexAddr_c {P G H t x x' y y' k} (h:x=x') (h':y=y'):dZ P G H t x y k=dZ P G H t x' y' k:=h▸h'▸rfl
@[congr] theorem aindex_c {P G t x x' y y' k} (h:x=x') (h':y=y'):xD P G t x y k=xD P G t x' y' k:=h▸h'▸rfl
@[congr] theorem afieldAddr_c {P t f x x' k} (h':x=x'):iQ P t f x k=iQ P t f x' k:=h'▸rfl
@[congr] theorem abuild_c {P t l l' k} (h':l=l'):wC P t l k=wC P t l' k:=h'▸rfl
@[congr] theorem aslice_c {P G t x x' lo lo' hi hi' k} (h:x=x') (h1:lo=lo') (h2:hi=hi'):lY P G t x lo hi k=lY P G t x' lo' hi' k:=h▸h1▸h2▸rfl
@[congr] theorem aun_c {op x x' k} (h':x=x'):aun op x k=aun op x' k:=h'▸rfl
@[congr] theorem aconv_c {P s t x x' k} (h':x=x'):xL P s t x k=xL P s t x' k:=h'▸rfl
@[congr] theorem wcells_c {x x' K} (h:x=x'):mB x K=mB x' K:=h▸rfl
@[congr] theorem acond_c {x x' A B ρ H} (h':x=x'):xK x A B ρ H=xK x' A B ρ H:=h'▸rfl
@[congr] theorem abox_c {mt o t x x' ρ H K} (h:x=x'):acO mt o t x ρ H K=acO mt o t x' ρ H K:=h▸rfl
@[congr] theorem abuildSlice_c {P mt G o t n x x' ρ H K} (h:x=x'):nA P mt G o t n x ρ H K=nA P mt G o t n x' ρ H K:=h▸rfl
@[congr] theorem astore_c {P o t a a' x x' ρ H K} (h:a=a') (h':x=x'):yA P o t a x ρ H K=yA P o t a' x' ρ H K:=h▸h'▸rfl
@[congr] theorem aappend_c {P o t a a' x x' ρ H K} (h:a=a') (h':x=x'):qK P o t a x ρ H K=qK P o t a' x' ρ H K:=h▸h'▸rfl
@[congr] theorem asrc_c {H x x' K} (h:x=x'):rV H x K=rV H x' K:=h▸rfl
@[congr] theorem anew_c {H r r' K} (h:r=r'):oA H r K=oA H r' K:=h▸rfl
def aA{t:Bool}{A B:Env->aH->Prop}{ρ:Env}{H:aH}(h1:t=true->A ρ H)(E:t=false->B ρ H):xK (.v (.bool t)) A B ρ H:=⟨h1,E⟩
def ES(args:List AV):Env:=fun t=>args.getD t .any
def aT:AV->Nat
 | .v (.int _ n)=>n.toNat
 | _=>0
def aF{k n}:aT (.v (.int k n))=n.toNat:=(rfl)
section
variable{G:Option Bool}{k:AV->Prop}
def ZX{x}:bR G (.v x) k=k (.v x):=(rfl)
def NH:bR G .any k=k .any:=(rfl)
def T5{x}:bR G (.sl x) k=k (.sl x):=(rfl)
def T3{x o}:bR G (.rp x o) k=k (.rp x o):=(rfl)
def N0{x}:bR G (.agg x) k=k (.agg x):=(rfl)
def Mi{x}:bR G (.tup x) k=k (.tup x):=(rfl)
def Tn{x}:bR G (.os x) k=k (.os x):=(rfl)
def Ub{x i f}:bR G (.op x i f) k=k (.op x i f):=(rfl)
def TS{f l}:bR G (.fn f l) k=k (.fn f l):=(rfl)
def Ud{j a b}:bR G (.oz j a b) k=k (.oz j a b):=(rfl)
def TF{es}:bR G (.cl es) k=k (.cl es):=(rfl)
def SZ{j}:bR G (.om j) k=k (.om j):=(rfl)
def Tf{g x}:bR G (.gd g x) k=(gok G g/\k x):=(rfl)
end
def TT(K:Env->aH->Prop)(ρ:Env)(d:Option Tmp)(j:Nat)(H:aH):Prop:=K (upd ρ d (.os j)) H
def SU(K:Env->aH->Prop)(ρ:Env)(d:Option Tmp)(j:Nat)(H:aH):Prop:=K (upd ρ d (.op j 0 0)) H
def MH(K:Env->aH->Prop)(ρ:Env)(d:Option Tmp)(r:AV)(H:aH):Prop:=K (upd ρ d r) H
def Ni{K ρ d j H}:TT K ρ d j H=K (upd ρ d (.os j)) H:=(rfl)
def LO{K ρ d j H}:SU K ρ d j H=K (upd ρ d (.op j 0 0)) H:=(rfl)
def Nl{K ρ d r H}:MH K ρ d r H=K (upd ρ d r) H:=(rfl)
def wpick(G:Option Bool)(c x y:AV)(k:AV->Prop):Prop:=match c with
 | .v (.bool c)=>AI G c x y k
 | _=>False
@[congr] theorem wpick_c {G c c' x y k} (h:c=c'):wpick G c x y k=wpick G c' x y k:=h▸rfl
def SF{G c x y k}:wpick G (.v (.bool c)) x y k=AI G c x y k:=(rfl)
def U8(G:Option Bool)(x:AV)(k:AV->Prop):Prop:=match x with
 | .rp cs off=>k (.rp cs off)
 | .op j i f=>k (.op j i f)
 | .v (.pointer none)=>(gt G->False)/\∃cs off,k (.rp cs off)
 | _=>False
@[congr] theorem wptr_c {G x x' k} (h:x=x'):U8 G x k=U8 G x' k:=h▸rfl
def Tt{G cs o k}:U8 G (.rp cs o) k=k (.rp cs o):=(rfl)
def T2{G j i f k}:U8 G (.op j i f) k=k (.op j i f):=(rfl)
def MJ{G k}:U8 G (.v (.pointer none)) k=((gt G->False)/\∃cs off,k (.rp cs off)):=(rfl)
def adN(G:Option Bool)(x:AV)(i:Nat)(k:AV->Prop):Prop:=match x with
 | .tup vs=>(gt G->i<vs.length)/\k (vs.getD i .any)
 | _=>False
@[congr] theorem wtup_c {G x x' i k} (h:x=x'):adN G x i k=adN G x' i k:=h▸rfl
def Tp{G vs i k}:adN G (.tup vs) i k=((gt G->i<vs.length)/\k (vs.getD i .any)):=(rfl)
def V0(P:Program)(d:Option Tmp)(t:TypeId)(a:AV)(cs:List AV)(ρ:Env)(H:aH)(K:Env->aH->Prop):Prop:=sR P ⟨d,.move (.tmp 0),0,"",#[],none⟩ t a cs ρ H K
@[congr] theorem wput_c {P d t a a' cs cs' ρ H K} (h:a=a') (h':cs=cs'):V0 P d t a cs ρ H K=V0 P d t a' cs' ρ H K:=h▸h'▸rfl
def Gv(P:Program)(d:Option Tmp)(t:TypeId)(s x:AV)(ρ:Env)(H:aH)(K:Env->aH->Prop):Prop:=qK P ⟨d,.move (.tmp 0),0,"",#[],none⟩ t s x ρ H K
@[congr] theorem wapp_c {P d t s s' x x' ρ H K} (h:s=s') (h':x=x'):Gv P d t s x ρ H K=Gv P d t s' x' ρ H K:=h▸h'▸rfl
def Oa(P:Program)(d:Option Tmp)(t:TypeId)(l c:AV)(ρ:Env)(H:aH)(K:Env->aH->Prop):Prop:=sA P ⟨d,.move (.tmp 0),0,"",#[],none⟩ t l c ρ H K
@[congr] theorem wmake_c {P d t s s' x x' ρ H K} (h:s=s') (h':x=x'):Oa P d t s x ρ H K=Oa P d t s' x' ρ H K:=h▸h'▸rfl
def MQ(P:Program)(d:Option Tmp)(t:TypeId)(x y:AV)(ρ:Env)(H:aH)(K:Env->aH->Prop):Prop:=SA P ⟨d,.move (.tmp 0),0,"",#[],none⟩ t x y ρ H K
@[congr] theorem wcopy_c {P d t s s' x x' ρ H K} (h:s=s') (h':x=x'):MQ P d t s x ρ H K=MQ P d t s' x' ρ H K:=h▸h'▸rfl
def aeA{P:Program}{d:Option Tmp}{t:TypeId}{x y:AV}{ρ:Env}{H:aH}{K:Env->aH->Prop}{e:TypeId}{sz A j a n:Nat}{r:Row}{news:List (List AV)}(T:bT P t=some (e,sz,A))(J:H j=some r)
  (U:(x=.os j/\a=0/\n=r.es.length)\/∃b,x=.oz j a b/\n=b-a) (Y:y=.sl news\/(∃i r',y=.os i/\H i=some r'/\r'.es=news)\/∃i r' p q,y=.oz i p q/\H i=some r'/\(r'.es.take q).drop p=news)
  (h1:r.sz=sz) (X:cH sz news) (h:K (upd ρ d (.v (.int .i64 (min news.length n:Nat)))) (aI H j (some { r with es:=r.es.take a++news.take (min news.length n)++r.es.drop (a+min news.length n) }))):MQ P d t x y ρ H K:=by
 unfold MQ SA;have O:∀F:List (List AV)->Prop,F news->rV H y F:=by
  intro F E;rcases Y with rfl|⟨i,r',rfl,I,rfl⟩|⟨i,r',p,q,rfl,I,rfl⟩
  ·exact E
  ·simp only[rV,I];exact E
  ·simp only[rV,I];exact E
 have M:∀F:Nat->Nat->Nat->Row->Prop,F j a n r->Qz H x F:=by
  intro F E;rcases U with⟨rfl,rfl,rfl⟩|⟨b,rfl,rfl⟩
  ·simp only[Qz,J];exact E
  ·simp only[Qz,J];exact E
 refine M _ (O _ ?_);simp only[T];exact⟨⟨h1,X⟩,h⟩
def Rh(P:Program)(d:Option Tmp)(t:TypeId)(x:AV)(ρ:Env)(H:aH)(K:Env->aH->Prop):Prop:=Pt P ⟨d,.move (.tmp 0),0,"",#[],none⟩ t x ρ H K
@[congr] theorem wclear_c {P d t s s' ρ H K} (h:s=s'):Rh P d t s ρ H K=Rh P d t s' ρ H K:=h▸rfl
def SP{P:Program}{d:Option Tmp}{t:TypeId}{es:List (List AV)}{x:AV}{ρ:Env}{H:aH}{K:Env->aH->Prop}{e:TypeId}{sz A:Nat}{news:List (List AV)}(J:bT P t=some (e,sz,A))
  (M:x=.sl news\/∃i r',x=.os i/\H i=some r'/\r'.es=news) (h0:news≠[]) (h1:cH sz es) (F:cH sz news) (E:(es.length+news.length)*A<=140737488355328)
  (h:∀j',H j'=none->K (upd ρ d (.os j')) (aI H j' (some ⟨e,sz,es++news⟩))):Gv P d t (.cl es) x ρ H K:=by
 unfold Gv qK;simp only[J];rcases M with rfl|⟨i,r',rfl,I,rfl⟩
 ·exact⟨⟨h0,h1,F,E⟩,h⟩
 ·simp only[rV,I];exact⟨⟨h0,h1,F,E⟩,h⟩
def WO{P:Program}{d:Option Tmp}{t:TypeId}{x:AV}{ρ:Env}{H:aH}{K:Env->aH->Prop}{e:TypeId}{sz A:Nat}{news:List (List AV)}(J:bT P t=some (e,sz,A))
  (M:x=.sl news\/∃i r',x=.os i/\H i=some r'/\r'.es=news) (h0:news≠[]) (F:cH sz news) (E:news.length*A<=140737488355328)
  (h:∀j',H j'=none->K (upd ρ d (.os j')) (aI H j' (some ⟨e,sz,news⟩))):Gv P d t (.v (.slice none 0 0)) x ρ H K:=by
 unfold Gv qK;simp only[J];rcases M with rfl|⟨i,r',rfl,I,rfl⟩
 ·exact .inr ⟨⟨h0,trivial,F,by simpa using E⟩,h⟩
 ·simp only[rV,I];exact .inr ⟨⟨h0,trivial,F,by simpa using E⟩,h⟩
def aJ{H:aH}{r:Row}{F:Nat->aH->Prop}(h:∀j,H j=none->F j (aI H j (some r))):oA H r F:=h
def bM{α:Type}(o:Option α)(f:α->Prop):Prop:=match o with|some x=>f x|none=>False
def Fk{α:Type}{x:α}{f:α->Prop}:bM (some x) f=f x:=(rfl)
@[congr] theorem withO_c {α:Type} {o o':Option α} {f:α->Prop} (h:o=o'):bM o f=bM o' f:=h▸rfl
section
variable{P:Program}{C:kY}{PC:FuncId->List AV->aH->AV->Prop}{mt:Nat->Bool}{q:Bool}{ops:Array Oper}{d:Option Tmp}{ty:TypeId}{pos:String}{aft:Array Edge}{ρ:Env}{H:aH}{K:Env->aH->Prop}{G:Option Bool}{k:AV->Prop}
def SH{t}:aev ρ (.tmp t)=ρ t:=(rfl)
def Js{v}:aev ρ (.const v)=pQ v:=(rfl)
def MM{f}:aev ρ (.func f)=.v (.func (.func f) #[] #[]):=(rfl)
def Nj{t n a b}:gZ P G .add t (.v (.int n a)) (.v (.int n b)) k=k (.v (.int n (n.wrap (a+b)))):=by simp[gZ,xV]
def Ns{t n a b}:gZ P G .sub t (.v (.int n a)) (.v (.int n b)) k=k (.v (.int n (n.wrap (a-b)))):=by simp[gZ,xV]
def OB{t n a b}:gZ P G .mul t (.v (.int n a)) (.v (.int n b)) k=k (.v (.int n (n.wrap (a*b)))):=by simp[gZ,xV]
def LT{t n a b}:gZ P G .quo t (.v (.int n a)) (.v (.int n b)) k=((gt G->b≠0)/\k (.v (.int n (n.wrap (a.tdiv b))))):=by simp[gZ,xV]
def LI{t n a b}:gZ P G .rem t (.v (.int n a)) (.v (.int n b)) k=((gt G->b≠0)/\k (.v (.int n (a.tmod b)))):=by simp[gZ,xV]
def LR{t n a b}:gZ P G .eql t (.v (.int n a)) (.v (.int n b)) k=k (.v (.bool (a == b))):=by simp[gZ,xV]
def M3{t n a b}:gZ P G .neq t (.v (.int n a)) (.v (.int n b)) k=k (.v (.bool (a != b))):=by simp[gZ,xV]
def NO{t n a b}:gZ P G .lss t (.v (.int n a)) (.v (.int n b)) k=k (.v (.bool (decide (a<b)))):=by simp[gZ,xV]
def NX{t n a b}:gZ P G .leq t (.v (.int n a)) (.v (.int n b)) k=k (.v (.bool (decide (a<=b)))):=by simp[gZ,xV]
def ML{t n a b}:gZ P G .gtr t (.v (.int n a)) (.v (.int n b)) k=k (.v (.bool (decide (a>b)))):=by simp[gZ,xV]
def NB{t n a b}:gZ P G .geq t (.v (.int n a)) (.v (.int n b)) k=k (.v (.bool (decide (a>=b)))):=by simp[gZ,xV]
def Nt{t n m a b}:gZ P G .shl t (.v (.int n a)) (.v (.int m b)) k=((gt G->0<=b)/\k (.v (.int n (shV .shl n a b)))):=by simp[gZ,xV]
def N3{t n m a b}:gZ P G .shr t (.v (.int n a)) (.v (.int m b)) k=((gt G->0<=b)/\k (.v (.int n (shV .shr n a b)))):=by simp[gZ,xV]
def Og{t n a b}:gZ P G .and t (.v (.int n a)) (.v (.int n b)) k=k (.v (.int n (pP .and n a b))):=by simp[gZ,xV]
def T8{t n a b}:gZ P G .or t (.v (.int n a)) (.v (.int n b)) k=k (.v (.int n (pP .or n a b))):=by simp[gZ,xV]
def Eb{t n a b}:gZ P G .andNot t (.v (.int n a)) (.v (.int n b)) k=k (.v (.int n (pP .andNot n a b))):=by simp[gZ,xV]
def Ii{op t x}:gZ P G op t .any (.v x) k=((gt G->False)/\k .any):=by cases x with
 | pointer a=>cases a <;> rfl
 | _=>rfl
def Jp{x}:xO false .any (.v x)=.v x:=by cases x <;> rfl
def Il{t a b}:gZ P G .add t (.v (.string a)) (.v (.string b)) k=((gt G->((a.size+b.size:Nat):Int)<=IntKind.i64.max)/\k (.v (.string (a++b)))):=(rfl)
def Ij{t a b}:gZ P G .eql t (.v (.string a)) (.v (.string b)) k=k (.v (.bool (a.toList == b.toList))):=(rfl)
def Jd{t a b}:gZ P G .neq t (.v (.string a)) (.v (.string b)) k=k (.v (.bool !(a.toList == b.toList))):=(rfl)
def JI{t a b}:gZ P G .eql t (.v (.bool a)) (.v (.bool b)) k=if AA P t then k (.v (.bool (a == b)))else False:=(rfl)
def Jb{t a b}:gZ P G .neq t (.v (.bool a)) (.v (.bool b)) k=if AA P t then k (.v (.bool !(a == b)))else False:=(rfl)
def IT{t x y}:gZ P G .eql t (.agg x) (.agg y) k=bM (AO P t) fun l=>bM (iF l x y) fun b=>k (.v (.bool b)):=by
 cases h1:AO P t with
 | none=>simp[gZ,bM,h1]
 | some l=>cases A:iF l x y <;> simp[gZ,bM,h1,A]
def L3{c x y}:AI G c (.v x) (.v y) k=k (xO c (.v x) (.v y)):=(rfl)
def LM{c x g y}:AI G c (.v x) (.gd g y) k=((gt G->c=false->g=true)/\k (xO c (.v x) y)):=(rfl)
def OK{c g x y}:AI G c (.gd g x) (.v y) k=((gt G->c=true->g=true)/\k (xO c x (.v y))):=(rfl)
def SO{c b}:xO c (.v (.bool true)) (.v (.bool b))=.v (.bool (c||b)):=(rfl)
def TI{c a}:xO c (.v (.bool a)) (.v (.bool false))=.v (.bool (c&&a)):=by cases a <;> cases c <;> rfl
def Ie{cs o}:nG G H none (.rp cs o) k=((gt G->o<cs.length)/\k (cs.getD o .any)):=(rfl)
def IZ{cs o n}:nG G H (some n) (.rp cs o) k=((gt G->o+n<=cs.length)/\k (.agg ((cs.drop o).take n))):=(rfl)
def IJ{j i f}:nG G H none (.op j i f) k=bM (H j) fun r=>(gt G->i<r.es.length/\f<r.sz)/\k ((r.es.getD i []).getD f .any):=by cases h1:H j <;> simp[nG,bM,h1]
def IH{j i f n}:nG G H (some n) (.op j i f) k=bM (H j) fun r=>(gt G->i<r.es.length/\f+n<=r.sz)/\k (.agg (((r.es.getD i []).drop f).take n)):=by cases h1:H j <;> simp[nG,bM,h1]
def TJ{o cs}:apart G o none (.agg cs) k=((gt G->o<cs.length)/\k (cs.getD o .any)):=(rfl)
def TW{o n cs}:apart G o (some n) (.agg cs) k=((gt G->o+n<=cs.length)/\k (.agg ((cs.drop o).take n))):=(rfl)
def To{t es}:GG P H t (.sl es) k=if cA P t then k (.v (.int .i64 es.length))else False:=(rfl)
def Sy{t j}:GG P H t (.os j) k=bM (H j) fun r=>if cA P t then k (.v (.int .i64 r.es.length))else False:=by cases h1:H j <;> simp[GG,bM,h1]
def Tj{t j a b}:GG P H t (.oz j a b) k=if cA P t then k (.v (.int .i64 (b-a:Nat)))else False:=(rfl)
def SW{t s}:GG P H t (.v (.string s)) k=if dN P t then k (.v (.int .i64 s.size))else False:=(rfl)
def AP{t es n i}:dZ P G H t (.sl es) (.v (.int n i)) k=bM (bT P t) fun e=>(gt G->(0<=i/\i<es.length)/\(es.getD i.toNat []).length=e.2.1)/\k (.rp (es.getD i.toNat []) 0):=by cases h1:bT P t <;> simp[dZ,bM,h1]
def AX{t j n i}:dZ P G H t (.os j) (.v (.int n i)) k=bM (H j) fun r=>bM (bT P t) fun e=>(gt G->(0<=i/\i<r.es.length)/\r.sz=e.2.1)/\k (.op j i.toNat 0):=by cases h1:H j <;> cases A:bT P t <;> simp[dZ,bM,h1,A]
def A0{t j a b n i}:dZ P G H t (.oz j a b) (.v (.int n i)) k=bM (H j) fun r=>bM (bT P t) fun e=>(gt G->(0<=i/\i<(b-a:Nat))/\r.sz=e.2.1)/\k (.op j (a+i.toNat) 0):=by cases h1:H j <;> cases A:bT P t <;> simp[dZ,bM,h1,A]
def A1{t cs o n i}:dZ P G H t (.rp cs o) (.v (.int n i)) k=bM (Bc P t) fun e=>(gt G->0<=i/\i<e.1)/\k (.rp cs (o+i.toNat*e.2.1)):=by cases h1:Bc P t <;> simp[dZ,bM,h1]
def AH{t j a o n i}:dZ P G H t (.op j a o) (.v (.int n i)) k=bM (Bc P t) fun e=>(gt G->0<=i/\i<e.1)/\k (.op j a (o+i.toNat*e.2.1)):=by cases h1:Bc P t <;> simp[dZ,bM,h1]
def AR{t f cs o}:iQ P t f (.rp cs o) k=bM (aK P t f) fun e=>k (.rp cs (o+e.1)):=by cases h1:aK P t f <;> simp[iQ,bM,h1]
def AZ{t f j i o}:iQ P t f (.op j i o) k=bM (aK P t f) fun e=>k (.op j i (o+e.1)):=by cases h1:aK P t f <;> simp[iQ,bM,h1]
def SM{b}:aun .not (.v (.bool b)) k=k (.v (.bool !b)):=(rfl)
def TN{n i}:aun .neg (.v (.int n i)) k=k (.v (.int n (n.wrap (0-i)))):=(rfl)
def Jo{s t n i}:xL P s t (.v (.int n i)) k=bM (Fq P t) fun m=>bM (Fq P s) fun _=>k (.v (.int m (m.wrap i))):=by cases h1:Fq P t <;> cases A:Fq P s <;> simp[xL,bM,h1,A]
def I2{s t x}:xL P s t (.v (.string x)) k=if dN P s/\dN P t then k (.v (.string x))else False:=(rfl)
def MT{s t es}:xL P s t (.sl es) k=if CP P s/\dN P t then bM (uH es) fun ns=>k (.v (.string (strOfNums ns)))else False:=by
 by_cases A:CP P s/\dN P t
 ·cases h1:uH es <;> simp[xL,bM,A,h1]
 ·simp[xL,A]
def I9{t es n a m b}:lY P G t (.sl es) (some (.v (.int n a))) (some (.v (.int m b))) k=bM (bT P t) fun e=>(gt G->(0<=a/\a<=b/\b<=es.length)/\cH e.2.1 es)/\k (.sl ((es.take b.toNat).drop a.toNat)):=by cases h1:bT P t <;> simp[lY,bM,h1]
def MX{t es n a}:lY P G t (.sl es) (some (.v (.int n a))) none k=bM (bT P t) fun e=>(gt G->(0<=a/\a<=es.length)/\cH e.2.1 es)/\k (.sl (es.drop a.toNat)):=by cases h1:bT P t <;> simp[lY,bM,h1]
def L2{t es m b}:lY P G t (.sl es) none (some (.v (.int m b))) k=bM (bT P t) fun _=>(gt G->0<=b/\b<=es.length)/\k (.sl (es.take b.toNat)):=by cases h1:bT P t <;> simp[lY,bM,h1]
def Gp{t s n a m b}:lY P G t (.v (.string s)) (some (.v (.int n a))) (some (.v (.int m b))) k=if dN P t then(gt G->0<=a/\a<=b/\b<=s.size)/\k (.v (.string (s.extract a.toNat b.toNat)))else False:=(rfl)
def JJ{t s n a}:lY P G t (.v (.string s)) (some (.v (.int n a))) none k=if dN P t then(gt G->0<=a/\a<=s.size)/\k (.v (.string (s.extract a.toNat s.size)))else False:=(rfl)
def Iw{t s m b}:lY P G t (.v (.string s)) none (some (.v (.int m b))) k=if dN P t then(gt G->0<=b/\b<=s.size)/\k (.v (.string (s.extract 0 b.toNat)))else False:=(rfl)
def Mu{P:Program}{t es n m}{a b:Int}:Eg P G t (.sl es) (.v (.int n a)) (.v (.int m b)) k=bM (bT P t) fun _=>(gt G->a=es.length/\b=es.length)/\k (.cl es):=by unfold Eg bM;cases bT P t <;> rfl
@[congr] theorem aclip_c {P:Program} {t x x' a a' b b'} (h:x=x') (h1:a=a') (h2:b=b'):Eg P G t x a b k=Eg P G t x' a' b' k:=h▸h1▸h2▸rfl
def JF{t s n i}:xD P G t (.v (.string s)) (.v (.int n i)) k=if dN P t then(gt G->0<=i/\i<s.size)/\k (.v (.int .u8 ((s.data.getD i.toNat 0).toNat:Int)))else False:=(rfl)
def Ji{t cs n i}:xD P G t (.agg cs) (.v (.int n i)) k=bM (Bc P t) fun e=>(gt G->0<=i/\i<e.1)/\apart G (i.toNat*e.2.1) e.2.2 (.agg cs) k:=by cases h1:Bc P t <;> simp[xD,bM,h1]
def FK{cs}{k:List AV->Prop}:mB (.agg cs) k=k cs:=(rfl)
def NS{v}{k:List AV->Prop}:mB (.v v) k=(v.oneCell'=true/\k [.v v]):=(rfl)
def Jx{es}{k:List AV->Prop}:mB (.sl es) k=k [.sl es]:=(rfl)
def Jr{cs o}{k:List AV->Prop}:mB (.rp cs o) k=k [.rp cs o]:=(rfl)
def Iu{j}{k:List AV->Prop}:mB (.os j) k=k [.os j]:=(rfl)
def Iy{j i f}{k:List AV->Prop}:mB (.op j i f) k=k [.op j i f]:=(rfl)
def JP{t l}:wC P t l k=bM (cV P t) fun z=>bM (dB P t) fun A=>bM (qC A z l) fun cs=>k (.agg cs):=by
 cases h1:cV P t with
 | none=>simp[wC,bM,h1]
 | some z=>cases E:dB P t with
  | none=>simp[wC,bM,h1,E]
  | some A=>cases F:qC A z l <;> simp[wC,bM,h1,E,F]
def wgd(x:AV)(w:Bool)(F:Option Bool->Prop):Prop:=match x with
 | .v (.bool b)=>F (some (b == w))
 | .gd g (.v (.bool b))=>F (some (g&&(b == w)))
 | _=>False
@[congr] theorem wgd_c {x x' w F} (h:x=x'):wgd x w F=wgd x' w F:=h▸rfl
def aeP{b w F}:wgd (.v (.bool b)) w F=F (some (b == w)):=(rfl)
def aeU{g b w F}:wgd (.gd g (.v (.bool b))) w F=F (some (g&&(b == w))):=(rfl)
def DX{F}:cG ops ρ none F=F none:=(rfl)
def Ez{j w F}:cG ops ρ (some (j,w)) F=bM ((ops[j]?).bind (·.dst)) fun t=>wgd (ρ t) w F:=by
 cases h1:(ops[j]?).bind (·.dst)with
 | none=>simp[cG,bM,h1]
 | some t=>simp only[cG,bM,h1,wgd]
def mE(K:Env->aH->Prop)(ρ:Env)(d:Option Tmp)(G:Option Bool)(H:aH)(x:AV):Prop:=K (upd ρ d (wr G x)) H
def JQ{x}:mE K ρ d none H x=K (upd ρ d x) H:=(rfl)
def IC{b x}:mE K ρ d (some b) H x=K (upd ρ d (.gd b x)) H:=(rfl)
end
section
variable{P:Program}{C:kY}{PC:FuncId->List AV->aH->AV->Prop}{mt:Nat->Bool}{q:Bool}{ops:Array Oper}{d:Option Tmp}{ty:TypeId}{pos:String}{aft:Array Edge}{gd:Option (Nat×Bool)}{ρ:Env}{H:aH}{K:Env->aH->Prop}
def Yq{x}:aop P C PC mt q ops ⟨d,.move x,ty,pos,aft,gd⟩ ρ H K=cG ops ρ gd fun G=>if qV mt d=true then G=none/\q=false/\Al x ρ d H K else bR G (aev ρ x) (mE K ρ d G H):=(rfl)
def Xe{c a b}:aop P C PC mt q ops ⟨d,.pick c a b,ty,pos,aft,gd⟩ ρ H K=cG ops ρ gd fun G=>bR G (aev ρ c) fun x=>wpick G x (aev ρ a) (aev ρ b) (mE K ρ d G H):=(rfl)
def VR{t l}: aop P C PC mt q ops ⟨d, .build t l, ty, pos, aft, gd⟩ ρ H K = cG ops ρ gd fun G => if qV mt d = true then G = none /\ (if q = true then pA none ρ l.toList (fun l => bM (cV P t) fun z => bM (dB P t) fun A => bM (qI P t) fun nl => bM (qC A (IU nl z) l) fun cs => mE K ρ d none H (.agg cs)) else
   pA none ρ l.toList (fun l=>bM (cV P t) fun z=>bM (dB P t) fun A=>bM (qI P t) fun nl=>jC nl z H fun z H=>bM (qC A z l) fun cs=>mE K ρ d none H (.agg cs)))
  else pA G ρ l.toList fun l=>wC P t l (mE K ρ d G H):=by
 show cG ops ρ gd (fun G=>if qV mt d=true then G=none/\(if q=true then Au P ⟨d,.build t l,ty,pos,aft,gd⟩ t l.toList ρ H K else BR P ⟨d,.build t l,ty,pos,aft,gd⟩ t l.toList ρ H K)else _)=_
 congr 1;funext G;congr 3
 ·unfold Au
  congr 1;funext l
  cases h1:cV P t with
  | none=>simp[bM]
  | some z=>cases I:dB P t with
   | none=>simp[bM]
   | some A=>cases F:qI P t with
    | none=>simp[bM]
    | some nl=>simp only[bM];cases E:qC A (IU nl z) l <;> rfl
 unfold BR
 congr 1;funext l
 cases h1:cV P t with
 | none=>simp[bM]
 | some z=>cases I:dB P t with
  | none=>simp[bM]
  | some A=>cases F:qI P t with
   | none=>simp[bM]
   | some nl=>simp only[bM];congr 1;funext z H;cases E:qC A z l <;> rfl
def Xj{t x}:aop P C PC mt q ops ⟨d,.load t x,ty,pos,aft,gd⟩ ρ H K=cG ops ρ gd fun G=>if qV mt d=true then G=none/\q=false/\bM (ldT P t) fun l=>bR none (aev ρ x) fun y=>nG none H l y fun z=>JC z ρ d H K else bM (ldT P t) fun l=>bR G (aev ρ x) fun y=>nG G H l y (mE K ρ d G H):=by
 show cG ops ρ gd (fun G=>if qV mt d=true then G=none/\q=false/\gP P none ρ H (.load t x) fun z=>JC z ρ d H K else gP P G ρ H (.load t x) (mE K ρ d G H))=_
 congr 1;funext G;cases h1:ldT P t <;> simp[gP,bM,h1]
def KO{x}:aop P C PC mt q ops ⟨d,.nilCheck x,ty,pos,aft,gd⟩ ρ H K=cG ops ρ gd fun G=>bR G (aev ρ x) fun y=>U8 G y (mE K ρ d G H):=(rfl)
def aaQ{op t x y t'}:aop P C PC mt q ops ⟨d,.binOp op t x y t',ty,pos,aft,gd⟩ ρ H K=cG ops ρ gd fun G=>if sF y=true then bR G (aev ρ x) fun x=>cA P t=true/\pX op x (mE K ρ d G H)else bR G (aev ρ x) fun x=>bR G (aev ρ y) fun y=>gZ P G op t x y (mE K ρ d G H):=(rfl)
def ahT{op t x}:aop P C PC mt q ops ⟨d,.unOp op t x,ty,pos,aft,gd⟩ ρ H K=cG ops ρ gd fun G=>bR G (aev ρ x) fun x=>aun op x (mE K ρ d G H):=(rfl)
def Zr{s t x}:aop P C PC mt q ops ⟨d,.convert s t x,ty,pos,aft,gd⟩ ρ H K=cG ops ρ gd fun G=>bR G (aev ρ x) fun x=>xL P s t x (mE K ρ d G H):=(rfl)
def K5{t x lo A}:aop P C PC mt q ops ⟨d,.slice t x (some lo) (some A) none,ty,pos,aft,gd⟩ ρ H K=cG ops ρ gd fun G=>bR G (aev ρ x) fun x=>bR G (aev ρ lo) fun lo=>bR G (aev ρ A) fun A=>asl P G H t x (some lo) (some A) (mE K ρ d G H):=(rfl)
def MB{t x A m}:aop P C PC mt q ops ⟨d,.slice t x none (some A) (some m),ty,pos,aft,gd⟩ ρ H K=cG ops ρ gd fun G=>bR G (aev ρ x) fun x=>bR G (aev ρ A) fun A=>bR G (aev ρ m) fun m=>Eg P G t x A m (mE K ρ d G H):=(rfl)
def Mk{t x lo}:aop P C PC mt q ops ⟨d,.slice t x (some lo) none none,ty,pos,aft,gd⟩ ρ H K=cG ops ρ gd fun G=>bR G (aev ρ x) fun x=>bR G (aev ρ lo) fun lo=>asl P G H t x (some lo) none (mE K ρ d G H):=(rfl)
def MG{t x A}:aop P C PC mt q ops ⟨d,.slice t x none (some A) none,ty,pos,aft,gd⟩ ρ H K=cG ops ρ gd fun G=>bR G (aev ρ x) fun x=>bR G (aev ρ A) fun A=>asl P G H t x none (some A) (mE K ρ d G H):=(rfl)
def HE{t x f}:aop P C PC mt q ops ⟨d,.fieldAddr t x f,ty,pos,aft,gd⟩ ρ H K=cG ops ρ gd fun G=>bR G (aev ρ x) fun x=>iQ P t f x (mE K ρ d G H):=(rfl)
def HH{t x i}:aop P C PC mt q ops ⟨d,.indexAddr t x i,ty,pos,aft,gd⟩ ρ H K=cG ops ρ gd fun G=>bR G (aev ρ x) fun x=>bR G (aev ρ i) fun i=>dZ P G H t x i (mE K ρ d G H):=(rfl)
def Vf{t x i}:aop P C PC mt q ops ⟨d,.index t x i,ty,pos,aft,gd⟩ ρ H K=cG ops ρ gd fun G=>bR G (aev ρ x) fun x=>bR G (aev ρ i) fun i=>xD P G t x i (mE K ρ d G H):=(rfl)
def L1{x i}:aop P C PC mt q ops ⟨d,.extract x i,ty,pos,aft,gd⟩ ρ H K=cG ops ρ gd fun G=>bR G (aev ρ x) fun x=>adN G x i (mE K ρ d G H):=(rfl)
def Q2{x}:aop P C PC mt q ops ⟨d,.assign x,ty,pos,aft,gd⟩ ρ H K=cG ops ρ gd fun G=>if qV mt d=true/\G=none/\q=false/\sF x=true then bM (bT P ty) fun e=>oA H ⟨e.1,e.2.1,[]⟩ (TT K ρ d)else bR G (aev ρ x) (mE K ρ d G H):=by
 show cG ops ρ gd (fun G=>B5 P mt q G ⟨d,.assign x,ty,pos,aft,gd⟩ x ρ H K)=_
 congr 1;funext G
 unfold B5;cases h1:bT P ty <;> rfl
def VS{t}:aop P C PC mt q ops ⟨d,.alloc t,ty,pos,aft,gd⟩ ρ H K=cG ops ρ gd fun G=>bM (cV P t) fun z=>G=none/\q=false/\(if qV mt d=true then bM (qI P t) fun nl=>jC nl z H fun z H=>oA H ⟨t,z.length,[z]⟩ (SU K ρ d)else oA H ⟨t,z.length,[z]⟩ (SU K ρ d)):=by
 show cG ops ρ gd (fun G=>match cV P t with
   | some z => G = none /\ q = false /\ (if qV mt d = true then match qI P t with
       | some nl=>jC nl z H fun z H=>oA H ⟨t,z.length,[z]⟩ fun k H'=>K (upd ρ d (.op k 0 0)) H'
       | none=>False
     else oA H ⟨t,z.length,[z]⟩ fun k H'=>K (upd ρ d (.op k 0 0)) H')
   | none=>False)=_
 congr 1;funext G;cases h1:cV P t <;> cases A:qI P t <;> rfl
def aeL{t x}:aop P C PC mt q ops ⟨d,.box t x,ty,pos,aft,gd⟩ ρ H K=cG ops ρ gd fun G=>G=none/\q=false/\bR G (aev ρ x) fun x=>mB x fun cs=>if qV mt d=true then 0<cs.length/\oA H ⟨t,cs.length,[cs]⟩ (SU K ρ d)else K (upd ρ d (.rp cs 0)) H:=(rfl)
def FS{t n l}:aop P C PC mt q ops ⟨d,.buildSlice t n l,ty,pos,aft,gd⟩ ρ H K=cG ops ρ gd fun G=>q=false/\pA G ρ l.toList fun l=>bM (bT P t) fun e=>(l.map (·.1)=JY 0 n/\cH e.2.1 (l.map (·.2))/\n*e.2.1<=16777216)/\(if qV mt d=true/\G=none then oA H ⟨e.1,e.2.1,l.map (·.2)⟩ (TT K ρ d)else mE K ρ d G H (.sl (l.map (·.2)))):=by
 show cG ops ρ gd (fun G=>q=false/\pA G ρ l.toList fun l'=>nA P mt G ⟨d,.buildSlice t n l,ty,pos,aft,gd⟩ t n l' ρ H K)=_
 congr 1;funext G;congr 2;funext l;unfold nA;cases h1:bT P t <;> rfl
def Wl{t x y}:aop P C PC mt q ops ⟨d,.store t x y,ty,pos,aft,gd⟩ ρ H K=cG ops ρ gd fun G=>G=none/\q=false/\(if sF y=true then bR G (aev ρ x) fun x=>bM (bT P t) fun e=>oA H ⟨e.1,e.2.1,[]⟩ (fun j H=>V0 P d t x [.os j] ρ H K)else bR G (aev ρ x) fun x=>bR G (aev ρ y) fun y=>mB y fun cs=>V0 P d t x cs ρ H K):=by
 show cG ops ρ gd (fun G => G = none /\ q = false /\ (if sF y = true then bR G (aev ρ x) fun a => match bT P t with
       | some (e,sz,_)=>oA H ⟨e,sz,[]⟩ fun k H=>sR P _ t a [.os k] ρ H K
       | none=>False
     else bR G (aev ρ x) fun a=>bR G (aev ρ y) fun x=>mB x fun cs=>sR P _ t a cs ρ H K))=_
 congr 1;funext G;congr 4;funext a
 cases h1:bT P t <;> rfl
def YL:zX P C PC mt ops K [] ρ H=K ρ H:=(rfl)
def afS{k f}:zX P C PC mt ops K ((k,true)::f) ρ H=bM ops[k]? fun o=>aop P C PC mt true ops o ρ (qH o H) fun A _=>zX P C PC mt ops K f A H:=by cases h:ops[k]? <;> simp[zX,bM,h]
def aiD{k f}:zX P C PC mt ops K ((k,false)::f) ρ H=bM ops[k]? fun o=>aop P C PC mt false ops o ρ H (zX P C PC mt ops K f):=by cases h:ops[k]? <;> simp[zX,bM,h]
def V4{Hp}:uZ P C PC mt ops K Hp [] ρ H=K ρ H:=(rfl)
def adG{Hp k f}:uZ P C PC mt ops K Hp ((k,true)::f) ρ H=bM ops[k]? fun o=>aop P C PC mt true ops o ρ Hp fun A _=>uZ P C PC mt ops K Hp f A H:=by cases h:ops[k]? <;> simp[uZ,bM,h]
def aaG{Hp k f}:uZ P C PC mt ops K Hp ((k,false)::f) ρ H=bM ops[k]? fun o=>aop P C PC mt false ops o ρ H (uZ P C PC mt ops K Hp f):=by cases h:ops[k]? <;> simp[uZ,bM,h]
def agI{k}:AD P C PC mt q ops k ρ H K=bM ops[k]? fun o=>aop P C PC mt q ops o ρ H K:=by cases h:ops[k]? <;> simp[AD,bM,h]
def Wn{Hp}:kX P C PC mt ops K Hp .nil ρ H=K ρ H:=(rfl)
def aeH{Hp k t}:kX P C PC mt ops K Hp (.q k t) ρ H=AD P C PC mt true ops k ρ Hp fun A _=>kX P C PC mt ops K Hp t A H:=(rfl)
def acP{Hp k t}:kX P C PC mt ops K Hp (.a1 k t) ρ H=AD P C PC mt false ops k ρ H (kX P C PC mt ops K Hp t):=(rfl)
def jN{Hp k t k' t'}(h:AD P C PC mt false ops k ρ H (kX P C PC mt ops K Hp t))(A:AD P C PC mt false ops k' ρ H (kX P C PC mt ops K Hp t')):kX P C PC mt ops K Hp (.a2 k t k' t') ρ H:=⟨h,A⟩
def Ky{f cap}:aop P C PC mt q ops ⟨d,.makeFunc (.func f) #[] cap,ty,pos,aft,gd⟩ ρ H K=cG ops ρ gd fun G=>AM G ρ cap.toList fun l=>mE K ρ d G H (.fn f l):=by
 show cG ops ρ gd (fun G=>gP P G ρ H (.makeFunc (.func f) #[] cap) (mE K ρ d G H))=_
 congr 1;funext G;simp[gP]
def afL(K:Env->aH->Prop)(ρ:Env)(d:Option Tmp)(j:Nat)(H:aH):Prop:=K (upd ρ d (.om j)) H
def Na{j}:afL K ρ d j H=K (upd ρ d (.om j)) H:=(rfl)
def P1{t x i ok}:aop P C PC mt q ops ⟨d,.lookup t x i ok,ty,pos,aft,gd⟩ ρ H K=cG ops ρ gd fun G=>bR G (aev ρ x) fun x=>bR G (aev ρ i) fun i=>tF P H t x i ok (mE K ρ d G H):=(rfl)
def No{t}:aop P C PC mt q ops ⟨d,.makeMap t none,ty,pos,aft,gd⟩ ρ H K=cG ops ρ gd fun G=>G=none/\q=false/\oA H ⟨0,2,[]⟩ (afL K ρ d):=(rfl)
def JN(P:Program)(d:Option Tmp)(t:TypeId)(m x v:AV)(ρ:Env)(H:aH)(K:Env->aH->Prop):Prop:=lF P ⟨d,.move (.tmp 0),0,"",#[],none⟩ t m x v ρ H K
@[congr] theorem wmapU_c {P d t m m' x x' v v' ρ H K} (h0:m=m') (h1:x=x') (h2:v=v'):JN P d t m x v ρ H K=JN P d t m' x' v' ρ H K:=h0▸h1▸h2▸rfl
def Yv(P:Program)(d:Option Tmp)(t:TypeId)(m x:AV)(ρ:Env)(H:aH)(K:Env->aH->Prop):Prop:=Ao P ⟨d,.move (.tmp 0),0,"",#[],none⟩ t m x ρ H K
@[congr] theorem wmapE_c {P d t m m' x x' ρ H K} (h0:m=m') (h1:x=x'):Yv P d t m x ρ H K=Yv P d t m' x' ρ H K:=h0▸h1▸rfl
def Xq(d:Option Tmp)(m s v:AV)(ρ:Env)(H:aH)(K:Env->aH->Prop):Prop:=sS ⟨d,.move (.tmp 0),0,"",#[],none⟩ m s v ρ H K
@[congr] theorem wmapS_c {d m m' x x' v v' ρ H K} (h0:m=m') (h1:x=x') (h2:v=v'):Xq d m x v ρ H K=Xq d m' x' v' ρ H K:=h0▸h1▸h2▸rfl
@[congr] theorem alookup_c {P H t x x' i i' ok k} (h0:x=x') (h1:i=i'):tF P H t x i ok k=tF P H t x' i' ok k:=h0▸h1▸rfl
def HJ{t m x v}:aop P C PC mt q ops ⟨d,.mapUpdate t m x v,ty,pos,aft,gd⟩ ρ H K=cG ops ρ gd fun G=>G=none/\q=false/\bR G (aev ρ m) fun m=>bR G (aev ρ x) fun x=>bR G (aev ρ v) fun v=>JN P d t m x v ρ H K:=(rfl)
def RY{t m x v}:aop P C PC mt q ops ⟨d,.insert t m x v,ty,pos,aft,gd⟩ ρ H K=cG ops ρ gd fun G=>G=none/\q=false/\bR G (aev ρ m) fun m=>bR G (aev ρ x) fun x=>bR G (aev ρ v) fun v=>JN P d t m x v ρ H K:=(rfl)
def KA{t m x}:aop P C PC mt q ops ⟨d,.mapEntry t m x,ty,pos,aft,gd⟩ ρ H K=cG ops ρ gd fun G=>G=none/\q=false/\bR G (aev ρ m) fun m=>bR G (aev ρ x) fun x=>Yv P d t m x ρ H K:=(rfl)
def GV{t m s v}:aop P C PC mt q ops ⟨d,.entryStore t m s v,ty,pos,aft,gd⟩ ρ H K=cG ops ρ gd fun G=>G=none/\q=false/\bR G (aev ρ m) fun m=>bR G (aev ρ s) fun s=>bR G (aev ρ v) fun v=>Xq d m s v ρ H K:=(rfl)
def uX{t j key ok k r kt oi z}(E:H j=some r)(F:Rq P t=some kt)(A:mF P kt.1 key=true)(J:tA (pL P kt.1 key) r.es 0=some oi)(I:Is P kt.2=some z)(h:k (Fv ok z r.es oi)):tF P H t (.om j) key ok k:=by unfold tF DR;simp only[E,F,J,I];exact⟨A,h⟩
def Fj{t j key v r kt oi}(E:H j=some r)(F:Rq P t=some kt)(A:mF P kt.1 key=true)(I:tA (pL P kt.1 key) r.es 0=some oi)(h:K (upd ρ d .any) (aI H j (some { r with es:=V5 r.es oi key v }))):JN P d t (.om j) key v ρ H K:=by unfold JN lF DR;simp only[E,F,I];exact⟨A,h⟩
def Ic{t l c}:aop P C PC mt q ops ⟨d,.makeSlice t l c,ty,pos,aft,gd⟩ ρ H K=cG ops ρ gd fun G=>G=none/\q=false/\bR G (aev ρ l) fun l=>bR G (aev ρ c) fun c=>Oa P d t l c ρ H K:=(rfl)
def Wo{t args tys}:aop P C PC mt q ops ⟨d,.call ⟨.value (.tmp t),args,tys⟩,ty,pos,aft,gd⟩ ρ H K=cG ops ρ gd fun G=>bR G (ρ t) fun x=>bM (HT x) fun y=>if qV mt d=true then gt G/\q=false/\aG P y.1=true/\C y.1 (y.2.1++args.toList.map (Ls ρ)++y.2.2) H (MH K ρ d)else AM G ρ args.toList fun l=>aG P y.1=true/\(if G=none/\q=false then C y.1 (y.2.1++l++y.2.2) H (MH K ρ d)else ∃r,(gt G->PC y.1 (y.2.1++l++y.2.2) H r)/\nfq q r (mE K ρ d G H)):=by
 show cG ops ρ gd (fun G=>Cs P C PC (qV mt d) q G ⟨d,.call ⟨.value (.tmp t),args,tys⟩,ty,pos,aft,gd⟩ ⟨.value (.tmp t),args,tys⟩ ρ H K)=_
 congr 1;funext G
 simp only[Cs,aev]
 congr 1;funext x
 cases h:HT x with
 | none=>simp[bM]
 | some y=>obtain⟨a,b,c⟩:=y;rfl
def YW{f args tys}:aop P C PC mt q ops ⟨d,.call ⟨.value (.func f),args,tys⟩,ty,pos,aft,gd⟩ ρ H K=cG ops ρ gd fun G=>if qV mt d=true then gt G/\q=false/\aG P f=true/\C f (args.toList.map (Ls ρ)) H (MH K ρ d)else AM G ρ args.toList fun l=>aG P f=true/\(if G=none/\q=false then C f l H (MH K ρ d)else ∃r,(gt G->PC f l H r)/\nfq q r (mE K ρ d G H)):=by
 show cG ops ρ gd (fun G=>Cs P C PC (qV mt d) q G ⟨d,.call ⟨.value (.func f),args,tys⟩,ty,pos,aft,gd⟩ ⟨.value (.func f),args,tys⟩ ρ H K)=_
 congr 1;funext G
 simp only[Cs,aev,bR,HT,List.map_nil,List.nil_append,List.append_nil];rfl
def NW{t}:Ls ρ (.tmp t)=ρ t:=(rfl)
def Gz{v}:Ls ρ (.const v)=.v v:=(rfl)
def I4{f}:Ls ρ (.func f)=.v (.func (.func f) #[] #[]):=(rfl)
def adR{x t}:aop P C PC mt q ops ⟨d,.call ⟨.builtin .len,#[x],#[t]⟩,ty,pos,aft,gd⟩ ρ H K=cG ops ρ gd fun G=>bR G (aev ρ x) fun x=>GG P H t x (mE K ρ d G H):=(rfl)
def abS{x y t t'}:aop P C PC mt q ops ⟨d,.call ⟨.builtin .max,#[x,y],#[t,t']⟩,ty,pos,aft,gd⟩ ρ H K=cG ops ρ gd fun G=>bR G (aev ρ x) fun x=>bR G (aev ρ y) fun y=>Pd x y (mE K ρ d G H):=(rfl)
def abG{x y t t'}:aop P C PC mt q ops ⟨d,.call ⟨.builtin .min,#[x,y],#[t,t']⟩,ty,pos,aft,gd⟩ ρ H K=cG ops ρ gd fun G=>bR G (aev ρ x) fun x=>bR G (aev ρ y) fun y=>QA x y (mE K ρ d G H):=(rfl)
def ZE{n m a b}{k:AV->Prop}:Pd (.v (.int n a)) (.v (.int m b)) k=k (.v (.int n (lC a b))):=(rfl)
def Y1{n m a b}{k:AV->Prop}:QA (.v (.int n a)) (.v (.int m b)) k=k (.v (.int n (adU a b))):=(rfl)
def YA{x y t t'}:aop P C PC mt q ops ⟨d,.call ⟨.builtin .copy,#[x,y],#[t,t']⟩,ty,pos,aft,gd⟩ ρ H K=cG ops ρ gd fun G=>bR G (aev ρ x) fun x=>bR G (aev ρ y) fun y=>if G=none/\q=false then MQ P d t x y ρ H K else False:=(rfl)
def V7{x t}:aop P C PC mt q ops ⟨d,.call ⟨.builtin .clear,#[x],#[t]⟩,ty,pos,aft,gd⟩ ρ H K=cG ops ρ gd fun G=>bR G (aev ρ x) fun x=>if G=none/\q=false then Rh P d t x ρ H K else False:=(rfl)
def ZW{G:Option Bool}{k:AV->Prop}{t es lo hi}:asl P G H t (.sl es) lo hi k=lY P G t (.sl es) lo hi k:=(rfl)
def afE{G:Option Bool}{k:AV->Prop}{t v lo hi}:asl P G H t (.v v) lo hi k=lY P G t (.v v) lo hi k:=(rfl)
def aeO{G:Option Bool}{k:AV->Prop}{t j n a}:asl P G H t (.os j) (some (.v (.int n a))) none k=bM (H j) fun r=>bM (bT P t) fun e=>(gt G->(0<=a/\a<=r.es.length)/\r.sz=e.2.1)/\k (.oz j a.toNat r.es.length):=by cases h1:H j <;> cases A:bT P t <;> simp[asl,bM,h1,A]
def SD{G:Option Bool}{k:AV->Prop}{t j a b n l}:asl P G H t (.oz j a b) (some (.v (.int n l))) none k=bM (H j) fun r=>bM (bT P t) fun e=>(gt G->(0<=l/\l<=(b-a:Nat))/\r.sz=e.2.1)/\k (.oz j (a+l.toNat) b):=by cases h1:H j <;> cases A:bT P t <;> simp[asl,bM,h1,A]
def Nf{k:AV->Prop}{es}:pX .eql (.sl es) k=((es=[]->k (.v (.bool true)))/\k (.v (.bool false))):=(rfl)
def NF{k:AV->Prop}{es}:pX .neq (.sl es) k=((es=[]->k (.v (.bool false)))/\k (.v (.bool true))):=(rfl)
def I7{k:AV->Prop}{j}:pX .eql (.os j) k=(k (.v (.bool true))/\k (.v (.bool false))):=(rfl)
def Je{k:AV->Prop}:pX .eql (.v (.slice none 0 0)) k=k (.v (.bool true)):=(rfl)
def IL{k:AV->Prop}:pX .neq (.v (.slice none 0 0)) k=k (.v (.bool false)):=(rfl)
def I8{k:AV->Prop}{j}:pX .neq (.os j) k=(k (.v (.bool false))/\k (.v (.bool true))):=(rfl)
def Sx{s x t t'}:aop P C PC mt q ops ⟨d,.call ⟨.builtin .append,#[s,x],#[t,t']⟩,ty,pos,aft,gd⟩ ρ H K=cG ops ρ gd fun G=>bR G (aev ρ s) fun s=>bR G (aev ρ x) fun x=>if t=t'/\G=none/\q=false then Gv P d t s x ρ H K else False:=(rfl)
end
section
variable{P:Program}{d:Option Tmp}{ρ:Env}{H:aH}{K:Env->aH->Prop}
def TY{t n a m b}:Oa P d t (.v (.int n a)) (.v (.int m b)) ρ H K=bM (bT P t) fun e=>bM (cV P e.1) fun z=>((0<=a/\a<=b)/\(e.2.2:Int)*b<=140737488355328)/\oA H ⟨e.1,e.2.1,List.replicate a.toNat z⟩ (TT K ρ d):=by
 unfold Oa sA;cases h1:bT P t with
 | none=>simp[bM]
 | some e=>obtain⟨x,y,z⟩:=e;cases A:cV P x <;> simp[bM,A] <;> intros <;> rfl
def afW{f first captured}:HT (.v (.func (.func f) first captured))=some (f,first.toList.map .v,captured.toList.map .v):=(rfl)
def aeY{q x}{k:AV->Prop}:nfq q (.v x) k=k (.v x):=by cases q <;> rfl
def Ta{q x}{k:AV->Prop}:nfq q (.agg x) k=k (.agg x):=by cases q <;> rfl
def SC{q x}{k:AV->Prop}:nfq q (.tup x) k=k (.tup x):=by cases q <;> rfl
def ZP{x}{k:AV->Prop}:nfq false (.nf x) k=k x:=(rfl)
def acB{f l}:HT (.fn f l)=some (f,[],l):=(rfl)
end
attribute [go_sem ↓] Ii Jp
attribute [go_sem] Ii Jp
@[congr] theorem asl_c {P G H t x x' lo lo' hi hi' k} (h:x=x') (h1:lo=lo') (h2:hi=hi'):asl P G H t x lo hi k=asl P G H t x' lo' hi' k:=h▸h1▸h2▸rfl
@[congr] theorem aeqNil_c {op x x' k} (h:x=x'):pX op x k=pX op x' k:=h▸rfl
def KR{α:Type}{a:α}{l r:List α}:List.append (a::l) r=a::List.append l r:=(rfl)
def Oz{α:Type}{r:List α}:List.append [] r=r:=(rfl)
attribute [go_sem] KR Oz
attribute [go_sem] qH
@[congr] theorem amax_c {x x' y y' K} (h:x=x') (h':y=y'):Pd x y K=Pd x' y' K:=h▸h'▸rfl
@[congr] theorem amin_c {x x' y y' K} (h:x=x') (h':y=y'):QA x y K=QA x' y' K:=h▸h'▸rfl
attribute [go_sem ↓] abS abG ZE Y1
attribute [go_sem] ZE Y1
@[congr] theorem pinEnd_c {l l' H K ρ H'} (h:l=l'):oR l H K ρ H'=oR l' H K ρ H':=h▸rfl
attribute [go_sem] IU List.set_cons_zero List.set_cons_succ
attribute [go_sem ↓] Wn aeH acP agI
attribute [go_sem ↓] V4 adG aaG
attribute [go_sem ↓] YL afS aiD YA V7 ZW afE aeO Nf NF I7 I8 Je IL
attribute [go_sem ↓] SD Tj A0
attribute [go_sem] SD Tj A0
attribute [go_sem] ZW afE aeO Nf NF I7 I8 Je IL
attribute [go_sem ↓] aeY Ta SC ZP
attribute [go_sem ↓] P1 No HJ RY KA GV SZ Na
attribute [go_sem] SZ Na
attribute [go_sem] aeY Ta SC ZP
attribute [go_sem ↓] Ky Ic Wo TY Nt N3 Og T8 Eb TS Ud TF Mu MB
attribute [go_sem] TY Nt N3 Og T8 Eb TS Ud TF Mu afW acB
attribute [go_sem] Th aeW
@[congr] theorem ownNils_c {l l' z z' H K} (h:l=l') (h':z=z'):jC l z H K=jC l' z' H K:=h▸h'▸rfl
def Mh{z H K}:jC [] z H K=K z H:=(rfl)
def Kx{o e sz r z H K}:jC ((o,e,sz)::r) z H K=oA H ⟨e,sz,[]⟩ fun k H'=>jC r (z.set o (.os k)) H' K:=(rfl)
attribute [go_sem ↓] Mh Kx
attribute [go_sem ↓] WD FZ Me Tv Mw I6 IE UQ L0 Zt acA Z0 VQ QC Zd aeK Pl SN MO UD
attribute [go_sem ↓] AM pA Yq Xe VR Xj KO aaQ ahT Zr K5 Mk MG HE HH Vf L1 Q2 VS aeL FS Wl YW adR Sx
attribute [go_sem ↓] SF Tt T2 MJ Tp Nj Ns OB LT LI LR M3 NO NX ML NB Il Ij Jd JI Jb IT L3 LM OK SO TI Ie IZ IJ IH TJ TW To Sy SW AP AX A1 AH AR AZ SM TN Jo I2 MT I9 MX L2 Gp JJ Iw JF Ji FK NS Jx Jr Iu Iy JP aeP aeU DX Ez ZX NH T5 T3 N0 Mi Tn Ub Tf Fk JQ IC Ni LO Nl SH Js MM NW Gz I4
attribute [go_sem] PS SF Tt T2 MJ Tp Nj Ns OB LT LI LR M3 NO NX ML NB Il Ij Jd JI Jb IT L3 LM OK SO TI Ie IZ IJ IH TJ TW To Sy SW AP AX A1 AH AR AZ SM TN Jo I2 MT I9 MX L2 Gp JJ Iw JF Ji FK NS Jx Jr Iu Iy JP aeP aeU DX Ez ZX NH T5 T3 N0 Mi Tn Ub Tf Fk JQ IC Ni LO Nl SH Js MM NW Gz I4
attribute [go_sem] aiB Z5 qV sF pQ ES gt gok wr uI iF Nm Value.oneCell' JY cH uH Option.map_some qC lV aB
attribute [go_sem] Bool.false_eq_true if_false if_true reduceCtorEq true_and and_true false_and and_false false_implies true_implies implies_true forall_const and_self imp_self ne_eq not_true_eq_false not_false_eq_true
attribute [go_sem] List.getD_cons_zero List.getD_cons_succ List.getD_nil List.length_cons List.length_nil List.drop_zero List.drop_succ_cons List.take_succ_cons List.take_zero Option.getD_some Option.getD_none Nat.zero_add Nat.add_zero List.map_cons List.map_nil List.cons_append List.nil_append List.append_nil
attribute [go_sem] Option.bind_some List.getElem?_toArray List.getElem?_cons_zero List.getElem?_cons_succ
attribute [go_sem ↓] reduceIte
attribute [go_sem] Nat.reduceEqDiff Nat.reduceAdd Nat.reduceMul Nat.reduceSub Nat.reduceLT Nat.reduceLeDiff Nat.reduceBEq
end Go.Aw
