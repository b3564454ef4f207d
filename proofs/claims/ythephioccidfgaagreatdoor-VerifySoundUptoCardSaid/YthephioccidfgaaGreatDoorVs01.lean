import Derived.StillTail
import Derived.WalkKit
import Derived.Deep.Quiet
import Derived.Deep.QuietTactic
import Derived.Maps.AppendAt
import Derived.Laws.BytesArg
set_option linter.unusedSimpArgs false
set_option linter.unusedVariables false
set_option linter.defProp false
set_option maxRecDepth 100000
section
namespace Go.Aw
open Go.RowKit
inductive AV where
 | v (x:Value)
 | any
 | sl (es:List (List AV))
 | rp (cs:List AV) (off:Nat)
 | agg (cs:List AV)
 | tup (vs:List AV)
 | os (k:Nat)
 | op (k i f:Nat)
 | gd (g:Bool) (x:AV)
 | fn (f:FuncId) (cap:List AV)
 | oz (k a b:Nat)
 | nf (x:AV)
 | om (k:Nat)
 | cl (es:List (List AV))
 deriving Inhabited
structure Row where
 e:TypeId
 sz:Nat
 es:List (List AV)
abbrev Env:=Nat->AV
abbrev aG:=Nat->Option Row
inductive Ex where
 | normal
 | exit (id:Nat)
 | ret
def upd(ρ:Env)(d:Option Nat)(x:AV):Env:=
 match d with
 | some d=>fun t=>if t=d then x else ρ t
 | none=>ρ
def aH(H:aG)(k:Nat)(r:Option Row):aG:=fun j=>if j=k then r else H j
def aAq(ρ:Env)(d:Nat)(x:AV)(t:Nat):upd ρ (some d) x t=if t=d then x else ρ t:=rfl
def apL(ρ:Env)(x:AV):upd ρ none x=ρ:=rfl
theorem aB(H:aG)(k:Nat)(r:Option Row):aH H k r k=r:=by simp[aH]
theorem aD(H:aG)(k:Nat)(r:Option Row)(j:Nat)(h:j≠k):aH H k r j=H j:=by simp[aH,h]
def ldT(P:Program)(t:TypeId):Option (Option Nat):=
 match P.underlying t,P.info? t with
 | some (.struct _),some i=>some (some i.size)
 | some (.array _ _),some i=>some (some i.size)
 | some _,some _=>some none
 | _,_=>none
def aK(P:Program)(t:TypeId)(f:Nat):Option (Nat×Option Nat):=
 match P.underlying t with
 | some (.struct fs)=>match fs[f]? with
   | some fd=>match P.info? fd.type with
     | some i=>if i.size=0 then none else(ldT P fd.type).map fun l=>(fd.offset,l)
     | none=>none
   | none=>none
 | _=>none
def cA(P:Program)(t:TypeId):Option (TypeId×Nat×Nat):=
 match P.underlying t with
 | some (.slice e)=>match P.info? e with
   | some i=>if i.size=0\/i.bytes=0\/i.zero.map (·.cells.size)≠some i.size then none else some (e,i.size,i.bytes)
   | none=>none
 | _=>none
def IL(P:Program)(t:TypeId):Option (Nat×Nat×Option Nat):=
 match P.underlying t with
 | some (.array n e)=>match P.info? e with
   | some i=>if i.size=0 then none else(ldT P e).map fun l=>(n,i.size,l)
   | none=>none
 | _=>none
def tK:Value->AV
 | .slice none 0 0=>.sl []
 | x=>.v x
def dH(P:Program)(t:TypeId):Option (List AV):=
 match P.info? t with
 | some i=>match i.zero with
   | some z=>if z.cells.size=i.size/\i.size≠0/\z.cells.toList.all (·.oneCell')=true then some (z.cells.toList.map tK)else none
   | none=>none
 | none=>none
def Pq(P:Program):Nat->TypeId->Nat->List (Nat×TypeId×Nat)
 | 0,_,_=>[]
 | n+1,t,o=>match P.underlying t with
   | some (.slice _)=>match cA P t with
     | some (e,sz,_)=>[(o,e,sz)]
     | none=>[]
   | some (.struct fs)=>fs.toList.flatMap fun f=>Pq P n f.type (o+f.offset)
   | some (.array m e)=>(List.range m).flatMap fun j=>Pq P n e (o+j*((P.info? e).map (·.size)).getD 0)
   | _=>[]
def aqS:Option Value->Bool
 | some (.slice none 0 0)=>true
 | _=>false
def uO(P:Program)(t:TypeId):Option (List (Nat×TypeId×Nat)):=
 match P.info? t with
 | some i=>match i.zero with
   | some z=>if(Pq P 8 t 0).all (fun x=>aqS z.cells.toList[x.1]?&&decide (0<x.2.2))=true then some (Pq P 8 t 0)else none
   | none=>none
 | none=>none
def dP(P:Program)(t:TypeId):Option (List (Nat×Nat)):=
 match P.underlying t with
 | some (.struct fs)=>fs.toList.mapM fun f=>(P.info? f.type).map fun i=>(f.offset,i.size)
 | some (.array n e)=>(P.info? e).map fun i=>(List.range n).map fun j=>(j*i.size,i.size)
 | _=>none
def eO(P:Program)(t:TypeId):Bool:=match P.underlying t with|some .string=>true|_=>false
def cJ(P:Program)(t:TypeId):Bool:=match P.underlying t with|some (.slice _)=>true|_=>false
def CN(P:Program)(t:TypeId):Bool:=match P.underlying t with|some .bool=>true|_=>false
def Wo(P:Program)(t:TypeId):Bool:=match P.underlying t with|some (.pointer _)=>true|_=>false
def Vl:AV->Option Bool
 | .v (.pointer none)=>some true
 | .rp ..=>some false
 | .op ..=>some false
 | _=>none
def aev(ρ:Env):Operand->AV
 | .tmp t=>ρ t
 | .const v=>tK v
 | .global _=>.any
 | .func f=>.v (.func (.func f) #[] #[])
def Pc(ρ:Env):Operand->AV
 | .const v=>.v v
 | x=>aev ρ x
def gt:Option Bool->Prop
 | none=>True
 | some b=>b=true
def gok:Option Bool->Bool->Prop
 | none,g=>g=true
 | some b,g=>b=true->g=true
def wr:Option Bool->AV->AV
 | none,x=>x
 | some b,x=>.gd b x
def bU(G:Option Bool)(x:AV)(k:AV->Prop):Prop:=
 match x with
 | .gd g y=>gok G g/\k y
 | x=>k x
def oQ(x:AV)(K:List AV->Prop):Prop:=
 match x with
 | .agg cs=>K cs
 | .v y=>y.oneCell'=true/\K [.v y]
 | .sl es=>K [.sl es]
 | .rp cs o=>K [.rp cs o]
 | .os k=>K [.os k]
 | .op k i f=>K [.op k i f]
 | _=>False
def xJ(P:Program)(t:TypeId):Option Nat:=match P.underlying t with|some (.int _)=>some 0|some .string=>some 1|some .bool=>some 2|_=>none
def Al(c:Nat)(x y:AV):Option Bool:=
 match c,x,y with
 | 0,.v (.int k a),.v (.int k' b)=>if k=k' then some (a == b)else none
 | 1,.v (.string a),.v (.string b)=>some (a.toList == b.toList)
 | 2,.v (.bool a),.v (.bool b)=>some (a == b)
 | _,_,_=>none
def TY:Option Bool->Option Bool->Option Bool
 | some a,some b=>some (a&&b)
 | _,_=>none
def kT:List Nat->List AV->List AV->Option Bool
 | [],[],[]=>some true
 | c::l,x::r,y::s=>TY (Al c x y) (kT l r s)
 | _,_,_=>none
def sY(P:Program):Nat->List Field->Option (List Nat)
 | _,[]=>some []
 | o,f::r=>if f.name != "_" && f.offset == o&&(P.info? f.type).isSome then match xJ P f.type,sY P (o+1) r with
   | some c,some l=>some (c::l)
   | _,_=>none
   else none
def EW(P:Program)(t:TypeId):Option (List Nat):=
 match P.underlying t with
 | some (.struct fs)=>if P.stoodInHeld t=false/\P.eqGuardType P.depth t=false then sY P 0 fs.toList else none
 | some (.array n e)=>if(P.info? e).map (·.size)=some 1/\P.eqGuardType P.depth t=false then(xJ P e).map (List.replicate n)else none
 | _=>none
def Di:BinOp->Bool
 | .shl=>true
 | .shr=>true
 | _=>false
def shV(op:BinOp)(k:IntKind)(a b:Int):Int:=match op with
 | .shl=>k.wrap (a*2^min b.toNat k.bits)
 | _=>a.fdiv (2^min b.toNat k.bits)
def sI(op:BinOp)(k:IntKind)(a b:Int):Int:=match op with
 | .and=>k.wrap ((BitVec.ofInt k.bits a &&& BitVec.ofInt k.bits b).toNat:Nat)
 | .or=>k.wrap ((BitVec.ofInt k.bits a ||| BitVec.ofInt k.bits b).toNat:Nat)
 | .xor=>k.wrap ((BitVec.ofInt k.bits a ^^^ BitVec.ofInt k.bits b).toNat:Nat)
 | _=>k.wrap ((BitVec.ofInt k.bits a &&& ~~~(BitVec.ofInt k.bits b)).toNat:Nat)
def kE(P:Program)(G:Option Bool)(op:BinOp)(t:TypeId)(x y:AV)(K:AV->Prop):Prop:=
 match x,y with
 | .v (.int k a),.v (.int k' b)=>
   if Di op=true then(gt G->0<=b)/\K (.v (.int k (shV op k a b)))
   else if k=k' then
     match op with
     | .and=>K (.v (.int k (sI .and k a b)))
     | .or=>K (.v (.int k (sI .or k a b)))
     | .xor=>K (.v (.int k (sI .xor k a b)))
     | .andNot=>K (.v (.int k (sI .andNot k a b)))
     | .add=>K (.v (.int k (k.wrap (a+b))))
     | .sub=>K (.v (.int k (k.wrap (a-b))))
     | .mul=>K (.v (.int k (k.wrap (a*b))))
     | .quo=>(gt G->b≠0)/\K (.v (.int k (k.wrap (a.tdiv b))))
     | .rem=>(gt G->b≠0)/\K (.v (.int k (a.tmod b)))
     | .eql=>K (.v (.bool (a == b)))
     | .neq=>K (.v (.bool (a != b)))
     | .lss=>K (.v (.bool (decide (a<b))))
     | .leq=>K (.v (.bool (decide (a<=b))))
     | .gtr=>K (.v (.bool (decide (a>b))))
     | .geq=>K (.v (.bool (decide (a>=b))))
     | _=>False
   else False
 | .v (.string a),.v (.string b)=>
   match op with
   | .add=>(gt G->((a.size+b.size:Nat):Int)<=IntKind.i64.max)/\K (.v (.string (a++b)))
   | .eql=>K (.v (.bool (a.toList == b.toList)))
   | .neq=>K (.v (.bool !(a.toList == b.toList)))
   | .lss=>K (.v (.bool (Op.bytesLess a.toList b.toList)))
   | _=>False
 | .v (.bool a),.v (.bool b)=>
   if CN P t then
     match op with
     | .eql=>K (.v (.bool (a == b)))
     | .neq=>K (.v (.bool !(a == b)))
     | _=>False
   else False
 | .agg xs,.agg ys=>match EW P t with
   | some l=>match kT l xs ys with
     | some b=>match op with
       | .eql=>K (.v (.bool b))
       | .neq=>K (.v (.bool !b))
       | _=>False
     | none=>False
   | none=>False
 | x,.v (.pointer none)=>match Vl x with
   | some b => if Wo P t then
       match op with
       | .eql=>K (.v (.bool b))
       | .neq=>K (.v (.bool !b))
       | _=>False
     else False
   | none=>(gt G->False)/\K .any
 | _,_=>(gt G->False)/\K .any
def Vk(P:Program)(t:TypeId):Option (TypeId×TypeId):=match P.underlying t with|some (.map k e)=>some (k,e)|_=>none
def Oq(P:Program)(t:TypeId):Option AV:=
 match P.info? t with
 | some i=>match i.zero with
   | some (.agg cs)=>if cs.toList.all (·.oneCell')=true then some (.agg (cs.toList.map tK))else none
   | some v=>if v.oneCell'=true then some (tK v)else none
   | none=>none
 | none=>none
def wI(P:Program)(kt:TypeId)(x y:AV):Option Bool:=
 match x,y with
 | .v a,.v b=>match xJ P kt with
   | some c=>Al c (.v a) (.v b)
   | none=>none
 | _,_=>none
def rS(P:Program)(kt:TypeId):AV->Bool
 | .v (.int _ _)=>xJ P kt == some 0
 | .v (.string _)=>xJ P kt == some 1
 | .v (.bool _)=>xJ P kt == some 2
 | _=>false
def xY(eq:AV->Option Bool):List (List AV)->Nat->Option (Option Nat)
 | [],_=>some none
 | e::r,i=>match eq (e.getD 0 .any)with
   | some true=>some (some i)
   | some false=>xY eq r (i+1)
   | none=>none
def Pi(ok:Bool)(z:AV)(es:List (List AV))(oi:Option Nat):AV:=
 match oi with
 | some i=>if ok=true then .tup [(es.getD i []).getD 1 .any,.v (.bool true)]else(es.getD i []).getD 1 .any
 | none=>if ok=true then .tup [z,.v (.bool false)]else z
def adC(es:List (List AV))(oi:Option Nat)(k v:AV):List (List AV):=
 match oi with
 | some i=>es.set i [k,v]
 | none=>es++[[k,v]]
def Ia(P:Program)(H:aG)(t:TypeId)(x key:AV)(K:Nat->Row->TypeId×TypeId->Option Nat->Prop):Prop:=
 match x with
 | .om j=>match H j,Vk P t with
   | some r,some kt=>match xY (wI P kt.1 key) r.es 0 with
     | some oi=>rS P kt.1 key=true/\K j r kt oi
     | none=>False
   | _,_=>False
 | _=>False
def xM(P:Program)(H:aG)(t:TypeId)(x key:AV)(ok:Bool)(K:AV->Prop):Prop:=
 Ia P H t x key fun _ r kt oi=>match Oq P kt.2 with
   | some z=>K (Pi ok z r.es oi)
   | none=>False
def Bg(c:Bool):AV->AV->AV
 | .v (.bool true),.v (.bool b)=>.v (.bool (c||b))
 | .v (.bool a),.v (.bool false)=>.v (.bool (c&&a))
 | .v (.bool a),.v (.bool b)=>.v (.bool (bif c then a else b))
 | x,y=>bif c then x else y
def DC(G:Option Bool)(c:Bool)(x y:AV)(K:AV->Prop):Prop:=
 match x,y with
 | .gd g x,.gd g' y=>(gt G->c=true->g=true)/\(gt G->c=false->g'=true)/\K (Bg c x y)
 | .gd g x,y=>(gt G->c=true->g=true)/\K (Bg c x y)
 | x,.gd g' y=>(gt G->c=false->g'=true)/\K (Bg c x y)
 | x,y=>K (Bg c x y)
def rM(G:Option Bool)(H:aG)(l:Option Nat)(x:AV)(K:AV->Prop):Prop:=
 match x with
 | .rp cs off=>match l with
   | none=>(gt G->off<cs.length)/\K (cs.getD off .any)
   | some n=>(gt G->off+n<=cs.length)/\K (.agg ((cs.drop off).take n))
 | .op k i f=>match H k with
   | some r=>match l with
     | none=>(gt G->i<r.es.length/\f<r.sz)/\K ((r.es.getD i []).getD f .any)
     | some n=>(gt G->i<r.es.length/\f+n<=r.sz)/\K (.agg (((r.es.getD i []).drop f).take n))
   | none=>False
 | _=>False
def apart(G:Option Bool)(off:Nat)(l:Option Nat)(x:AV)(K:AV->Prop):Prop:=
 match x with
 | .agg cs=>match l with
   | none=>(gt G->off<cs.length)/\K (cs.getD off .any)
   | some n=>(gt G->off+n<=cs.length)/\K (.agg ((cs.drop off).take n))
 | _=>False
def JO(P:Program)(H:aG)(t:TypeId)(x:AV)(K:AV->Prop):Prop:=
 match x with
 | .sl es=>if cJ P t then K (.v (.int .i64 es.length))else False
 | .os k=>match H k with
   | some r=>if cJ P t then K (.v (.int .i64 r.es.length))else False
   | none=>False
 | .oz _ a b=>if cJ P t then K (.v (.int .i64 (b-a:Nat)))else False
 | .v (.string s)=>if eO P t then K (.v (.int .i64 s.size))else False
 | _=>False
def eF(a b:Int):Int:=if b>a then b else a
def azZ(a b:Int):Int:=if b<a then b else a
def X0(x y:AV)(K:AV->Prop):Prop:=
 match x,y with
 | .v (.int k a),.v (.int _ b)=>K (.v (.int k (eF a b)))
 | _,_=>False
def Xo(x y:AV)(K:AV->Prop):Prop:=
 match x,y with
 | .v (.int k a),.v (.int _ b)=>K (.v (.int k (azZ a b)))
 | _,_=>False
def fJ(P:Program)(G:Option Bool)(H:aG)(t:TypeId)(x i:AV)(K:AV->Prop):Prop:=
 match x,i with
 | .sl es,.v (.int _ n)=>match cA P t with
   | some (_,sz,_)=>(gt G->(0<=n/\n<es.length)/\(es.getD n.toNat []).length=sz)/\K (.rp (es.getD n.toNat []) 0)
   | none=>False
 | .os k,.v (.int _ n)=>match H k,cA P t with
   | some r,some (_,sz,_)=>(gt G->(0<=n/\n<r.es.length)/\r.sz=sz)/\K (.op k n.toNat 0)
   | _,_=>False
 | .oz k a b,.v (.int _ n)=>match H k,cA P t with
   | some r,some (_,sz,_)=>(gt G->(0<=n/\n<(b-a:Nat))/\r.sz=sz)/\K (.op k (a+n.toNat) 0)
   | _,_=>False
 | .rp cs off,.v (.int _ n)=>match IL P t with
   | some (m,s,_)=>(gt G->0<=n/\n<m)/\K (.rp cs (off+n.toNat*s))
   | none=>False
 | .op k j f,.v (.int _ n)=>match IL P t with
   | some (m,s,_)=>(gt G->0<=n/\n<m)/\K (.op k j (f+n.toNat*s))
   | none=>False
 | _,_=>False
def kX(P:Program)(t:TypeId)(f:Nat)(x:AV)(K:AV->Prop):Prop:=
 match x with
 | .rp cs off=>match aK P t f with
   | some (o,_)=>K (.rp cs (off+o))
   | none=>False
 | .op k i g=>match aK P t f with
   | some (o,_)=>K (.op k i (g+o))
   | none=>False
 | _=>False
def wB(places:List (Nat×Nat)):List AV->List (Nat×List AV)->Option (List AV)
 | cs,[]=>some cs
 | cs,(i,x)::rest=>match places[i]? with
   | some (off,n)=>if x.length=n/\off+n<=cs.length then wB places (cs.take off++x++cs.drop (off+n)) rest else none
   | none=>none
def sM(G:Option Bool)(ρ:Env):List (Nat×Operand)->(List (Nat×List AV)->Prop)->Prop
 | [],K=>K []
 | (i,x)::rest,K=>bU G (aev ρ x) fun y=>oQ y fun cs=>sM G ρ rest fun l=>K ((i,cs)::l)
def DE(G:Option Bool)(ρ:Env):List Operand->(List AV->Prop)->Prop
 | [],K=>K []
 | x::rest,K=>bU G (aev ρ x) fun y=>DE G ρ rest fun l=>K (y::l)
def BW(P:Program)(t:TypeId)(parts:List (Nat×List AV))(K:AV->Prop):Prop:=
 match dH P t,dP P t with
 | some z,some pl=>match wB pl z parts with
   | some cs=>K (.agg cs)
   | none=>False
 | _,_=>False
def Qk:Nat->Nat->List Nat
 | _,0=>[]
 | i,n+1=>i::Qk (i+1) n
def cQ(n:Nat):List (List AV)->Prop
 | []=>True
 | cs::r=>cs.length=n/\cQ n r
def oS(P:Program)(G:Option Bool)(t:TypeId)(x:AV)(lo hi:Option AV)(K:AV->Prop):Prop:=
 match x,lo,hi with
 | .sl es,some (.v (.int _ a)),some (.v (.int _ b))=>match cA P t with
   | some (_,sz,_)=>(gt G->(0<=a/\a<=b/\b<=es.length)/\cQ sz es)/\K (.sl ((es.take b.toNat).drop a.toNat))
   | none=>False
 | .sl es,some (.v (.int _ a)),none=>match cA P t with
   | some (_,sz,_)=>(gt G->(0<=a/\a<=es.length)/\cQ sz es)/\K (.sl (es.drop a.toNat))
   | none=>False
 | .sl es,none,some (.v (.int _ b))=>match cA P t with
   | some _=>(gt G->0<=b/\b<=es.length)/\K (.sl (es.take b.toNat))
   | none=>False
 | .v (.string s),some (.v (.int _ a)),some (.v (.int _ b))=>
   if eO P t then(gt G->0<=a/\a<=b/\b<=s.size)/\K (.v (.string (s.extract a.toNat b.toNat)))else False
 | .v (.string s),some (.v (.int _ a)),none=>
   if eO P t then(gt G->0<=a/\a<=s.size)/\K (.v (.string (s.extract a.toNat s.size)))else False
 | .v (.string s),none,some (.v (.int _ b))=>
   if eO P t then(gt G->0<=b/\b<=s.size)/\K (.v (.string (s.extract 0 b.toNat)))else False
 | _,_,_=>False
def asl(P:Program)(G:Option Bool)(H:aG)(t:TypeId)(x:AV)(lo hi:Option AV)(K:AV->Prop):Prop:=
 match x with
 | .os k=>match H k,cA P t with
   | some r,some (_,sz,_)=>match lo,hi with
     | some (.v (.int _ a)),some (.v (.int _ b))=>(gt G->(0<=a/\a<=b/\b<=r.es.length)/\r.sz=sz)/\K (.oz k a.toNat b.toNat)
     | some (.v (.int _ a)),none=>(gt G->(0<=a/\a<=r.es.length)/\r.sz=sz)/\K (.oz k a.toNat r.es.length)
     | none,some (.v (.int _ b))=>(gt G->(0<=b/\b<=r.es.length)/\r.sz=sz)/\K (.oz k 0 b.toNat)
     | _,_=>False
   | _,_=>False
 | .oz k a b=>match H k,cA P t with
   | some r,some (_,sz,_)=>match lo,hi with
     | some (.v (.int _ l)),none=>(gt G->(0<=l/\l<=(b-a:Nat))/\r.sz=sz)/\K (.oz k (a+l.toNat) b)
     | _,_=>False
   | _,_=>False
 | x=>oS P G t x lo hi K
def HJ(P:Program)(G:Option Bool)(t:TypeId)(x a b:AV)(K:AV->Prop):Prop:=
 match x,a,b with
 | .sl es,.v (.int _ a),.v (.int _ b)=>match cA P t with
   | some _=>(gt G->a=es.length/\b=es.length)/\K (.cl es)
   | none=>False
 | _,_,_=>False
def AL(P:Program)(G:Option Bool)(t:TypeId)(x i:AV)(K:AV->Prop):Prop:=
 match x,i with
 | .v (.string s),.v (.int _ n)=>
   if eO P t then(gt G->0<=n/\n<s.size)/\K (.v (.int .u8 ((s.data.getD n.toNat 0).toNat:Int)))else False
 | .agg cs,.v (.int _ n)=>match IL P t with
   | some (m,s,l)=>(gt G->0<=n/\n<m)/\apart G (n.toNat*s) l (.agg cs) K
   | none=>False
 | _,_=>False
def aun(op:UnOp)(x:AV)(K:AV->Prop):Prop:=
 match op,x with
 | .not,.v (.bool b)=>K (.v (.bool !b))
 | .neg,.v (.int k n)=>K (.v (.int k (k.wrap (0-n))))
 | _,_=>False
def Bd:List (List AV)->Option (List Int)
 | []=>some []
 | [.v (.int .u8 n)]::r=>(Bd r).map (n::·)
 | _=>none
def Kv(P:Program)(t:TypeId):Bool:=
 match P.underlying t with
 | some (.slice e)=>match P.underlying e with
   | some (.int .u8)=>true
   | _=>false
 | _=>false
def LZ(P:Program)(t:TypeId):Option IntKind:=match P.underlying t with|some (.int k)=>some k|_=>none
def B0(P:Program)(src dst:TypeId)(x:AV)(K:AV->Prop):Prop:=
 match x with
 | .v (.int _ n)=>match LZ P dst,LZ P src with
   | some k,some _=>K (.v (.int k (k.wrap n)))
   | _,_=>False
 | .v (.string s)=>if eO P src/\eO P dst then K (.v (.string s))else False
 | .sl es => if Kv P src /\ eO P dst then
     match Bd es with
     | some ns=>K (.v (.string (strOfNums ns)))
     | none=>False
   else False
 | _=>False
def vS:Operand->Bool
 | .const (.slice none 0 0)=>true
 | _=>false
def uI(op:BinOp)(x:AV)(K:AV->Prop):Prop:=
 match op,x with
 | .eql,.sl es=>(es=[]->K (.v (.bool true)))/\K (.v (.bool false))
 | .neq,.sl es=>(es=[]->K (.v (.bool false)))/\K (.v (.bool true))
 | .eql,.os _=>K (.v (.bool true))/\K (.v (.bool false))
 | .neq,.os _=>K (.v (.bool false))/\K (.v (.bool true))
 | .eql,.v (.slice none 0 0)=>K (.v (.bool true))
 | .neq,.v (.slice none 0 0)=>K (.v (.bool false))
 | _,_=>False
def jE(P:Program)(G:Option Bool)(ρ:Env)(H:aG)(op:Op)(K:AV->Prop):Prop:=
 match op with
 | .move x| .assign x=>bU G (aev ρ x) K
 | .pick c a b=>bU G (aev ρ c) fun
   | .v (.bool c)=>DC G c (aev ρ a) (aev ρ b) K
   | _=>False
 | .build t parts=>sM G ρ parts.toList fun l=>BW P t l K
 | .load t a=>match ldT P t with
   | some l=>bU G (aev ρ a) fun a=>rM G H l a K
   | none=>False
 | .nilCheck x=>bU G (aev ρ x) fun
   | .rp cs off=>K (.rp cs off)
   | .op k i f=>K (.op k i f)
   | .v (.pointer none)=>(gt G->False)/\∃cs off,K (.rp cs off)
   | _=>False
 | .binOp op t x y _=>if vS y=true then bU G (aev ρ x) fun x=>cJ P t=true/\uI op x K else bU G (aev ρ x) fun x=>bU G (aev ρ y) fun y=>kE P G op t x y K
 | .unOp op _ x=>bU G (aev ρ x) fun x=>aun op x K
 | .convert src dst x=>bU G (aev ρ x) fun x=>B0 P src dst x K
 | .slice t x lo hi none=>bU G (aev ρ x) fun x=>match lo,hi with
   | some lo,some hi=>bU G (aev ρ lo) fun lo=>bU G (aev ρ hi) fun hi=>asl P G H t x (some lo) (some hi) K
   | some lo,none=>bU G (aev ρ lo) fun lo=>asl P G H t x (some lo) none K
   | none,some hi=>bU G (aev ρ hi) fun hi=>asl P G H t x none (some hi) K
   | none,none=>False
 | .slice t x none (some hi) (some m)=>bU G (aev ρ x) fun x=>bU G (aev ρ hi) fun hi=>bU G (aev ρ m) fun m=>HJ P G t x hi m K
 | .fieldAddr t x f=>bU G (aev ρ x) fun x=>kX P t f x K
 | .field t x f=>match aK P t f with
   | some (o,l)=>bU G (aev ρ x) fun x=>apart G o l x K
   | none=>False
 | .indexAddr t x i=>bU G (aev ρ x) fun x=>bU G (aev ρ i) fun i=>fJ P G H t x i K
 | .index t x i=>bU G (aev ρ x) fun x=>bU G (aev ρ i) fun i=>AL P G t x i K
 | .extract x i=>bU G (aev ρ x) fun
   | .tup vs=>(gt G->i<vs.length)/\K (vs.getD i .any)
   | _=>False
 | .lookup t x i ok=>bU G (aev ρ x) fun x=>bU G (aev ρ i) fun i=>xM P H t x i ok K
 | .makeFunc f first cap=>match f with
   | .func f=>first=#[]/\DE G ρ cap.toList fun l=>K (.fn f l)
   | _=>False
 | _=>False
def cP(ops:Array Oper)(ρ:Env)(g:Option (Nat×Bool))(K:Option Bool->Prop):Prop:=
 match g with
 | none=>K none
 | some (j,want)=>match (ops[j]?).bind (·.dst)with
   | some t=>match ρ t with
     | .v (.bool b)=>K (some (b == want))
     | .gd g (.v (.bool b))=>K (some (g&&(b == want)))
     | _=>False
   | none=>False
def uQ(mt:Nat->Bool):Option Nat->Bool
 | some d=>mt d
 | none=>false
def rV(H:aG)(r:Row)(K:Nat->aG->Prop):Prop:=∀k,H k=none->K k (aH H k (some r))
def oY(cs:List AV)(f:Nat)(xs:List AV):List AV:=cs.take f++xs++cs.drop (f+xs.length)
def lE:List (Nat×TypeId×Nat)->List AV->aG->(List AV->aG->Prop)->Prop
 | [],cs,H,K=>K cs H
 | x::r,cs,H,K=>rV H ⟨x.2.1,x.2.2,[]⟩ fun k H'=>lE r (cs.set x.1 (.os k)) H' K
def Fp(P:Program)(mt:Nat->Bool)(quiet:Bool)(G:Option Bool)(o:Oper)(x:Operand)(ρ:Env)(H:aG)(K:Env->aG->Prop):Prop:=
 if uQ mt o.dst=true/\G=none/\quiet=false/\vS x=true then
   match cA P o.type with
   | some (e,sz,_)=>rV H ⟨e,sz,[]⟩ fun k H'=>K (upd ρ o.dst (.os k)) H'
   | none=>False
 else bU G (aev ρ x) fun y=>K (upd ρ o.dst (wr G y)) H
def atU(mt:Nat->Bool)(o:Oper)(t:TypeId)(cs:List AV)(ρ:Env)(H:aG)(K:Env->aG->Prop):Prop:=
 if uQ mt o.dst=true then
   0<cs.length/\rV H ⟨t,cs.length,[cs]⟩ fun k H'=>K (upd ρ o.dst (.op k 0 0)) H'
 else K (upd ρ o.dst (.rp cs 0)) H
def qG(P:Program)(mt:Nat->Bool)(G:Option Bool)(o:Oper)(t:TypeId)(n:Nat)(parts:List (Nat×List AV))(ρ:Env)(H:aG)(K:Env->aG->Prop):Prop:=
 match cA P t with
 | some (e,sz,_)=>
   (parts.map (·.1)=Qk 0 n/\cQ sz (parts.map (·.2))/\n*sz<=16777216) /\
   (if uQ mt o.dst=true/\G=none then rV H ⟨e,sz,parts.map (·.2)⟩ fun k H'=>K (upd ρ o.dst (.os k)) H'
    else K (upd ρ o.dst (wr G (.sl (parts.map (·.2))))) H)
 | none=>False
def BJ(P:Program)(o:Oper)(t:TypeId)(a:AV)(cs:List AV)(ρ:Env)(H:aG)(K:Env->aG->Prop):Prop:=
 match a with
 | .op k i f=>match H k,ldT P t with
   | some r, some l => (i < r.es.length /\ cs.length = l.getD 1 /\ f + cs.length <= r.sz /\ (l = none -> ∃ i, P.info? t = some i /\ i.size = 1)) /\
       K (upd ρ o.dst .any) (aH H k (some { r with es:=r.es.set i (oY (r.es.getD i []) f cs) }))
   | _,_=>False
 | _=>False
def xX(P:Program)(o:Oper)(t:TypeId)(a:AV)(cs:List AV)(ρ:Env)(H:aG)(K:Env->aG->Prop):Prop:=
 BJ P o t a cs ρ H K\/((ldT P t).isSome=true/\∃nl:List (Nat×TypeId×Nat),(∀x∈nl,cs[x.1]?=some (.v (.slice none 0 0))/\0<x.2.2)/\lE nl cs H fun cs H=>BJ P o t a cs ρ H K)
def C0(x:Operand)(ρ:Env)(d:Option Nat)(H:aG)(K:Env->aG->Prop):Prop:=
 match x with
 | .tmp t=>match ρ t with
   | .os j=>match H j with
     | some r=>∀Hr:aG,Hr j=none->(∀k,k≠j->Hr k=H k)->K (upd (upd ρ (some t) (.sl r.es)) d (.sl r.es)) Hr
     | none=>False
   | _=>False
 | _=>False
def Mu{t j:Nat}{r:Row}{ρ:Env}{d:Option Nat}{H:aG}{K:Env->aG->Prop}(E:ρ t=.os j)(F:H j=some r)(h:∀A:aG,A j=none->(∀k,k≠j->A k=H k)->K (upd (upd ρ (some t) (.sl r.es)) d (.sl r.es)) A):C0 (.tmp t) ρ d H K:=by grind[C0]
def M9(l:List Nat)(H:aG):List AV->List AV->Prop
 | [],[]=>True
 | x::xs,y::ys=>(x=y\/∃j r,j∈l/\x=.os j/\H j=some r/\y=.sl r.es)/\M9 l H xs ys
 | _,_=>False
def Ol(x:AV)(ρ:Env)(d:Option Nat)(H:aG)(K:Env->aG->Prop):Prop:=
 match x with
 | .agg cs=>∃(l:List Nat) (ys:List AV),M9 l H cs ys/\∀Hr:aG,(∀k,k∈l->Hr k=none)->(∀k,¬k∈l->Hr k=H k)->K (upd ρ d (.agg ys)) Hr
 | _=>False
def yE(H:aG)(x:AV)(K:List (List AV)->Prop):Prop:=
 match x with
 | .sl es=>K es
 | .os k=>match H k with
   | some r=>K r.es
   | none=>False
 | .oz k a b=>match H k with
   | some r=>K ((r.es.take b).drop a)
   | none=>False
 | _=>False
def amM(H:aG)(x:AV)(K:Nat->Nat->Nat->Row->Prop):Prop:=
 match x with
 | .os k=>match H k with
   | some r=>K k 0 r.es.length r
   | none=>False
 | .oz k a b=>match H k with
   | some r=>K k a (b-a) r
   | none=>False
 | _=>False
def aaG(P:Program)(o:Oper)(t:TypeId)(x y:AV)(ρ:Env)(H:aG)(K:Env->aG->Prop):Prop:=
 amM H x fun k a n r=>yE H y fun news=>match cA P t with
   | some (_,sz,_)=>(r.sz=sz/\cQ sz news)/\K (upd ρ o.dst (.v (.int .i64 (min news.length n:Nat)))) (aH H k (some { r with es:=r.es.take a++news.take (min news.length n)++r.es.drop (a+min news.length n) }))
   | none=>False
def VJ(P:Program)(o:Oper)(t:TypeId)(x:AV)(ρ:Env)(H:aG)(K:Env->aG->Prop):Prop:=
 amM H x fun k a n r=>match cA P t with
   | some (e,sz,_)=>match dH P e with
     | some zs=>r.sz=sz/\K (upd ρ o.dst .any) (aH H k (some { r with es:=r.es.take a++List.replicate n zs++r.es.drop (a+n) }))
     | none=>False
   | none=>False
def uV(P:Program)(o:Oper)(t:TypeId)(s x:AV)(ρ:Env)(H:aG)(K:Env->aG->Prop):Prop:=
 match s,cA P t with
 | .os k,some (e,sz,bytes)=>match H k with
   | some r => yE H x fun news =>
       (r.e=e/\r.sz=sz/\cQ sz news/\(r.es.length+news.length)*bytes<=140737488355328) /\
       ∀k',H k'=none->K (upd ρ o.dst (.os k')) (aH (aH H k none) k' (some ⟨e,sz,r.es++news⟩))
   | none=>False
 | .cl es, some (e, sz, bytes) => yE H x fun news =>
     (news≠[]/\cQ sz es/\cQ sz news/\(es.length+news.length)*bytes<=140737488355328) /\
     ∀k',H k'=none->K (upd ρ o.dst (.os k')) (aH H k' (some ⟨e,sz,es++news⟩))
 | .oz k a b,some (e,sz,bytes)=>match H k with
   | some r => yE H x fun news =>
       (r.e=e/\r.sz=sz/\news≠[]/\cQ sz news/\b=r.es.length/\(r.es.length+news.length)*bytes<=140737488355328) /\
       ∀(k':Nat) (pre:List (List AV)),pre.length<=a->H k'=none->K (upd ρ o.dst (.oz k' pre.length (pre.length+(b-a)+news.length))) (aH (aH H k none) k' (some ⟨e,sz,pre++(r.es.drop a++news)⟩))
   | none=>False
 | .v (.slice none 0 0), some (e, sz, bytes) => yE H x fun news =>
     (news=[]/\K (upd ρ o.dst (.v (.slice none 0 0))) H) \/
     (news≠[]/\cQ sz ([]:List (List AV))/\cQ sz news/\(([]:List (List AV)).length+news.length)*bytes<=140737488355328) /\
     ∀k',H k'=none->K (upd ρ o.dst (.os k')) (aH H k' (some ⟨e,sz,[]++news⟩))
 | .sl es,some _=>yE H x fun news=>news=[]/\K (upd ρ o.dst (.sl es)) H
 | _,_=>False
def Mc:List (Nat×TypeId×Nat)->List AV->List AV
 | [],z=>z
 | x::r,z=>Mc r (z.set x.1 (.v (.slice none 0 0)))
def CK(P:Program)(o:Oper)(t:TypeId)(parts:List (Nat×Operand))(ρ:Env)(H:aG)(K:Env->aG->Prop):Prop:=
 sM none ρ parts fun l=>match dH P t,dP P t,uO P t with
   | some z,some pl,some nl=>match wB pl (Mc nl z) l with
     | some cs=>K (upd ρ o.dst (.agg cs)) H
     | none=>False
   | _,_,_=>False
def Fh(P:Program)(o:Oper)(t:TypeId)(parts:List (Nat×Operand))(ρ:Env)(H:aG)(K:Env->aG->Prop):Prop:=
 sM none ρ parts fun l=>match dH P t,dP P t,uO P t with
   | some z,some pl,some nl=>lE nl z H fun z H=>match wB pl z l with
     | some cs=>K (upd ρ o.dst (.agg cs)) H
     | none=>False
   | _,_,_=>False
def nX(P:Program)(o:Oper)(t:TypeId)(m x v:AV)(ρ:Env)(H:aG)(K:Env->aG->Prop):Prop:=
 Ia P H t m x fun j r _ oi=>K (upd ρ o.dst .any) (aH H j (some { r with es:=adC r.es oi x v }))
def CS(P:Program)(o:Oper)(t:TypeId)(m x:AV)(ρ:Env)(H:aG)(K:Env->aG->Prop):Prop:=
 Ia P H t m x fun j r kt oi=>match oi with
   | some i=>K (upd ρ o.dst (.tup [(r.es.getD i []).getD 1 .any,.v (.int .i64 i)])) H
   | none=>match Oq P kt.2 with
     | some z=>K (upd ρ o.dst (.tup [z,.v (.int .i64 r.es.length)])) (aH H j (some { r with es:=r.es++[[x,z]] }))
     | none=>False
def xG(o:Oper)(m s v:AV)(ρ:Env)(H:aG)(K:Env->aG->Prop):Prop:=
 match m,s with
 | .om j,.v (.int _ i)=>match H j with
   | some r=>(0<=i/\i<r.es.length)/\K (upd ρ o.dst .any) (aH H j (some { r with es:=r.es.set i.toNat [(r.es.getD i.toNat []).getD 0 .any,v] }))
   | none=>False
 | _,_=>False
def wX(P:Program)(o:Oper)(t:TypeId)(l c:AV)(ρ:Env)(H:aG)(K:Env->aG->Prop):Prop:=
 match l,c with
 | .v (.int _ a),.v (.int _ b)=>match cA P t with
   | some (e,sz,bytes)=>match dH P e with
     | some z=>((0<=a/\a<=b)/\(bytes:Int)*b<=140737488355328)/\rV H ⟨e,sz,List.replicate a.toNat z⟩ fun k H'=>K (upd ρ o.dst (.os k)) H'
     | none=>False
   | none=>False
 | _,_=>False
def LR:AV->Option (FuncId×List AV×List AV)
 | .v (.func (.func f) first captured)=>some (f,first.toList.map .v,captured.toList.map .v)
 | .fn f cap=>some (f,[],cap)
 | _=>none
def aF(P:Program)(f:FuncId):Bool:=match P.funcs[f]? with|some fn=>fn.name != "runtime.NumGoroutine" && fn.body.isSome|none=>false
abbrev mM:=FuncId->List AV->aG->(AV->aG->Prop)->Prop
def nfq(quiet:Bool)(r:AV)(K:AV->Prop):Prop:=match quiet,r with
 | true,.nf _=>False
 | false,.nf x=>K x
 | _,r=>K r
def EA(P:Program)(C:mM)(PC:FuncId->List AV->aG->AV->Prop)(nl quiet:Bool)(G:Option Bool)(o:Oper)(c:Call)(ρ:Env)(H:aG)(K:Env->aG->Prop):Prop:=
 match c.callee with
 | .builtin b=>DE G ρ c.args.toList fun l=>match b,l,c.argTypes.toList with
   | .len,[x],[t]=>JO P H t x fun y=>K (upd ρ o.dst (wr G y)) H
   | .append,[s,x],[t,t']=>if t=t'/\G=none/\quiet=false then uV P o t s x ρ H K else False
   | .copy,[x,y],[t,_]=>if G=none/\quiet=false then aaG P o t x y ρ H K else False
   | .clear,[x],[t]=>if G=none/\quiet=false then VJ P o t x ρ H K else False
   | .max,[x,y],[_,_]=>X0 x y fun z=>K (upd ρ o.dst (wr G z)) H
   | .min,[x,y],[_,_]=>Xo x y fun z=>K (upd ρ o.dst (wr G z)) H
   | _,_,_=>False
 | .value f=>bU G (aev ρ f) fun x=>match LR x with
   | some (f,first,captured)=>if nl=true then gt G/\quiet=false/\aF P f=true/\C f (first++c.args.toList.map (Pc ρ)++captured) H fun r H'=>K (upd ρ o.dst r) H' else DE G ρ c.args.toList fun l=>
     aF P f=true/\if G=none/\quiet=false then C f (first++l++captured) H fun r H'=>K (upd ρ o.dst r) H'
     else ∃r,(gt G->PC f (first++l++captured) H r)/\nfq quiet r fun r=>K (upd ρ o.dst (wr G r)) H
   | none=>False
 | .invoke _ _=>False
def aop(P:Program)(C:mM)(PC:FuncId->List AV->aG->AV->Prop)(mt:Nat->Bool)(quiet:Bool)(ops:Array Oper)(o:Oper)(ρ:Env)(H:aG)(K:Env->aG->Prop):Prop:=
 cP ops ρ o.guard fun G=>
 match o.op with
 | .assign x=>Fp P mt quiet G o x ρ H K
 | .alloc t=>match dH P t with
   | some z => G = none /\ quiet = false /\ (if uQ mt o.dst = true then match uO P t with
       | some nl=>lE nl z H fun z H=>rV H ⟨t,z.length,[z]⟩ fun k H'=>K (upd ρ o.dst (.op k 0 0)) H'
       | none=>False
     else rV H ⟨t,z.length,[z]⟩ fun k H'=>K (upd ρ o.dst (.op k 0 0)) H')
   | none=>False
 | .box t x=>G=none/\quiet=false/\bU G (aev ρ x) fun x=>oQ x fun cs=>atU mt o t cs ρ H K
 | .buildSlice t n parts=>quiet=false/\sM G ρ parts.toList fun l=>qG P mt G o t n l ρ H K
 | .store t a x => G = none /\ quiet = false /\ (if vS x = true then bU G (aev ρ a) fun a => match cA P t with
       | some (e,sz,_)=>rV H ⟨e,sz,[]⟩ fun k H=>xX P o t a [.os k] ρ H K
       | none=>False
     else bU G (aev ρ a) fun a=>bU G (aev ρ x) fun x=>oQ x fun cs=>xX P o t a cs ρ H K)
 | .call c=>EA P C PC (uQ mt o.dst) quiet G o c ρ H K
 | .move x=>if uQ mt o.dst=true then G=none/\quiet=false/\C0 x ρ o.dst H K else jE P G ρ H (.move x) fun x=>K (upd ρ o.dst (wr G x)) H
 | .pick c a b=>jE P G ρ H (.pick c a b) fun x=>K (upd ρ o.dst (wr G x)) H
 | .build t parts=>if uQ mt o.dst=true then G=none/\(if quiet=true then CK P o t parts.toList ρ H K else Fh P o t parts.toList ρ H K)else jE P G ρ H (.build t parts) fun x=>K (upd ρ o.dst (wr G x)) H
 | .load t a=>if uQ mt o.dst=true then G=none/\quiet=false/\jE P none ρ H (.load t a) fun x=>Ol x ρ o.dst H K else jE P G ρ H (.load t a) fun x=>K (upd ρ o.dst (wr G x)) H
 | .nilCheck x=>jE P G ρ H (.nilCheck x) fun x=>K (upd ρ o.dst (wr G x)) H
 | .binOp op t x y t'=>jE P G ρ H (.binOp op t x y t') fun x=>K (upd ρ o.dst (wr G x)) H
 | .unOp op t x=>jE P G ρ H (.unOp op t x) fun x=>K (upd ρ o.dst (wr G x)) H
 | .convert s d x=>jE P G ρ H (.convert s d x) fun x=>K (upd ρ o.dst (wr G x)) H
 | .slice t x lo hi m=>jE P G ρ H (.slice t x lo hi m) fun x=>K (upd ρ o.dst (wr G x)) H
 | .fieldAddr t x f=>jE P G ρ H (.fieldAddr t x f) fun x=>K (upd ρ o.dst (wr G x)) H
 | .field t x f=>jE P G ρ H (.field t x f) fun x=>K (upd ρ o.dst (wr G x)) H
 | .indexAddr t x i=>jE P G ρ H (.indexAddr t x i) fun x=>K (upd ρ o.dst (wr G x)) H
 | .index t x i=>jE P G ρ H (.index t x i) fun x=>K (upd ρ o.dst (wr G x)) H
 | .extract x i=>jE P G ρ H (.extract x i) fun x=>K (upd ρ o.dst (wr G x)) H
 | .makeFunc f a b=>jE P G ρ H (.makeFunc f a b) fun x=>K (upd ρ o.dst (wr G x)) H
 | .makeSlice t l c=>G=none/\quiet=false/\bU G (aev ρ l) fun l=>bU G (aev ρ c) fun c=>wX P o t l c ρ H K
 | .lookup t x i ok=>jE P G ρ H (.lookup t x i ok) fun x=>K (upd ρ o.dst (wr G x)) H
 | .makeMap _ none=>G=none/\quiet=false/\rV H ⟨0,2,[]⟩ fun k H'=>K (upd ρ o.dst (.om k)) H'
 | .mapUpdate t m x v=>G=none/\quiet=false/\bU G (aev ρ m) fun m=>bU G (aev ρ x) fun x=>bU G (aev ρ v) fun v=>nX P o t m x v ρ H K
 | .insert t m x v=>G=none/\quiet=false/\bU G (aev ρ m) fun m=>bU G (aev ρ x) fun x=>bU G (aev ρ v) fun v=>nX P o t m x v ρ H K
 | .mapEntry t m x=>G=none/\quiet=false/\bU G (aev ρ m) fun m=>bU G (aev ρ x) fun x=>CS P o t m x ρ H K
 | .entryStore _ m s v=>G=none/\quiet=false/\bU G (aev ρ m) fun m=>bU G (aev ρ s) fun s=>bU G (aev ρ v) fun v=>xG o m s v ρ H K
 | _=>False
def yY(P:Program)(C:mM)(PC:FuncId->List AV->aG->AV->Prop)(mt:Nat->Bool)(quiet:Bool)(ops:Array Oper)(K:Env->aG->Prop):List Oper->Env->aG->Prop
 | [],ρ,H=>K ρ H
 | o::rest,ρ,H=>aop P C PC mt quiet ops o ρ H (yY P C PC mt quiet ops K rest)
def Ex.seq(K:Env->aG->Prop)(Q:Ex->Env->aG->Prop):Ex->Env->aG->Prop
 | .normal,ρ,H=>K ρ H
 | e,ρ,H=>Q e ρ H
def Ex.blk(id:Nat)(Q:Ex->Env->aG->Prop):Ex->Env->aG->Prop
 | .exit i,ρ,H=>if i=id then Q .normal ρ H else Q (.exit i) ρ H
 | e,ρ,H=>Q e ρ H
def SR(W:(Ex->Env->aG->Prop)->Env->aG->Prop)(Q:Ex->Env->aG->Prop)(ρ:Env)(H:aG):Prop:=
 ∃(I:Env->aG->Prop) (μ:Env->aG->Nat),I ρ H/\∀ρ' H',I ρ' H'->W (Ex.seq (fun ρ'' H''=>I ρ'' H''/\μ ρ'' H''<μ ρ' H') Q) ρ' H'
def axU(mt:Nat->Bool)(o:Oper):Bool:=match o.op with
 | .alloc _=>true
 | .buildSlice ..=>true
 | .store ..=>true
 | .makeSlice ..=>true
 | .makeMap ..=>true
 | .mapUpdate ..=>true
 | .insert ..=>true
 | .mapEntry ..=>true
 | .entryStore ..=>true
 | .call ⟨.builtin .append,_,_⟩=>true
 | .call ⟨.builtin .copy,_,_⟩=>true
 | .call ⟨.builtin .clear,_,_⟩=>true
 | _=>uQ mt o.dst
def Y4(mt:Nat->Bool):List Oper->Nat
 | []=>0
 | o::r=>if axU mt o=true then 0 else Y4 mt r+1
def ZK(ops:Array Oper)(n:Nat):Bool:=Region.noSelect ops&&decide (n<=ops.size)&&Region.lexHead .any ops (ops.size-n) n 0 (Array.replicate ops.size false)
def qH(o:Oper)(H:aG):aG:=match o.op with
 | .slice ..=>H
 | _=>fun _=>none
def BF(P:Program)(C:mM)(PC:FuncId->List AV->aG->AV->Prop)(mt:Nat->Bool)(ops:Array Oper)(K:Env->aG->Prop):List (Nat×Bool)->Env->aG->Prop
 | [],ρ,H=>K ρ H
 | (k,b)::f,ρ,H=>match ops[k]? with
   | some o=>if b=true then aop P C PC mt true ops o ρ (qH o H) fun ρ' _=>BF P C PC mt ops K f ρ' H
     else aop P C PC mt false ops o ρ H (BF P C PC mt ops K f)
   | none=>False
def Bh(P:Program)(C:mM)(PC:FuncId->List AV->aG->AV->Prop)(mt:Nat->Bool)(ops:Array Oper)(K:Env->aG->Prop)(Hp:aG):List (Nat×Bool)->Env->aG->Prop
 | [],ρ,H=>K ρ H
 | (k,b)::f,ρ,H=>match ops[k]? with
   | some o=>if b=true then aop P C PC mt true ops o ρ Hp fun ρ' _=>Bh P C PC mt ops K Hp f ρ' H
     else aop P C PC mt false ops o ρ H (Bh P C PC mt ops K Hp f)
   | none=>False
def sN(l:List Nat)(H:aG)(K:Env->aG->Prop)(ρ':Env)(H':aG):Prop:=
 (∀k,k∈l->H' k=none)->∀Hm:aG,(∀k,k∈l->Hm k=H k)->(∀k,k∉l->Hm k=H' k)->K ρ' Hm
def fF{l:List Nat}{H:aG}{K:Env->aG->Prop}{A:Env}{H':aG}(h:(∀k,k∈l->H' k=none)->∀E:aG,(∀k,k∈l->E k=H k)->(∀k,k∉l->E k=H' k)->K A E):sN l H K A H':=h
def tJ(ops:Array Oper):List (Nat×Bool)->Array Bool->Bool
 | [],listed=>(Region.ready .any ops listed).isEmpty
 | (k,true)::f,listed=>(Region.ready .any ops listed).contains k&&Region.free .any ops listed k&&tJ ops f (listed.setIfInBounds k true)
 | (k,false)::f,listed=>decide (Region.ready .any ops listed=[k])&&tJ ops f (listed.setIfInBounds k true)
def V6(ops:Array Oper)(f:List (Nat×Bool)):Bool:=Region.noSelect ops&&decide (f.length=ops.size)&&tJ ops f (Array.replicate ops.size false)
inductive Mx where
 | nil
 | q (k:Nat) (t:Mx)
 | a1 (k:Nat) (t:Mx)
 | a2 (k:Nat) (t:Mx) (k':Nat) (t':Mx)
 | a3 (k:Nat) (t:Mx) (k':Nat) (t':Mx) (k'':Nat) (t'':Mx)
def Dh(P:Program)(C:mM)(PC:FuncId->List AV->aG->AV->Prop)(mt:Nat->Bool)(quiet:Bool)(ops:Array Oper)(k:Nat)(ρ:Env)(H:aG)(K:Env->aG->Prop):Prop:=
 match ops[k]? with
 | some o=>aop P C PC mt quiet ops o ρ H K
 | none=>False
def nO(P:Program)(C:mM)(PC:FuncId->List AV->aG->AV->Prop)(mt:Nat->Bool)(ops:Array Oper)(K:Env->aG->Prop)(Hp:aG):Mx->Env->aG->Prop
 | .nil,ρ,H=>K ρ H
 | .q k t,ρ,H=>Dh P C PC mt true ops k ρ Hp fun ρ' _=>nO P C PC mt ops K Hp t ρ' H
 | .a1 k t,ρ,H=>Dh P C PC mt false ops k ρ H (nO P C PC mt ops K Hp t)
 | .a2 k t k' t',ρ,H=>Dh P C PC mt false ops k ρ H (nO P C PC mt ops K Hp t)/\Dh P C PC mt false ops k' ρ H (nO P C PC mt ops K Hp t')
 | .a3 k t k' t' k'' t'',ρ,H=>Dh P C PC mt false ops k ρ H (nO P C PC mt ops K Hp t)/\Dh P C PC mt false ops k' ρ H (nO P C PC mt ops K Hp t')/\Dh P C PC mt false ops k'' ρ H (nO P C PC mt ops K Hp t'')
def fH(ops:Array Oper):Mx->Nat->Array Bool->Bool
 | .nil,0,listed=>(Region.ready .any ops listed).isEmpty
 | .q k t,n+1,listed=>(Region.ready .any ops listed).contains k&&Region.free .any ops listed k&&fH ops t n (listed.setIfInBounds k true)
 | .a1 k t,n+1,listed=>decide (Region.ready .any ops listed=[k])&&fH ops t n (listed.setIfInBounds k true)
 | .a2 k t k' t',n+1,listed=>decide (Region.ready .any ops listed=[k,k'])&&fH ops t n (listed.setIfInBounds k true)&&fH ops t' n (listed.setIfInBounds k' true)
 | .a3 k t k' t' k'' t'',n+1,listed=>decide (Region.ready .any ops listed=[k,k',k''])&&fH ops t n (listed.setIfInBounds k true)&&fH ops t' n (listed.setIfInBounds k' true)&&fH ops t'' n (listed.setIfInBounds k'' true)
 | _,_,_=>false
def G9(ops:Array Oper)(t:Mx):Bool:=Region.noSelect ops&&fH ops t ops.size (Array.replicate ops.size false)
def wW(P:Program)(C:mM)(PC:FuncId->List AV->aG->AV->Prop)(mt:Nat->Bool)(ops:Array Oper)(K:Env->aG->Prop)(m:Nat)(ρ:Env)(H:aG):Prop:=
 (m=ops.size/\Region.lexB .any ops=true/\yY P C PC mt true ops K ops.toList ρ H) \/
 (ZK ops m=true/\yY P C PC mt true ops (fun ρ' _=>yY P C PC mt false ops K (ops.toList.drop m) ρ' H) (ops.toList.take m) ρ fun _=>none) \/
 (∃f,V6 ops f=true/\BF P C PC mt ops K f ρ H) \/
 ∃l t,(∀k,k∈l->(H k).isSome=true)/\G9 ops t=true/\∀Hp Hr:aG,(∀k,k∈l->Hp k=H k)->(∀k,k∉l->Hr k=H k)->(∀k,k∉l->Hp k=none)->(∀k,k∈l->Hr k=none)->nO P C PC mt ops (sN l H K) Hp t ρ Hr
def mC{P:Program}{C:mM}{PC:FuncId->List AV->aG->AV->Prop}{mt:Nat->Bool}{l:List Oper}{K:Env->aG->Prop}{m:Nat}{ρ:Env}{H:aG}(E:(m == l.length)=true)(A:Region.lexB .any l.toArray=true)
 (h:yY P C PC mt true l.toArray K l ρ H):wW P C PC mt l.toArray K m ρ H:=.inl ⟨by grind,A,h⟩
def I3{P:Program}{C:mM}{PC:FuncId->List AV->aG->AV->Prop}{mt:Nat->Bool}{l:List Oper}{K:Env->aG->Prop}{m:Nat}{ρ:Env}{H:aG}(E:ZK l.toArray m=true)
 (h:yY P C PC mt true l.toArray (fun A _=>yY P C PC mt false l.toArray K (l.drop m) A H) (l.take m) ρ fun _=>none):wW P C PC mt l.toArray K m ρ H:=.inr (.inl ⟨E,h⟩)
def EG{P:Program}{C:mM}{PC:FuncId->List AV->aG->AV->Prop}{mt:Nat->Bool}{l:List Oper}{K:Env->aG->Prop}{m:Nat}{ρ:Env}{H:aG}(f:List (Nat×Bool))(A:V6 l.toArray f=true)
 (h:BF P C PC mt l.toArray K f ρ H):wW P C PC mt l.toArray K m ρ H:=.inr (.inr (.inl ⟨f,A,h⟩))
def C3{P:Program}{C:mM}{PC:FuncId->List AV->aG->AV->Prop}{mt:Nat->Bool}{ops:List Oper}{K:Env->aG->Prop}{m:Nat}{ρ:Env}{H:aG}(l:List Nat)(t:Mx)(F:∀k,k∈l->(H k).isSome=true)(E:G9 ops.toArray t=true)
 (h:∀Hp A:aG,(∀k,k∈l->Hp k=H k)->(∀k,k∉l->A k=H k)->(∀k,k∉l->Hp k=none)->(∀k,k∈l->A k=none)->nO P C PC mt ops.toArray (sN l H K) Hp t ρ A):wW P C PC mt ops.toArray K m ρ H:=.inr (.inr (.inr ⟨l,t,F,E,h⟩))
def mxL:List (Nat×Bool)->Mx
 | []=>.nil
 | (k,true)::f=>.q k (mxL f)
 | (k,false)::f=>.a1 k (mxL f)
def ahD{P:Program}{C:mM}{PC:FuncId->List AV->aG->AV->Prop}{mt:Nat->Bool}{ops:Array Oper}{K:Env->aG->Prop}(Hp:aG):∀f,Bh P C PC mt ops K Hp f=nO P C PC mt ops K Hp (mxL f)
 | []=>by rfl
 | (k,b)::f=>by funext ρ H;cases b <;> simp[Bh,mxL,nO,Dh,ahD Hp f]
def aBk{ops:Array Oper}{f:List (Nat×Bool)}(h:V6 ops f=true):G9 ops (mxL f)=true:=by
 have A:∀(f:List (Nat×Bool)) (l:Array Bool),tJ ops f l=true->fH ops (mxL f) f.length l=true:=by
  intro f;induction f with
  | nil=>grind[tJ,mxL,fH]
  | cons x f ih=>
   intro l h;obtain⟨k,b⟩:=x;cases b <;> simp only[tJ,Bool.and_eq_true]at h <;> simp only[mxL,fH,List.length_cons,Bool.and_eq_true]
   all_goals grind
 simp only[V6,Bool.and_eq_true,decide_eq_true_eq]at h;simp only[G9,Bool.and_eq_true]
 grind
def jI{P:Program}{C:mM}{PC:FuncId->List AV->aG->AV->Prop}{mt:Nat->Bool}{ops:List Oper}{K:Env->aG->Prop}{m:Nat}{ρ:Env}{H:aG}(l:List Nat)(f:List (Nat×Bool))(E:∀k,k∈l->(H k).isSome=true)(F:V6 ops.toArray f=true)
 (h:∀Hp A:aG,(∀k,k∈l->Hp k=H k)->(∀k,k∉l->A k=H k)->(∀k,k∉l->Hp k=none)->(∀k,k∈l->A k=none)->Bh P C PC mt ops.toArray (sN l H K) Hp f ρ A):wW P C PC mt ops.toArray K m ρ H:=C3 l (mxL f) E (aBk F) fun Hp A h1 J h3 O=>by simp_all[ahD]
def awp(P:Program)(C:mM)(PC:FuncId->List AV->aG->AV->Prop)(mt:Nat->Bool):Code->(Ex->Env->aG->Prop)->Env->aG->Prop
 | .skip,Q,ρ,H=>Q .normal ρ H
 | .region _ ops draw,Q,ρ,H=>if draw=true then wW P C PC mt ops (Q .normal) (Y4 mt ops.toList) ρ H else yY P C PC mt false ops (Q .normal) ops.toList ρ H
 | .seq a b,Q,ρ,H=>awp P C PC mt a (Ex.seq (awp P C PC mt b Q) Q) ρ H
 | .cond c a b,Q,ρ,H=>match aev ρ c with
   | .v (.bool t)=>(t=true->awp P C PC mt a Q ρ H)/\(t=false->awp P C PC mt b Q ρ H)
   | _=>False
 | .block id c,Q,ρ,H=>awp P C PC mt c (Ex.blk id Q) ρ H
 | .loop c,Q,ρ,H=>SR (awp P C PC mt c) Q ρ H
 | .scope c,Q,ρ,H=>awp P C PC mt c Q ρ H
 | .label _,Q,ρ,H=>Q .normal ρ H
 | .exit id,Q,ρ,H=>Q (.exit id) ρ H
 | .ret,Q,ρ,H=>Q .ret ρ H
 | _,_,_,_=>False
def Bf(x:AV)(A B:Env->aG->Prop)(ρ:Env)(H:aG):Prop:=
 match x with
 | .v (.bool t)=>(t=true->A ρ H)/\(t=false->B ρ H)
 | _=>False
section
variable{P:Program}{C:mM}{PC:FuncId->List AV->aG->AV->Prop}{mt:Nat->Bool}{Q:Ex->Env->aG->Prop}{K:Env->aG->Prop}{ρ:Env}{H:aG}{a b c:Code}{id:Nat}{ops:Array Oper}{draw:Bool}
def akD:awp P C PC mt .skip Q ρ H=Q .normal ρ H:=(rfl)
def JU:awp P C PC mt (.region id ops false) Q ρ H=yY P C PC mt false ops (Q .normal) ops.toList ρ H:=by simp[awp]
def Rl:awp P C PC mt (.region id ops true) Q ρ H=wW P C PC mt ops (Q .normal) (Y4 mt ops.toList) ρ H:=by simp[awp]
@[congr] theorem adraw_c {m m':Nat} (h:m=m'):wW P C PC mt ops K m ρ H=wW P C PC mt ops K m' ρ H:=h▸rfl
def Zs:awp P C PC mt (.seq a b) Q ρ H=awp P C PC mt a (Ex.seq (awp P C PC mt b Q) Q) ρ H:=(rfl)
def QW{x:Operand}:awp P C PC mt (.cond x a b) Q ρ H=Bf (aev ρ x) (awp P C PC mt a Q) (awp P C PC mt b Q) ρ H:=(rfl)
def Nn:awp P C PC mt (.block id c) Q ρ H=awp P C PC mt c (Ex.blk id Q) ρ H:=(rfl)
def SE:awp P C PC mt (.loop c) Q ρ H=SR (awp P C PC mt c) Q ρ H:=(rfl)
def MF:awp P C PC mt (.scope c) Q ρ H=awp P C PC mt c Q ρ H:=(rfl)
def adE{l:Nat}:awp P C PC mt (.label l) Q ρ H=Q .normal ρ H:=(rfl)
def akL:awp P C PC mt (.exit id) Q ρ H=Q (.exit id) ρ H:=(rfl)
def asU:awp P C PC mt .ret Q ρ H=Q .ret ρ H:=(rfl)
def apV:yY P C PC mt draw ops K [] ρ H=K ρ H:=(rfl)
def adY{o:Oper}{r:List Oper}:yY P C PC mt draw ops K (o::r) ρ H=aop P C PC mt draw ops o ρ H (yY P C PC mt draw ops K r):=(rfl)
def Wr:Ex.seq K Q .normal ρ H=K ρ H:=(rfl)
def apQ:Ex.seq K Q (.exit id) ρ H=Q (.exit id) ρ H:=(rfl)
def auN:Ex.seq K Q .ret ρ H=Q .ret ρ H:=(rfl)
def WF:Ex.blk id Q .normal ρ H=Q .normal ρ H:=(rfl)
def ZX:Ex.blk id Q .ret ρ H=Q .ret ρ H:=(rfl)
def Te:Ex.blk id Q (.exit id) ρ H=Q .normal ρ H:=by simp[Ex.blk]
def afL{i:Nat}(h:(i == id)=false):Ex.blk id Q (.exit i) ρ H=Q (.exit i) ρ H:=by grind[Ex.blk]
end
@[congr] theorem wopd_c {G x x' k} (h:x=x'):bU G x k=bU G x' k:=h▸rfl
@[congr] theorem abin_c {P G op t x x' y y' k} (h:x=x') (h':y=y'):kE P G op t x y k=kE P G op t x' y' k:=h▸h'▸rfl
@[congr] theorem apick_c {G c c' x x' y y' k} (h0:c=c') (h:x=x') (h':y=y'):DC G c x y k=DC G c' x' y' k:=h0▸h▸h'▸rfl
@[congr] theorem aload_c {G H l l' x x' k} (h:l=l') (h':x=x'):rM G H l x k=rM G H l' x' k:=h▸h'▸rfl
@[congr] theorem apart_c {G o o' l l' x x' k} (h0:o=o') (h:l=l') (h':x=x'):apart G o l x k=apart G o' l' x' k:=h0▸h▸h'▸rfl
@[congr] theorem alen_c {P H t x x' k} (h':x=x'):JO P H t x k=JO P H t x' k:=h'▸rfl
@[congr] theorem aindexAddr_c {P G H t x x' y y' k} (h:x=x') (h':y=y'):fJ P G H t x y k=fJ P G H t x' y' k:=h▸h'▸rfl
@[congr] theorem aindex_c {P G t x x' y y' k} (h:x=x') (h':y=y'):AL P G t x y k=AL P G t x' y' k:=h▸h'▸rfl
@[congr] theorem afieldAddr_c {P t f x x' k} (h':x=x'):kX P t f x k=kX P t f x' k:=h'▸rfl
@[congr] theorem abuild_c {P t l l' k} (h':l=l'):BW P t l k=BW P t l' k:=h'▸rfl
@[congr] theorem aslice_c {P G t x x' lo lo' hi hi' k} (h:x=x') (h1:lo=lo') (h2:hi=hi'):oS P G t x lo hi k=oS P G t x' lo' hi' k:=h▸h1▸h2▸rfl
@[congr] theorem aun_c {op x x' k} (h':x=x'):aun op x k=aun op x' k:=h'▸rfl
@[congr] theorem aconv_c {P s t x x' k} (h':x=x'):B0 P s t x k=B0 P s t x' k:=h'▸rfl
@[congr] theorem wcells_c {x x' K} (h:x=x'):oQ x K=oQ x' K:=h▸rfl
@[congr] theorem acond_c {x x' A B ρ H} (h':x=x'):Bf x A B ρ H=Bf x' A B ρ H:=h'▸rfl
@[congr] theorem abox_c {mt o t x x' ρ H K} (h:x=x'):atU mt o t x ρ H K=atU mt o t x' ρ H K:=h▸rfl
@[congr] theorem abuildSlice_c {P mt G o t n x x' ρ H K} (h:x=x'):qG P mt G o t n x ρ H K=qG P mt G o t n x' ρ H K:=h▸rfl
@[congr] theorem astore_c {P o t a a' x x' ρ H K} (h:a=a') (h':x=x'):BJ P o t a x ρ H K=BJ P o t a' x' ρ H K:=h▸h'▸rfl
@[congr] theorem aappend_c {P o t a a' x x' ρ H K} (h:a=a') (h':x=x'):uV P o t a x ρ H K=uV P o t a' x' ρ H K:=h▸h'▸rfl
@[congr] theorem asrc_c {H x x' K} (h:x=x'):yE H x K=yE H x' K:=h▸rfl
@[congr] theorem anew_c {H r r' K} (h:r=r'):rV H r K=rV H r' K:=h▸rfl
def aA{t:Bool}{A B:Env->aG->Prop}{ρ:Env}{H:aG}(h1:t=true->A ρ H)(E:t=false->B ρ H):Bf (.v (.bool t)) A B ρ H:=⟨h1,E⟩
def Ip(args:List AV):Env:=fun t=>args.getD t .any
def aU:AV->Nat
 | .v (.int _ n)=>n.toNat
 | _=>0
theorem aN{k n}:aU (.v (.int k n))=n.toNat:=(rfl)
section
variable{G:Option Bool}{k:AV->Prop}
def aoO{x}:bU G (.v x) k=k (.v x):=(rfl)
def RT:bU G .any k=k .any:=(rfl)
def YP{x}:bU G (.sl x) k=k (.sl x):=(rfl)
def YZ{x o}:bU G (.rp x o) k=k (.rp x o):=(rfl)
def Uu{x}:bU G (.agg x) k=k (.agg x):=(rfl)
def Rg{x}:bU G (.tup x) k=k (.tup x):=(rfl)
def Z3{x}:bU G (.os x) k=k (.os x):=(rfl)
def ZJ{x i f}:bU G (.op x i f) k=k (.op x i f):=(rfl)
def Yi{f l}:bU G (.fn f l) k=k (.fn f l):=(rfl)
def YW{j a b}:bU G (.oz j a b) k=k (.oz j a b):=(rfl)
def Y5{es}:bU G (.cl es) k=k (.cl es):=(rfl)
def ZS{j}:bU G (.om j) k=k (.om j):=(rfl)
def Z5{g x}:bU G (.gd g x) k=(gok G g/\k x):=(rfl)
end
def ZF(K:Env->aG->Prop)(ρ:Env)(d:Option Tmp)(j:Nat)(H:aG):Prop:=K (upd ρ d (.os j)) H
def YU(K:Env->aG->Prop)(ρ:Env)(d:Option Tmp)(j:Nat)(H:aG):Prop:=K (upd ρ d (.op j 0 0)) H
def Sv(K:Env->aG->Prop)(ρ:Env)(d:Option Tmp)(r:AV)(H:aG):Prop:=K (upd ρ d r) H
def T7{K ρ d j H}:ZF K ρ d j H=K (upd ρ d (.os j)) H:=(rfl)
def UT{K ρ d j H}:YU K ρ d j H=K (upd ρ d (.op j 0 0)) H:=(rfl)
def QO{K ρ d r H}:Sv K ρ d r H=K (upd ρ d r) H:=(rfl)
def wpick(G:Option Bool)(c x y:AV)(k:AV->Prop):Prop:=match c with
 | .v (.bool c)=>DC G c x y k
 | _=>False
@[congr] theorem wpick_c {G c c' x y k} (h:c=c'):wpick G c x y k=wpick G c' x y k:=h▸rfl
def ZA{G c x y k}:wpick G (.v (.bool c)) x y k=DC G c x y k:=(rfl)
def aeP(G:Option Bool)(x:AV)(k:AV->Prop):Prop:=match x with
 | .rp cs off=>k (.rp cs off)
 | .op j i f=>k (.op j i f)
 | .v (.pointer none)=>(gt G->False)/\∃cs off,k (.rp cs off)
 | _=>False
@[congr] theorem wptr_c {G x x' k} (h:x=x'):aeP G x k=aeP G x' k:=h▸rfl
def ZT{G cs o k}:aeP G (.rp cs o) k=k (.rp cs o):=(rfl)
def YA{G j i f k}:aeP G (.op j i f) k=k (.op j i f):=(rfl)
def S9{G k}:aeP G (.v (.pointer none)) k=((gt G->False)/\∃cs off,k (.rp cs off)):=(rfl)
def arM(G:Option Bool)(x:AV)(i:Nat)(k:AV->Prop):Prop:=match x with
 | .tup vs=>(gt G->i<vs.length)/\k (vs.getD i .any)
 | _=>False
@[congr] theorem wtup_c {G x x' i k} (h:x=x'):arM G x i k=arM G x' i k:=h▸rfl
def Y1{G vs i k}:arM G (.tup vs) i k=((gt G->i<vs.length)/\k (vs.getD i .any)):=(rfl)
def aeI(P:Program)(d:Option Tmp)(t:TypeId)(a:AV)(cs:List AV)(ρ:Env)(H:aG)(K:Env->aG->Prop):Prop:=xX P ⟨d,.move (.tmp 0),0,"",#[],none⟩ t a cs ρ H K
@[congr] theorem wput_c {P d t a a' cs cs' ρ H K} (h:a=a') (h':cs=cs'):aeI P d t a cs ρ H K=aeI P d t a' cs' ρ H K:=h▸h'▸rfl
def KX(P:Program)(d:Option Tmp)(t:TypeId)(s x:AV)(ρ:Env)(H:aG)(K:Env->aG->Prop):Prop:=uV P ⟨d,.move (.tmp 0),0,"",#[],none⟩ t s x ρ H K
@[congr] theorem wapp_c {P d t s s' x x' ρ H K} (h:s=s') (h':x=x'):KX P d t s x ρ H K=KX P d t s' x' ρ H K:=h▸h'▸rfl
def TM(P:Program)(d:Option Tmp)(t:TypeId)(l c:AV)(ρ:Env)(H:aG)(K:Env->aG->Prop):Prop:=wX P ⟨d,.move (.tmp 0),0,"",#[],none⟩ t l c ρ H K
@[congr] theorem wmake_c {P d t s s' x x' ρ H K} (h:s=s') (h':x=x'):TM P d t s x ρ H K=TM P d t s' x' ρ H K:=h▸h'▸rfl
def TU(P:Program)(d:Option Tmp)(t:TypeId)(x y:AV)(ρ:Env)(H:aG)(K:Env->aG->Prop):Prop:=aaG P ⟨d,.move (.tmp 0),0,"",#[],none⟩ t x y ρ H K
@[congr] theorem wcopy_c {P d t s s' x x' ρ H K} (h:s=s') (h':x=x'):TU P d t s x ρ H K=TU P d t s' x' ρ H K:=h▸h'▸rfl
def asQ{P:Program}{d:Option Tmp}{t:TypeId}{x y:AV}{ρ:Env}{H:aG}{K:Env->aG->Prop}{e:TypeId}{sz A j a n:Nat}{r:Row}{news:List (List AV)}(F:cA P t=some (e,sz,A))(J:H j=some r)
 (O:(x=.os j/\a=0/\n=r.es.length)\/∃b,x=.oz j a b/\n=b-a) (T:y=.sl news\/(∃i r',y=.os i/\H i=some r'/\r'.es=news)\/∃i r' p q,y=.oz i p q/\H i=some r'/\(r'.es.take q).drop p=news)
 (h1:r.sz=sz) (E:cQ sz news) (h:K (upd ρ d (.v (.int .i64 (min news.length n:Nat)))) (aH H j (some { r with es:=r.es.take a++news.take (min news.length n)++r.es.drop (a+min news.length n) }))):TU P d t x y ρ H K:=by grind[TU,aaG,yE,amM]
def Xq(P:Program)(d:Option Tmp)(t:TypeId)(x:AV)(ρ:Env)(H:aG)(K:Env->aG->Prop):Prop:=VJ P ⟨d,.move (.tmp 0),0,"",#[],none⟩ t x ρ H K
@[congr] theorem wclear_c {P d t s s' ρ H K} (h:s=s'):Xq P d t s ρ H K=Xq P d t s' ρ H K:=h▸rfl
def Yl{P:Program}{d:Option Tmp}{t:TypeId}{es:List (List AV)}{x:AV}{ρ:Env}{H:aG}{K:Env->aG->Prop}{e:TypeId}{sz A:Nat}{news:List (List AV)}(F:cA P t=some (e,sz,A))
  (J:x=.sl news\/∃i r',x=.os i/\H i=some r'/\r'.es=news) (h0:news≠[]) (h1:cQ sz es) (E:cQ sz news) (h3:(es.length+news.length)*A<=140737488355328)
  (h:∀j',H j'=none->K (upd ρ d (.os j')) (aH H j' (some ⟨e,sz,es++news⟩))):KX P d t (.cl es) x ρ H K:=by
 unfold KX uV
 grind[yE]
def aiS{P:Program}{d:Option Tmp}{t:TypeId}{x:AV}{ρ:Env}{H:aG}{K:Env->aG->Prop}{e:TypeId}{sz A:Nat}{news:List (List AV)}(F:cA P t=some (e,sz,A))
  (J:x=.sl news\/∃i r',x=.os i/\H i=some r'/\r'.es=news) (h0:news≠[]) (E:cQ sz news) (h3:news.length*A<=140737488355328)
  (h:∀j',H j'=none->K (upd ρ d (.os j')) (aH H j' (some ⟨e,sz,news⟩))):KX P d t (.v (.slice none 0 0)) x ρ H K:=by
 unfold KX uV;simp only[F];rcases J with rfl|⟨i,r',rfl,O,rfl⟩
 ·exact .inr ⟨⟨h0,trivial,E,by simpa using h3⟩,h⟩
 ·simp only[yE,O];exact .inr ⟨⟨h0,trivial,E,by simpa using h3⟩,h⟩
def aJ{H:aG}{r:Row}{F:Nat->aG->Prop}(h:∀j,H j=none->F j (aH H j (some r))):rV H r F:=h
def bV{α:Type}(o:Option α)(f:α->Prop):Prop:=match o with|some x=>f x|none=>False
def Kb{α:Type}{x:α}{f:α->Prop}:bV (some x) f=f x:=(rfl)
@[congr] theorem withO_c {α:Type} {o o':Option α} {f:α->Prop} (h:o=o'):bV o f=bV o' f:=h▸rfl
section
variable{P:Program}{C:mM}{PC:FuncId->List AV->aG->AV->Prop}{mt:Nat->Bool}{q:Bool}{ops:Array Oper}{d:Option Tmp}{ty:TypeId}{pos:String}{aft:Array Edge}{ρ:Env}{H:aG}{K:Env->aG->Prop}{G:Option Bool}{k:AV->Prop}
def Z1{t}:aev ρ (.tmp t)=ρ t:=(rfl)
def Og{v}:aev ρ (.const v)=tK v:=(rfl)
def ST{f}:aev ρ (.func f)=.v (.func (.func f) #[] #[]):=(rfl)
def Q7{t n a b}:kE P G .add t (.v (.int n a)) (.v (.int n b)) k=k (.v (.int n (n.wrap (a+b)))):=by simp[kE,Di]
def TO{t n a b}:kE P G .sub t (.v (.int n a)) (.v (.int n b)) k=k (.v (.int n (n.wrap (a-b)))):=by simp[kE,Di]
def Rq{t n a b}:kE P G .mul t (.v (.int n a)) (.v (.int n b)) k=k (.v (.int n (n.wrap (a*b)))):=by simp[kE,Di]
def SI{t n a b}:kE P G .quo t (.v (.int n a)) (.v (.int n b)) k=((gt G->b≠0)/\k (.v (.int n (n.wrap (a.tdiv b))))):=by simp[kE,Di]
def SH{t n a b}:kE P G .rem t (.v (.int n a)) (.v (.int n b)) k=((gt G->b≠0)/\k (.v (.int n (a.tmod b)))):=by simp[kE,Di]
def Q9{t n a b}:kE P G .eql t (.v (.int n a)) (.v (.int n b)) k=k (.v (.bool (a == b))):=by simp[kE,Di]
def Ts{t n a b}:kE P G .neq t (.v (.int n a)) (.v (.int n b)) k=k (.v (.bool (a != b))):=by simp[kE,Di]
def QH{t n a b}:kE P G .lss t (.v (.int n a)) (.v (.int n b)) k=k (.v (.bool (decide (a<b)))):=by simp[kE,Di]
def RA{t n a b}:kE P G .leq t (.v (.int n a)) (.v (.int n b)) k=k (.v (.bool (decide (a<=b)))):=by simp[kE,Di]
def T9{t n a b}:kE P G .gtr t (.v (.int n a)) (.v (.int n b)) k=k (.v (.bool (decide (a>b)))):=by simp[kE,Di]
def QL{t n a b}:kE P G .geq t (.v (.int n a)) (.v (.int n b)) k=k (.v (.bool (decide (a>=b)))):=by simp[kE,Di]
def US{t n m a b}:kE P G .shl t (.v (.int n a)) (.v (.int m b)) k=((gt G->0<=b)/\k (.v (.int n (shV .shl n a b)))):=by rfl
def QT{t n m a b}:kE P G .shr t (.v (.int n a)) (.v (.int m b)) k=((gt G->0<=b)/\k (.v (.int n (shV .shr n a b)))):=by rfl
def Tv{t n a b}:kE P G .and t (.v (.int n a)) (.v (.int n b)) k=k (.v (.int n (sI .and n a b))):=by simp[kE,Di]
def Zk{t n a b}:kE P G .or t (.v (.int n a)) (.v (.int n b)) k=k (.v (.int n (sI .or n a b))):=by simp[kE,Di]
def Hv{t n a b}:kE P G .andNot t (.v (.int n a)) (.v (.int n b)) k=k (.v (.int n (sI .andNot n a b))):=by simp[kE,Di]
def N6{op t x}:kE P G op t .any (.v x) k=((gt G->False)/\k .any):=by cases x with
 | pointer a=>cases a <;> rfl
 | _=>rfl
def Oh{x}:Bg false .any (.v x)=.v x:=by rfl
def NS{t a b}:kE P G .add t (.v (.string a)) (.v (.string b)) k=((gt G->((a.size+b.size:Nat):Int)<=IntKind.i64.max)/\k (.v (.string (a++b)))):=(rfl)
def Nv{t a b}:kE P G .eql t (.v (.string a)) (.v (.string b)) k=k (.v (.bool (a.toList == b.toList))):=(rfl)
def MY{t a b}:kE P G .neq t (.v (.string a)) (.v (.string b)) k=k (.v (.bool !(a.toList == b.toList))):=(rfl)
def Mt{t a b}:kE P G .eql t (.v (.bool a)) (.v (.bool b)) k=if CN P t then k (.v (.bool (a == b)))else False:=(rfl)
def N7{t a b}:kE P G .neq t (.v (.bool a)) (.v (.bool b)) k=if CN P t then k (.v (.bool !(a == b)))else False:=(rfl)
def Na{t x y}:kE P G .eql t (.agg x) (.agg y) k=bV (EW P t) fun l=>bV (kT l x y) fun b=>k (.v (.bool b)):=by grind[kE,bV]
def RU{c x y}:DC G c (.v x) (.v y) k=k (Bg c (.v x) (.v y)):=(rfl)
def Rp{c x g y}:DC G c (.v x) (.gd g y) k=((gt G->c=false->g=true)/\k (Bg c (.v x) y)):=(rfl)
def UE{c g x y}:DC G c (.gd g x) (.v y) k=((gt G->c=true->g=true)/\k (Bg c x (.v y))):=(rfl)
def YC{c b}:Bg c (.v (.bool true)) (.v (.bool b))=.v (.bool (c||b)):=(rfl)
def aaI{c a}:Bg c (.v (.bool a)) (.v (.bool false))=.v (.bool (c&&a)):=by cases a <;> cases c <;> rfl
def Nf{cs o}:rM G H none (.rp cs o) k=((gt G->o<cs.length)/\k (cs.getD o .any)):=(rfl)
def MN{cs o n}:rM G H (some n) (.rp cs o) k=((gt G->o+n<=cs.length)/\k (.agg ((cs.drop o).take n))):=(rfl)
def NX{j i f}:rM G H none (.op j i f) k=bV (H j) fun r=>(gt G->i<r.es.length/\f<r.sz)/\k ((r.es.getD i []).getD f .any):=by grind[rM,bV]
def ND{j i f n}:rM G H (some n) (.op j i f) k=bV (H j) fun r=>(gt G->i<r.es.length/\f+n<=r.sz)/\k (.agg (((r.es.getD i []).drop f).take n)):=by grind[rM,bV]
def aaS{o cs}:apart G o none (.agg cs) k=((gt G->o<cs.length)/\k (cs.getD o .any)):=(rfl)
def ZP{o n cs}:apart G o (some n) (.agg cs) k=((gt G->o+n<=cs.length)/\k (.agg ((cs.drop o).take n))):=(rfl)
def ZG{t es}:JO P H t (.sl es) k=if cJ P t then k (.v (.int .i64 es.length))else False:=(rfl)
def Y3{t j}:JO P H t (.os j) k=bV (H j) fun r=>if cJ P t then k (.v (.int .i64 r.es.length))else False:=by grind[JO,bV]
def ZR{t j a b}:JO P H t (.oz j a b) k=if cJ P t then k (.v (.int .i64 (b-a:Nat)))else False:=(rfl)
def Y2{t s}:JO P H t (.v (.string s)) k=if eO P t then k (.v (.int .i64 s.size))else False:=(rfl)
def Dt{t es n i}:fJ P G H t (.sl es) (.v (.int n i)) k=bV (cA P t) fun e=>(gt G->(0<=i/\i<es.length)/\(es.getD i.toNat []).length=e.2.1)/\k (.rp (es.getD i.toNat []) 0):=by grind[fJ,bV]
def DB{t j n i}:fJ P G H t (.os j) (.v (.int n i)) k=bV (H j) fun r=>bV (cA P t) fun e=>(gt G->(0<=i/\i<r.es.length)/\r.sz=e.2.1)/\k (.op j i.toNat 0):=by cases h1:H j <;> cases A:cA P t <;> simp[fJ,bV,h1,A]
def Dn{t j a b n i}:fJ P G H t (.oz j a b) (.v (.int n i)) k=bV (H j) fun r=>bV (cA P t) fun e=>(gt G->(0<=i/\i<(b-a:Nat))/\r.sz=e.2.1)/\k (.op j (a+i.toNat) 0):=by cases h1:H j <;> cases A:cA P t <;> simp[fJ,bV,h1,A]
def Dp{t cs o n i}:fJ P G H t (.rp cs o) (.v (.int n i)) k=bV (IL P t) fun e=>(gt G->0<=i/\i<e.1)/\k (.rp cs (o+i.toNat*e.2.1)):=by grind[fJ,bV]
def Dy{t j a o n i}:fJ P G H t (.op j a o) (.v (.int n i)) k=bV (IL P t) fun e=>(gt G->0<=i/\i<e.1)/\k (.op j a (o+i.toNat*e.2.1)):=by grind[fJ,bV]
def Dv{t f cs o}:kX P t f (.rp cs o) k=bV (aK P t f) fun e=>k (.rp cs (o+e.1)):=by grind[kX,bV]
def Ds{t f j i o}:kX P t f (.op j i o) k=bV (aK P t f) fun e=>k (.op j i (o+e.1)):=by grind[kX,bV]
def ZH{b}:aun .not (.v (.bool b)) k=k (.v (.bool !b)):=(rfl)
def ZZ{n i}:aun .neg (.v (.int n i)) k=k (.v (.int n (n.wrap (0-i)))):=(rfl)
def NI{s t n i}:B0 P s t (.v (.int n i)) k=bV (LZ P t) fun m=>bV (LZ P s) fun _=>k (.v (.int m (m.wrap i))):=by grind[LZ,B0,bV]
def NR{s t x}:B0 P s t (.v (.string x)) k=if eO P s/\eO P t then k (.v (.string x))else False:=(rfl)
def T1{s t es}:B0 P s t (.sl es) k=if Kv P s/\eO P t then bV (Bd es) fun ns=>k (.v (.string (strOfNums ns)))else False:=by grind[B0,bV]
def MV{t es n a m b}:oS P G t (.sl es) (some (.v (.int n a))) (some (.v (.int m b))) k=bV (cA P t) fun e=>(gt G->(0<=a/\a<=b/\b<=es.length)/\cQ e.2.1 es)/\k (.sl ((es.take b.toNat).drop a.toNat)):=by grind[oS,bV]
def UJ{t es n a}:oS P G t (.sl es) (some (.v (.int n a))) none k=bV (cA P t) fun e=>(gt G->(0<=a/\a<=es.length)/\cQ e.2.1 es)/\k (.sl (es.drop a.toNat)):=by grind[oS,bV]
def SA{t es m b}:oS P G t (.sl es) none (some (.v (.int m b))) k=bV (cA P t) fun _=>(gt G->0<=b/\b<=es.length)/\k (.sl (es.take b.toNat)):=by grind[oS,bV]
def Lh{t s n a m b}:oS P G t (.v (.string s)) (some (.v (.int n a))) (some (.v (.int m b))) k=if eO P t then(gt G->0<=a/\a<=b/\b<=s.size)/\k (.v (.string (s.extract a.toNat b.toNat)))else False:=(rfl)
def Mg{t s n a}:oS P G t (.v (.string s)) (some (.v (.int n a))) none k=if eO P t then(gt G->0<=a/\a<=s.size)/\k (.v (.string (s.extract a.toNat s.size)))else False:=(rfl)
def Nx{t s m b}:oS P G t (.v (.string s)) none (some (.v (.int m b))) k=if eO P t then(gt G->0<=b/\b<=s.size)/\k (.v (.string (s.extract 0 b.toNat)))else False:=(rfl)
def RH{P:Program}{t es n m}{a b:Int}:HJ P G t (.sl es) (.v (.int n a)) (.v (.int m b)) k=bV (cA P t) fun _=>(gt G->a=es.length/\b=es.length)/\k (.cl es):=by grind[HJ,bV]
@[congr] theorem aclip_c {P:Program} {t x x' a a' b b'} (h:x=x') (h1:a=a') (h2:b=b'):HJ P G t x a b k=HJ P G t x' a' b' k:=h▸h1▸h2▸rfl
def Nm{t s n i}:AL P G t (.v (.string s)) (.v (.int n i)) k=if eO P t then(gt G->0<=i/\i<s.size)/\k (.v (.int .u8 ((s.data.getD i.toNat 0).toNat:Int)))else False:=(rfl)
def NB{t cs n i}:AL P G t (.agg cs) (.v (.int n i)) k=bV (IL P t) fun e=>(gt G->0<=i/\i<e.1)/\apart G (i.toNat*e.2.1) e.2.2 (.agg cs) k:=by grind[AL,bV]
def Jd{cs}{k:List AV->Prop}:oQ (.agg cs) k=k cs:=(rfl)
def QS{v}{k:List AV->Prop}:oQ (.v v) k=(v.oneCell'=true/\k [.v v]):=(rfl)
def My{es}{k:List AV->Prop}:oQ (.sl es) k=k [.sl es]:=(rfl)
def Nw{cs o}{k:List AV->Prop}:oQ (.rp cs o) k=k [.rp cs o]:=(rfl)
def No{j}{k:List AV->Prop}:oQ (.os j) k=k [.os j]:=(rfl)
def Mz{j i f}{k:List AV->Prop}:oQ (.op j i f) k=k [.op j i f]:=(rfl)
def NG{t l}:BW P t l k=bV (dH P t) fun z=>bV (dP P t) fun A=>bV (wB A z l) fun cs=>k (.agg cs):=by
 cases h1:dH P t with
 | none=>grind[BW,bV]
 | some z=>cases E:dP P t<;>grind[BW,bV]
def wgd(x:AV)(w:Bool)(F:Option Bool->Prop):Prop:=match x with
 | .v (.bool b)=>F (some (b == w))
 | .gd g (.v (.bool b))=>F (some (g&&(b == w)))
 | _=>False
@[congr] theorem wgd_c {x x' w F} (h:x=x'):wgd x w F=wgd x' w F:=h▸rfl
def axK{b w F}:wgd (.v (.bool b)) w F=F (some (b == w)):=(rfl)
def axG{g b w F}:wgd (.gd g (.v (.bool b))) w F=F (some (g&&(b == w))):=(rfl)
def HY{F}:cP ops ρ none F=F none:=(rfl)
def HW{j w F}:cP ops ρ (some (j,w)) F=bV ((ops[j]?).bind (·.dst)) fun t=>wgd (ρ t) w F:=by grind[cP,bV,wgd]
def oX(K:Env->aG->Prop)(ρ:Env)(d:Option Tmp)(G:Option Bool)(H:aG)(x:AV):Prop:=K (upd ρ d (wr G x)) H
def NH{x}:oX K ρ d none H x=K (upd ρ d x) H:=(rfl)
def Ml{b x}:oX K ρ d (some b) H x=K (upd ρ d (.gd b x)) H:=(rfl)
end
section
variable{P:Program}{C:mM}{PC:FuncId->List AV->aG->AV->Prop}{mt:Nat->Bool}{q:Bool}{ops:Array Oper}{d:Option Tmp}{ty:TypeId}{pos:String}{aft:Array Edge}{gd:Option (Nat×Bool)}{ρ:Env}{H:aG}{K:Env->aG->Prop}
def ajY{x}:aop P C PC mt q ops ⟨d,.move x,ty,pos,aft,gd⟩ ρ H K=cP ops ρ gd fun G=>if uQ mt d=true then G=none/\q=false/\C0 x ρ d H K else bU G (aev ρ x) (oX K ρ d G H):=(rfl)
def anU{c a b}:aop P C PC mt q ops ⟨d,.pick c a b,ty,pos,aft,gd⟩ ρ H K=cP ops ρ gd fun G=>bU G (aev ρ c) fun x=>wpick G x (aev ρ a) (aev ρ b) (oX K ρ d G H):=(rfl)
def abN{t l}: aop P C PC mt q ops ⟨d, .build t l, ty, pos, aft, gd⟩ ρ H K = cP ops ρ gd fun G => if uQ mt d = true then G = none /\ (if q = true then sM none ρ l.toList (fun l => bV (dH P t) fun z => bV (dP P t) fun A => bV (uO P t) fun nl => bV (wB A (Mc nl z) l) fun cs => oX K ρ d none H (.agg cs)) else
   sM none ρ l.toList (fun l=>bV (dH P t) fun z=>bV (dP P t) fun A=>bV (uO P t) fun nl=>lE nl z H fun z H=>bV (wB A z l) fun cs=>oX K ρ d none H (.agg cs)))
  else sM G ρ l.toList fun l=>BW P t l (oX K ρ d G H):=by
 show cP ops ρ gd (fun G=>if uQ mt d=true then G=none/\(if q=true then CK P ⟨d,.build t l,ty,pos,aft,gd⟩ t l.toList ρ H K else Fh P ⟨d,.build t l,ty,pos,aft,gd⟩ t l.toList ρ H K)else _)=_
 congr 1;funext G;congr 3
 ·unfold CK
  congr 1;funext l
  cases h1:dH P t with
  | none=>rfl
  | some z=>cases E:dP P t with
   | none=>rfl
   | some A=>cases h3:uO P t with
    | none=>rfl
    | some nl=>simp only[bV];cases F:wB A (Mc nl z) l <;> rfl
 unfold Fh
 congr 1;funext l
 cases h1:dH P t with
 | none=>rfl
 | some z=>cases E:dP P t with
  | none=>rfl
  | some A=>cases h3:uO P t with
   | none=>rfl
   | some nl=>simp only[bV];congr 1;funext z H;cases F:wB A z l <;> rfl
def aiY{t x}:aop P C PC mt q ops ⟨d,.load t x,ty,pos,aft,gd⟩ ρ H K=cP ops ρ gd fun G=>if uQ mt d=true then G=none/\q=false/\bV (ldT P t) fun l=>bU none (aev ρ x) fun y=>rM none H l y fun z=>Ol z ρ d H K else bV (ldT P t) fun l=>bU G (aev ρ x) fun y=>rM G H l y (oX K ρ d G H):=by
 show cP ops ρ gd (fun G=>if uQ mt d=true then G=none/\q=false/\jE P none ρ H (.load t x) fun z=>Ol z ρ d H K else jE P G ρ H (.load t x) (oX K ρ d G H))=_
 grind[jE,bV]
def Qc{x}:aop P C PC mt q ops ⟨d,.nilCheck x,ty,pos,aft,gd⟩ ρ H K=cP ops ρ gd fun G=>bU G (aev ρ x) fun y=>aeP G y (oX K ρ d G H):=(rfl)
def arP{op t x y t'}:aop P C PC mt q ops ⟨d,.binOp op t x y t',ty,pos,aft,gd⟩ ρ H K=cP ops ρ gd fun G=>if vS y=true then bU G (aev ρ x) fun x=>cJ P t=true/\uI op x (oX K ρ d G H)else bU G (aev ρ x) fun x=>bU G (aev ρ y) fun y=>kE P G op t x y (oX K ρ d G H):=(rfl)
def aAU{op t x}:aop P C PC mt q ops ⟨d,.unOp op t x,ty,pos,aft,gd⟩ ρ H K=cP ops ρ gd fun G=>bU G (aev ρ x) fun x=>aun op x (oX K ρ d G H):=(rfl)
def aoA{s t x}:aop P C PC mt q ops ⟨d,.convert s t x,ty,pos,aft,gd⟩ ρ H K=cP ops ρ gd fun G=>bU G (aev ρ x) fun x=>B0 P s t x (oX K ρ d G H):=(rfl)
def Py{t x lo A}:aop P C PC mt q ops ⟨d,.slice t x (some lo) (some A) none,ty,pos,aft,gd⟩ ρ H K=cP ops ρ gd fun G=>bU G (aev ρ x) fun x=>bU G (aev ρ lo) fun lo=>bU G (aev ρ A) fun A=>asl P G H t x (some lo) (some A) (oX K ρ d G H):=(rfl)
def QZ{t x A m}:aop P C PC mt q ops ⟨d,.slice t x none (some A) (some m),ty,pos,aft,gd⟩ ρ H K=cP ops ρ gd fun G=>bU G (aev ρ x) fun x=>bU G (aev ρ A) fun A=>bU G (aev ρ m) fun m=>HJ P G t x A m (oX K ρ d G H):=(rfl)
def UR{t x lo}:aop P C PC mt q ops ⟨d,.slice t x (some lo) none none,ty,pos,aft,gd⟩ ρ H K=cP ops ρ gd fun G=>bU G (aev ρ x) fun x=>bU G (aev ρ lo) fun lo=>asl P G H t x (some lo) none (oX K ρ d G H):=(rfl)
def Su{t x A}:aop P C PC mt q ops ⟨d,.slice t x none (some A) none,ty,pos,aft,gd⟩ ρ H K=cP ops ρ gd fun G=>bU G (aev ρ x) fun x=>bU G (aev ρ A) fun A=>asl P G H t x none (some A) (oX K ρ d G H):=(rfl)
def LO{t x f}:aop P C PC mt q ops ⟨d,.fieldAddr t x f,ty,pos,aft,gd⟩ ρ H K=cP ops ρ gd fun G=>bU G (aev ρ x) fun x=>kX P t f x (oX K ρ d G H):=(rfl)
def Ls{t x i}:aop P C PC mt q ops ⟨d,.indexAddr t x i,ty,pos,aft,gd⟩ ρ H K=cP ops ρ gd fun G=>bU G (aev ρ x) fun x=>bU G (aev ρ i) fun i=>fJ P G H t x i (oX K ρ d G H):=(rfl)
def agT{t x i}:aop P C PC mt q ops ⟨d,.index t x i,ty,pos,aft,gd⟩ ρ H K=cP ops ρ gd fun G=>bU G (aev ρ x) fun x=>bU G (aev ρ i) fun i=>AL P G t x i (oX K ρ d G H):=(rfl)
def Tx{x i}:aop P C PC mt q ops ⟨d,.extract x i,ty,pos,aft,gd⟩ ρ H K=cP ops ρ gd fun G=>bU G (aev ρ x) fun x=>arM G x i (oX K ρ d G H):=(rfl)
def XR{x}:aop P C PC mt q ops ⟨d,.assign x,ty,pos,aft,gd⟩ ρ H K=cP ops ρ gd fun G=>if uQ mt d=true/\G=none/\q=false/\vS x=true then bV (cA P ty) fun e=>rV H ⟨e.1,e.2.1,[]⟩ (ZF K ρ d)else bU G (aev ρ x) (oX K ρ d G H):=by
 show cP ops ρ gd (fun G=>Fp P mt q G ⟨d,.assign x,ty,pos,aft,gd⟩ x ρ H K)=_
 congr 1;funext G
 unfold Fp;cases h1:cA P ty <;> rfl
def abF{t}:aop P C PC mt q ops ⟨d,.alloc t,ty,pos,aft,gd⟩ ρ H K=cP ops ρ gd fun G=>bV (dH P t) fun z=>G=none/\q=false/\(if uQ mt d=true then bV (uO P t) fun nl=>lE nl z H fun z H=>rV H ⟨t,z.length,[z]⟩ (YU K ρ d)else rV H ⟨t,z.length,[z]⟩ (YU K ρ d)):=by
 show cP ops ρ gd (fun G=>match dH P t with
   | some z => G = none /\ q = false /\ (if uQ mt d = true then match uO P t with
       | some nl=>lE nl z H fun z H=>rV H ⟨t,z.length,[z]⟩ fun k H'=>K (upd ρ d (.op k 0 0)) H'
       | none=>False
     else rV H ⟨t,z.length,[z]⟩ fun k H'=>K (upd ρ d (.op k 0 0)) H')
   | none=>False)=_
 congr 1;funext G;cases h1:dH P t <;> cases A:uO P t <;> rfl
def arW{t x}:aop P C PC mt q ops ⟨d,.box t x,ty,pos,aft,gd⟩ ρ H K=cP ops ρ gd fun G=>G=none/\q=false/\bU G (aev ρ x) fun x=>oQ x fun cs=>if uQ mt d=true then 0<cs.length/\rV H ⟨t,cs.length,[cs]⟩ (YU K ρ d)else K (upd ρ d (.rp cs 0)) H:=(rfl)
def KJ{t n l}:aop P C PC mt q ops ⟨d,.buildSlice t n l,ty,pos,aft,gd⟩ ρ H K=cP ops ρ gd fun G=>q=false/\sM G ρ l.toList fun l=>bV (cA P t) fun e=>(l.map (·.1)=Qk 0 n/\cQ e.2.1 (l.map (·.2))/\n*e.2.1<=16777216)/\(if uQ mt d=true/\G=none then rV H ⟨e.1,e.2.1,l.map (·.2)⟩ (ZF K ρ d)else oX K ρ d G H (.sl (l.map (·.2)))):=by
 show cP ops ρ gd (fun G=>q=false/\sM G ρ l.toList fun l'=>qG P mt G ⟨d,.buildSlice t n l,ty,pos,aft,gd⟩ t n l' ρ H K)=_
 congr 1;funext G;congr 2;funext l;unfold qG;cases h1:cA P t <;> rfl
def acC{t x y}:aop P C PC mt q ops ⟨d,.store t x y,ty,pos,aft,gd⟩ ρ H K=cP ops ρ gd fun G=>G=none/\q=false/\(if vS y=true then bU G (aev ρ x) fun x=>bV (cA P t) fun e=>rV H ⟨e.1,e.2.1,[]⟩ (fun j H=>aeI P d t x [.os j] ρ H K)else bU G (aev ρ x) fun x=>bU G (aev ρ y) fun y=>oQ y fun cs=>aeI P d t x cs ρ H K):=by
 show cP ops ρ gd (fun G => G = none /\ q = false /\ (if vS y = true then bU G (aev ρ x) fun a => match cA P t with
       | some (e,sz,_)=>rV H ⟨e,sz,[]⟩ fun k H=>xX P _ t a [.os k] ρ H K
       | none=>False
     else bU G (aev ρ x) fun a=>bU G (aev ρ y) fun x=>oQ x fun cs=>xX P _ t a cs ρ H K))=_
 congr 1;funext G;congr 4;funext a
 cases h1:cA P t <;> rfl
def apC:BF P C PC mt ops K [] ρ H=K ρ H:=(rfl)
def ayC{k f}:BF P C PC mt ops K ((k,true)::f) ρ H=bV ops[k]? fun o=>aop P C PC mt true ops o ρ (qH o H) fun A _=>BF P C PC mt ops K f A H:=by grind[BF,bV]
def aAp{k f}:BF P C PC mt ops K ((k,false)::f) ρ H=bV ops[k]? fun o=>aop P C PC mt false ops o ρ H (BF P C PC mt ops K f):=by grind[BF,bV]
def abT{Hp}:Bh P C PC mt ops K Hp [] ρ H=K ρ H:=(rfl)
def atQ{Hp k f}:Bh P C PC mt ops K Hp ((k,true)::f) ρ H=bV ops[k]? fun o=>aop P C PC mt true ops o ρ Hp fun A _=>Bh P C PC mt ops K Hp f A H:=by grind[Bh,bV]
def atB{Hp k f}:Bh P C PC mt ops K Hp ((k,false)::f) ρ H=bV ops[k]? fun o=>aop P C PC mt false ops o ρ H (Bh P C PC mt ops K Hp f):=by grind[Bh,bV]
def azW{k}:Dh P C PC mt q ops k ρ H K=bV ops[k]? fun o=>aop P C PC mt q ops o ρ H K:=by grind[Dh,bV]
def adN{Hp}:nO P C PC mt ops K Hp .nil ρ H=K ρ H:=(rfl)
def asK{Hp k t}:nO P C PC mt ops K Hp (.q k t) ρ H=Dh P C PC mt true ops k ρ Hp fun A _=>nO P C PC mt ops K Hp t A H:=(rfl)
def awL{Hp k t}:nO P C PC mt ops K Hp (.a1 k t) ρ H=Dh P C PC mt false ops k ρ H (nO P C PC mt ops K Hp t):=(rfl)
def lF{Hp k t k' t'}(h:Dh P C PC mt false ops k ρ H (nO P C PC mt ops K Hp t))(A:Dh P C PC mt false ops k' ρ H (nO P C PC mt ops K Hp t')):nO P C PC mt ops K Hp (.a2 k t k' t') ρ H:=⟨h,A⟩
def Pw{f cap}:aop P C PC mt q ops ⟨d,.makeFunc (.func f) #[] cap,ty,pos,aft,gd⟩ ρ H K=cP ops ρ gd fun G=>DE G ρ cap.toList fun l=>oX K ρ d G H (.fn f l):=by
 show cP ops ρ gd (fun G=>jE P G ρ H (.makeFunc (.func f) #[] cap) (oX K ρ d G H))=_
 grind[jE]
def axH(K:Env->aG->Prop)(ρ:Env)(d:Option Tmp)(j:Nat)(H:aG):Prop:=K (upd ρ d (.om j)) H
def QK{j}:axH K ρ d j H=K (upd ρ d (.om j)) H:=(rfl)
def XQ{t x i ok}:aop P C PC mt q ops ⟨d,.lookup t x i ok,ty,pos,aft,gd⟩ ρ H K=cP ops ρ gd fun G=>bU G (aev ρ x) fun x=>bU G (aev ρ i) fun i=>xM P H t x i ok (oX K ρ d G H):=(rfl)
def TC{t}:aop P C PC mt q ops ⟨d,.makeMap t none,ty,pos,aft,gd⟩ ρ H K=cP ops ρ gd fun G=>G=none/\q=false/\rV H ⟨0,2,[]⟩ (axH K ρ d):=(rfl)
def Oe(P:Program)(d:Option Tmp)(t:TypeId)(m x v:AV)(ρ:Env)(H:aG)(K:Env->aG->Prop):Prop:=nX P ⟨d,.move (.tmp 0),0,"",#[],none⟩ t m x v ρ H K
@[congr] theorem wmapU_c {P d t m m' x x' v v' ρ H K} (h0:m=m') (h1:x=x') (h2:v=v'):Oe P d t m x v ρ H K=Oe P d t m' x' v' ρ H K:=h0▸h1▸h2▸rfl
def aoJ(P:Program)(d:Option Tmp)(t:TypeId)(m x:AV)(ρ:Env)(H:aG)(K:Env->aG->Prop):Prop:=CS P ⟨d,.move (.tmp 0),0,"",#[],none⟩ t m x ρ H K
@[congr] theorem wmapE_c {P d t m m' x x' ρ H K} (h0:m=m') (h1:x=x'):aoJ P d t m x ρ H K=aoJ P d t m' x' ρ H K:=h0▸h1▸rfl
def akN(d:Option Tmp)(m s v:AV)(ρ:Env)(H:aG)(K:Env->aG->Prop):Prop:=xG ⟨d,.move (.tmp 0),0,"",#[],none⟩ m s v ρ H K
@[congr] theorem wmapS_c {d m m' x x' v v' ρ H K} (h0:m=m') (h1:x=x') (h2:v=v'):akN d m x v ρ H K=akN d m' x' v' ρ H K:=h0▸h1▸h2▸rfl
@[congr] theorem alookup_c {P H t x x' i i' ok k} (h0:x=x') (h1:i=i'):xM P H t x i ok k=xM P H t x' i' ok k:=h0▸h1▸rfl
def L1{t m x v}:aop P C PC mt q ops ⟨d,.mapUpdate t m x v,ty,pos,aft,gd⟩ ρ H K=cP ops ρ gd fun G=>G=none/\q=false/\bU G (aev ρ m) fun m=>bU G (aev ρ x) fun x=>bU G (aev ρ v) fun v=>Oe P d t m x v ρ H K:=(rfl)
def U3{t m x v}:aop P C PC mt q ops ⟨d,.insert t m x v,ty,pos,aft,gd⟩ ρ H K=cP ops ρ gd fun G=>G=none/\q=false/\bU G (aev ρ m) fun m=>bU G (aev ρ x) fun x=>bU G (aev ρ v) fun v=>Oe P d t m x v ρ H K:=(rfl)
def Qm{t m x}:aop P C PC mt q ops ⟨d,.mapEntry t m x,ty,pos,aft,gd⟩ ρ H K=cP ops ρ gd fun G=>G=none/\q=false/\bU G (aev ρ m) fun m=>bU G (aev ρ x) fun x=>aoJ P d t m x ρ H K:=(rfl)
def Lj{t m s v}:aop P C PC mt q ops ⟨d,.entryStore t m s v,ty,pos,aft,gd⟩ ρ H K=cP ops ρ gd fun G=>G=none/\q=false/\bU G (aev ρ m) fun m=>bU G (aev ρ s) fun s=>bU G (aev ρ v) fun v=>akN d m s v ρ H K:=(rfl)
def Aj{t j key ok k r kt oi z}(F:H j=some r)(O:Vk P t=some kt)(A:rS P kt.1 key=true)(J:xY (wI P kt.1 key) r.es 0=some oi)(E:Oq P kt.2=some z)(h:k (Pi ok z r.es oi)):xM P H t (.om j) key ok k:=by grind[xM,Ia]
def I4{t j key v r kt oi}(E:H j=some r)(J:Vk P t=some kt)(A:rS P kt.1 key=true)(F:xY (wI P kt.1 key) r.es 0=some oi)(h:K (upd ρ d .any) (aH H j (some { r with es:=adC r.es oi key v }))):Oe P d t (.om j) key v ρ H K:=by grind[Oe,nX,Ia]
def LD{t l c}:aop P C PC mt q ops ⟨d,.makeSlice t l c,ty,pos,aft,gd⟩ ρ H K=cP ops ρ gd fun G=>G=none/\q=false/\bU G (aev ρ l) fun l=>bU G (aev ρ c) fun c=>TM P d t l c ρ H K:=(rfl)
def aeH{t args tys}:aop P C PC mt q ops ⟨d,.call ⟨.value (.tmp t),args,tys⟩,ty,pos,aft,gd⟩ ρ H K=cP ops ρ gd fun G=>bU G (ρ t) fun x=>bV (LR x) fun y=>if uQ mt d=true then gt G/\q=false/\aF P y.1=true/\C y.1 (y.2.1++args.toList.map (Pc ρ)++y.2.2) H (Sv K ρ d)else DE G ρ args.toList fun l=>aF P y.1=true/\(if G=none/\q=false then C y.1 (y.2.1++l++y.2.2) H (Sv K ρ d)else ∃r,(gt G->PC y.1 (y.2.1++l++y.2.2) H r)/\nfq q r (oX K ρ d G H)):=by
 show cP ops ρ gd (fun G=>EA P C PC (uQ mt d) q G ⟨d,.call ⟨.value (.tmp t),args,tys⟩,ty,pos,aft,gd⟩ ⟨.value (.tmp t),args,tys⟩ ρ H K)=_
 congr 1;funext G
 simp only[EA,aev]
 congr 1;funext x
 cases h:LR x with
 | none=>rfl
 | some y=>rfl
def amE{f args tys}:aop P C PC mt q ops ⟨d,.call ⟨.value (.func f),args,tys⟩,ty,pos,aft,gd⟩ ρ H K=cP ops ρ gd fun G=>if uQ mt d=true then gt G/\q=false/\aF P f=true/\C f (args.toList.map (Pc ρ)) H (Sv K ρ d)else DE G ρ args.toList fun l=>aF P f=true/\(if G=none/\q=false then C f l H (Sv K ρ d)else ∃r,(gt G->PC f l H r)/\nfq q r (oX K ρ d G H)):=by
 show cP ops ρ gd (fun G=>EA P C PC (uQ mt d) q G ⟨d,.call ⟨.value (.func f),args,tys⟩,ty,pos,aft,gd⟩ ⟨.value (.func f),args,tys⟩ ρ H K)=_
 congr 1;funext G
 simp only[EA,aev,bU,LR,List.map_nil,List.nil_append,List.append_nil];rfl
def Sd{t}:Pc ρ (.tmp t)=ρ t:=(rfl)
def Ju{v}:Pc ρ (.const v)=.v v:=(rfl)
def Mw{f}:Pc ρ (.func f)=.v (.func (.func f) #[] #[]):=(rfl)
def avL{x t}:aop P C PC mt q ops ⟨d,.call ⟨.builtin .len,#[x],#[t]⟩,ty,pos,aft,gd⟩ ρ H K=cP ops ρ gd fun G=>bU G (aev ρ x) fun x=>JO P H t x (oX K ρ d G H):=(rfl)
def auB{x y t t'}:aop P C PC mt q ops ⟨d,.call ⟨.builtin .max,#[x,y],#[t,t']⟩,ty,pos,aft,gd⟩ ρ H K=cP ops ρ gd fun G=>bU G (aev ρ x) fun x=>bU G (aev ρ y) fun y=>X0 x y (oX K ρ d G H):=(rfl)
def avN{x y t t'}:aop P C PC mt q ops ⟨d,.call ⟨.builtin .min,#[x,y],#[t,t']⟩,ty,pos,aft,gd⟩ ρ H K=cP ops ρ gd fun G=>bU G (aev ρ x) fun x=>bU G (aev ρ y) fun y=>Xo x y (oX K ρ d G H):=(rfl)
def ajU{n m a b}{k:AV->Prop}:X0 (.v (.int n a)) (.v (.int m b)) k=k (.v (.int n (eF a b))):=(rfl)
def agZ{n m a b}{k:AV->Prop}:Xo (.v (.int n a)) (.v (.int m b)) k=k (.v (.int n (azZ a b))):=(rfl)
def anC{x y t t'}:aop P C PC mt q ops ⟨d,.call ⟨.builtin .copy,#[x,y],#[t,t']⟩,ty,pos,aft,gd⟩ ρ H K=cP ops ρ gd fun G=>bU G (aev ρ x) fun x=>bU G (aev ρ y) fun y=>if G=none/\q=false then TU P d t x y ρ H K else False:=(rfl)
def afK{x t}:aop P C PC mt q ops ⟨d,.call ⟨.builtin .clear,#[x],#[t]⟩,ty,pos,aft,gd⟩ ρ H K=cP ops ρ gd fun G=>bU G (aev ρ x) fun x=>if G=none/\q=false then Xq P d t x ρ H K else False:=(rfl)
def anN{G:Option Bool}{k:AV->Prop}{t es lo hi}:asl P G H t (.sl es) lo hi k=oS P G t (.sl es) lo hi k:=(rfl)
def axW{G:Option Bool}{k:AV->Prop}{t v lo hi}:asl P G H t (.v v) lo hi k=oS P G t (.v v) lo hi k:=(rfl)
def axN{G:Option Bool}{k:AV->Prop}{t j n a}:asl P G H t (.os j) (some (.v (.int n a))) none k=bV (H j) fun r=>bV (cA P t) fun e=>(gt G->(0<=a/\a<=r.es.length)/\r.sz=e.2.1)/\k (.oz j a.toNat r.es.length):=by cases h1:H j <;> cases A:cA P t <;> simp[asl,bV,h1,A]
def aaA{G:Option Bool}{k:AV->Prop}{t j a b n l}:asl P G H t (.oz j a b) (some (.v (.int n l))) none k=bV (H j) fun r=>bV (cA P t) fun e=>(gt G->(0<=l/\l<=(b-a:Nat))/\r.sz=e.2.1)/\k (.oz j (a+l.toNat) b):=by cases h1:H j <;> cases A:cA P t <;> simp[asl,bV,h1,A]
def TN{k:AV->Prop}{es}:uI .eql (.sl es) k=((es=[]->k (.v (.bool true)))/\k (.v (.bool false))):=(rfl)
def Tp{k:AV->Prop}{es}:uI .neq (.sl es) k=((es=[]->k (.v (.bool false)))/\k (.v (.bool true))):=(rfl)
def Mf{k:AV->Prop}{j}:uI .eql (.os j) k=(k (.v (.bool true))/\k (.v (.bool false))):=(rfl)
def NZ{k:AV->Prop}:uI .eql (.v (.slice none 0 0)) k=k (.v (.bool true)):=(rfl)
def Oa{k:AV->Prop}:uI .neq (.v (.slice none 0 0)) k=k (.v (.bool false)):=(rfl)
def N0{k:AV->Prop}{j}:uI .neq (.os j) k=(k (.v (.bool false))/\k (.v (.bool true))):=(rfl)
def XM{s x t t'}:aop P C PC mt q ops ⟨d,.call ⟨.builtin .append,#[s,x],#[t,t']⟩,ty,pos,aft,gd⟩ ρ H K=cP ops ρ gd fun G=>bU G (aev ρ s) fun s=>bU G (aev ρ x) fun x=>if t=t'/\G=none/\q=false then KX P d t s x ρ H K else False:=(rfl)
end
section
variable{P:Program}{d:Option Tmp}{ρ:Env}{H:aG}{K:Env->aG->Prop}
def aaP{t n a m b}:TM P d t (.v (.int n a)) (.v (.int m b)) ρ H K=bV (cA P t) fun e=>bV (dH P e.1) fun z=>((0<=a/\a<=b)/\(e.2.2:Int)*b<=140737488355328)/\rV H ⟨e.1,e.2.1,List.replicate a.toNat z⟩ (ZF K ρ d):=by
 unfold TM wX;cases h1:cA P t with
 | none=>rfl
 | some e=>obtain⟨x,y,z⟩:=e;cases A:dH P x <;> simp[bV,A] <;> intros <;> rfl
def aAl{f first captured}:LR (.v (.func (.func f) first captured))=some (f,first.toList.map .v,captured.toList.map .v):=(rfl)
def axL{q x}{k:AV->Prop}:nfq q (.v x) k=k (.v x):=by cases q <;> rfl
def Yv{q x}{k:AV->Prop}:nfq q (.agg x) k=k (.agg x):=by cases q <;> rfl
def Za{q x}{k:AV->Prop}:nfq q (.tup x) k=k (.tup x):=by cases q <;> rfl
def ahR{x}{k:AV->Prop}:nfq false (.nf x) k=k x:=(rfl)
def asO{f l}:LR (.fn f l)=some (f,[],l):=(rfl)
end
attribute [go_sem ↓] N6 Oh
attribute [go_sem] N6 Oh
@[congr] theorem asl_c {P G H t x x' lo lo' hi hi' k} (h:x=x') (h1:lo=lo') (h2:hi=hi'):asl P G H t x lo hi k=asl P G H t x' lo' hi' k:=h▸h1▸h2▸rfl
@[congr] theorem aeqNil_c {op x x' k} (h:x=x'):uI op x k=uI op x' k:=h▸rfl
def PK{α:Type}{a:α}{l r:List α}:List.append (a::l) r=a::List.append l r:=(rfl)
def QY{α:Type}{r:List α}:List.append [] r=r:=(rfl)
attribute [go_sem] PK QY
attribute [go_sem] qH
@[congr] theorem amax_c {x x' y y' K} (h:x=x') (h':y=y'):X0 x y K=X0 x' y' K:=h▸h'▸rfl
@[congr] theorem amin_c {x x' y y' K} (h:x=x') (h':y=y'):Xo x y K=Xo x' y' K:=h▸h'▸rfl
attribute [go_sem ↓] auB avN ajU agZ
attribute [go_sem] ajU agZ
@[congr] theorem pinEnd_c {l l' H K ρ H'} (h:l=l'):sN l H K ρ H'=sN l' H K ρ H':=h▸rfl
attribute [go_sem] Mc List.set_cons_zero List.set_cons_succ
attribute [go_sem ↓] adN asK awL azW
attribute [go_sem ↓] abT atQ atB
attribute [go_sem ↓] apC ayC aAp anC afK anN axW axN TN Tp Mf N0 NZ Oa
attribute [go_sem ↓] aaA ZR Dn
attribute [go_sem] aaA ZR Dn
attribute [go_sem] anN axW axN TN Tp Mf N0 NZ Oa
attribute [go_sem ↓] axL Yv Za ahR
attribute [go_sem ↓] XQ TC L1 U3 Qm Lj ZS QK
attribute [go_sem] ZS QK
attribute [go_sem] axL Yv Za ahR
attribute [go_sem ↓] Pw LD aeH aaP US QT Tv Zk Hv Yi YW Y5 RH QZ
attribute [go_sem] aaP US QT Tv Zk Hv Yi YW Y5 RH aAl asO
attribute [go_sem] Y4 axU
@[congr] theorem ownNils_c {l l' z z' H K} (h:l=l') (h':z=z'):lE l z H K=lE l' z' H K:=h▸h'▸rfl
def Q6{z H K}:lE [] z H K=K z H:=(rfl)
def OC{o e sz r z H K}:lE ((o,e,sz)::r) z H K=rV H ⟨e,sz,[]⟩ fun k H'=>lE r (z.set o (.os k)) H' K:=(rfl)
attribute [go_sem ↓] Q6 OC
attribute [go_sem ↓] akD JU Rl Zs QW Nn MF adE SE akL asU apV adY Wr apQ auN WF ZX Te afL
attribute [go_sem ↓] DE sM ajY anU abN aiY Qc arP aAU aoA Py UR Su LO Ls agT Tx XR abF arW KJ acC amE avL XM
attribute [go_sem ↓] ZA ZT YA S9 Y1 Q7 TO Rq SI SH Q9 Ts QH RA T9 QL NS Nv MY Mt N7 Na RU Rp UE YC aaI Nf MN NX ND aaS ZP ZG Y3 Y2 Dt DB Dp Dy Dv Ds ZH ZZ NI NR T1 MV UJ SA Lh Mg Nx Nm NB Jd QS My Nw No Mz NG axK axG HY HW aoO RT YP YZ Uu Rg Z3 ZJ Z5 Kb NH Ml T7 UT QO Z1 Og ST Sd Ju Mw
attribute [go_sem] Vl ZA ZT YA S9 Y1 Q7 TO Rq SI SH Q9 Ts QH RA T9 QL NS Nv MY Mt N7 Na RU Rp UE YC aaI Nf MN NX ND aaS ZP ZG Y3 Y2 Dt DB Dp Dy Dv Ds ZH ZZ NI NR T1 MV UJ SA Lh Mg Nx Nm NB Jd QS My Nw No Mz NG axK axG HY HW aoO RT YP YZ Uu Rg Z3 ZJ Z5 Kb NH Ml T7 UT QO Z1 Og ST Sd Ju Mw
attribute [go_sem] aAq apL uQ vS tK Ip gt gok wr Al kT TY Value.oneCell' Qk cQ Bd Option.map_some wB oY aB
attribute [go_sem] Bool.false_eq_true if_false if_true reduceCtorEq true_and and_true false_and and_false false_implies true_implies implies_true forall_const and_self imp_self ne_eq not_true_eq_false not_false_eq_true
attribute [go_sem] List.getD_cons_zero List.getD_cons_succ List.getD_nil List.length_cons List.length_nil List.drop_zero List.drop_succ_cons List.take_succ_cons List.take_zero Option.getD_some Option.getD_none Nat.zero_add Nat.add_zero List.map_cons List.map_nil List.cons_append List.nil_append List.append_nil
attribute [go_sem] Option.bind_some List.getElem?_toArray List.getElem?_cons_zero List.getElem?_cons_succ
attribute [go_sem ↓] reduceIte
attribute [go_sem] Nat.reduceEqDiff Nat.reduceAdd Nat.reduceMul Nat.reduceSub Nat.reduceLT Nat.reduceLeDiff Nat.reduceBEq
end Go.Aw
end
section
namespace Go.Aw
open Go.RowKit
structure Sg where
 ro:Nat->Prop
 fz:Nat->Prop
 loc:Nat->Value
 sz:Nat->Nat
 N:Nat
mutual
def rep(S:Sg)(w:World):AV->Value->Prop
 | .v x,y=>y=x
 | .any,_=>True
 | .sl es,y=>∃ad n c,y=.slice ad n c/\es.length=n/\n<=c/\c<=maxLen/\(es=[]\/∃b o sz,ad=some ⟨b,o,none⟩/\S.ro b/\0<sz/\iY S w b sz o es)
 | .rp cs off,y=>∃b o,y=.pointer (some ⟨b,o+off,none⟩)/\S.ro b/\dD S w b o cs
 | .agg cs,y=>∃l:List Value,y=.agg l.toArray/\bJ S w cs l/\∀u∈l,u.oneCell'=true
 | .tup vs,y=>∃l:List Value,y=.tuple l.toArray/\bJ S w vs l
 | .os k,y=>k<S.N/\y=S.loc k/\∃a n c,y=.slice a n c
 | .op k i f,y=>k<S.N/\∃g n c,S.loc k=.slice (some ⟨g,0,none⟩) n c/\y=.pointer (some ⟨g,i*S.sz k+f,none⟩)
 | .gd g x,y=>(g=true->rep S w x y)/\(g=false->y=undef)
 | .nf x,y=>rep S w x y
 | .fn f cap,y=>∃l:List Value,y=.func (.func f) #[] l.toArray/\bJ S w cap l
 | .om k,y=>k<S.N/\y=S.loc k/\∃g,y=.map (some g)
 | .cl es,y=>∃ad n,y=.slice ad n n/\es.length=n/\n<=maxLen/\(es=[]\/∃b o sz,ad=some ⟨b,o,none⟩/\S.ro b/\0<sz/\iY S w b sz o es)
 | .oz k a b,y=>k<S.N/\∃ad n c ad' cc,S.loc k=.slice ad n c/\y=.slice ad' (b-a) cc/\a<=b/\b<=n/\(a<c->∃g,ad=some ⟨g,0,none⟩/\ad'=some ⟨g,a*S.sz k,none⟩)/\(a=0->ad'=ad/\cc=c)/\n<=c/\cc=c-a
def bJ(S:Sg)(w:World):List AV->List Value->Prop
 | [],l=>l=[]
 | x::r,l=>∃u t,l=u::t/\rep S w x u/\bJ S w r t
def dD(S:Sg)(w:World)(b:Nat):Nat->List AV->Prop
 | _,[]=>True
 | o,x::r=>(∃u,w.cell? ⟨b,o,none⟩=some u/\u.oneCell'=true/\rep S w x u)/\dD S w b (o+1) r
def iY(S:Sg)(w:World)(b sz:Nat):Nat->List (List AV)->Prop
 | _,[]=>True
 | o,cs::r=>cs.length=sz/\dD S w b o cs/\iY S w b sz (o+sz) r
end
structure Sg.le(S S':Sg):Prop where
 ro:∀k,S.ro k->S'.ro k
 N:S.N<=S'.N
 loc:∀k,k<S.N->S'.loc k=S.loc k
 sz:∀k,k<S.N->S'.sz k=S.sz k
def Sg.le_refl(S:Sg):S.le S:=⟨fun _ h=>h,Nat.le_refl _,fun _ _=>rfl,fun _ _=>rfl⟩
def Sg.le_trans{S S' E:Sg}(h:S.le S')(F:S'.le E):S.le E:=
 ⟨fun k A=>F.ro k (h.ro k A),Nat.le_trans h.N F.N,fun k A=>(F.loc k (Nat.lt_of_lt_of_le A h.N)).trans (h.loc k A),
  fun k A=>(F.sz k (Nat.lt_of_lt_of_le A h.N)).trans (h.sz k A)⟩
def blk:Value->Option Nat
 | .slice (some a) _ _=>some a.block
 | .map (some g)=>some g
 | _=>none
def gZ(S:Sg)(w w':World):Prop:=∀k,S.ro k->w'.heap[k]?=w.heap[k]?
theorem gZ.refl(S:Sg)(w:World):gZ S w w:=fun _ _=>rfl
section
variable{S S':Sg}{w w':World}
def gZ.cell(h:gZ S w w'){b o:Nat}(A:S.ro b):w'.cell? ⟨b,o,none⟩=w.cell? ⟨b,o,none⟩:=World.cell?_of_block (a:=⟨b,o,none⟩) (h b A)
mutual
theorem nS(A:S.le S')(F:gZ S w w'):∀(x:AV) (y:Value),rep S w x y->rep S' w' x y
 | .v _,_,h=>h
 | .any,_,_=>trivial
 | .sl es,y,h=>by
  simp only[rep]at h |-;obtain⟨ad,n,c,rfl,h1,X,h3,O⟩:=h;refine⟨ad,n,c,rfl,h1,X,h3,?_⟩;rcases O with O|⟨b,o,sz,rfl,E,T,U⟩
  ·grind
  ·exact .inr ⟨b,o,sz,rfl,A.ro b E,T,D2 A F E sz o es U⟩
 | .rp cs off,y,h=>by simp only[rep]at h |-;obtain⟨b,o,rfl,E,Z⟩:=h;exact⟨b,o,rfl,A.ro b E,AA A F E o cs Z⟩
 | .agg cs,y,h=>by simp only[rep]at h |-;obtain⟨l,rfl,J,h1⟩:=h;exact⟨l,rfl,eG A F cs l J,h1⟩
 | .tup vs,y,h=>by simp only[rep]at h |-;obtain⟨l,rfl,J⟩:=h;exact⟨l,rfl,eG A F vs l J⟩
 | .os k,y,h=>by simp only[rep]at h |-;exact⟨Nat.lt_of_lt_of_le h.1 A.N,by rw[A.loc k h.1];grind⟩
 | .op k i f,y,h=>by
  simp only[rep]at h |-;refine⟨Nat.lt_of_lt_of_le h.1 A.N,?_⟩;rw[A.loc k h.1,A.sz k h.1]
  grind
 | .gd g x,y,h=>by simp only[rep]at h |-;exact⟨fun Y=>nS A F x y (h.1 Y),h.2⟩
 | .nf x,y,h=>by simp only[rep]at h |-;exact nS A F x y h
 | .fn f cap,y,h=>by simp only[rep]at h |-;obtain⟨l,rfl,J⟩:=h;exact⟨l,rfl,eG A F cap l J⟩
 | .om k,y,h=>by simp only[rep]at h |-;exact⟨Nat.lt_of_lt_of_le h.1 A.N,by rw[A.loc k h.1];grind⟩
 | .oz k a b,y,h=>by
  simp only[rep]at h |-;refine⟨Nat.lt_of_lt_of_le h.1 A.N,?_⟩;rw[A.loc k h.1,A.sz k h.1]
  grind
 | .cl es,y,h=>by
  simp only[rep]at h |-;obtain⟨ad,n,rfl,h1,h3,O⟩:=h;refine⟨ad,n,rfl,h1,h3,?_⟩;rcases O with O|⟨b,o,sz,rfl,E,T,U⟩
  ·grind
  ·exact .inr ⟨b,o,sz,rfl,A.ro b E,T,D2 A F E sz o es U⟩
theorem eG(A:S.le S')(E:gZ S w w'):∀(x:List AV) (l:List Value),bJ S w x l->bJ S' w' x l
 | [],_,h=>h
 | x::r,l,h=>by simp only[bJ]at h |-;obtain⟨u,t,rfl,h1,F⟩:=h;exact⟨u,t,rfl,nS A E x u h1,eG A E r t F⟩
theorem AA(F:S.le S')(A:gZ S w w'){b:Nat}(E:S.ro b):∀(o:Nat) (x:List AV),dD S w b o x->dD S' w' b o x
 | _,[],_=>trivial
 | o,x::r,h=>by simp only[dD]at h |-;obtain⟨⟨u,h1,J,h3⟩,O⟩:=h;exact⟨⟨u,by rw[A.cell E];exact h1,J,nS F A x u h3⟩,AA F A E (o+1) r O⟩
theorem D2(E:S.le S')(F:gZ S w w'){b:Nat}(A:S.ro b)(sz:Nat):∀(o:Nat) (x:List (List AV)),iY S w b sz o x->iY S' w' b sz o x
 | _,[],_=>trivial
 | o,x::r,h=>by simp only[iY]at h |-;exact⟨h.1,AA E F A o x h.2.1,D2 E F A sz (o+sz) r h.2.2⟩
end
def BB:∀(cs:List AV) (o j:Nat) {b:Nat},dD S w b o cs->j<cs.length->∃u,w.cell? ⟨b,o+j,none⟩=some u/\u.oneCell'=true/\rep S w (cs.getD j .any) u
 | [],_,_,_,_,h=>by grind
 | x::r,o,0,b,h,_=>by grind[dD]
 | x::r,o,j+1,b,h,hj=>by simp only[dD]at h;have:=BB r (o+1) j h.2 (by simpa using hj);rw[show o+1+j=o+(j+1)by omega]at this;simpa using this
def AC:∀(cs:List AV) (o j:Nat) {b:Nat},dD S w b o cs->dD S w b (o+j) (cs.drop j)
 | [],_,_,_,_=>by simp[dD]
 | x::r,o,0,b,h=>by grind
 | x::r,o,j+1,b,h=>by
  simp only[dD]at h;have:=AC r (o+1) j h.2
  grind
def A0:∀(cs:List AV) (o j:Nat) {b:Nat},dD S w b o cs->dD S w b o (cs.take j)
 | [],_,_,_,_=>by grind
 | x::r,o,0,b,h=>by simp[dD]
 | x::r,o,j+1,b,h=>by simp only[dD,List.take_succ_cons]at h |-;exact⟨h.1,A0 r (o+1) j h.2⟩
def oD:∀(cs:List AV) (o:Nat) {b:Nat},dD S w b o cs->∃l:List Value,l.length=cs.length/\bJ S w cs l/\(∀u∈l,u.oneCell'=true)/\∀j u,l[j]?=some u->w.cell? ⟨b,o+j,none⟩=some u
 | [],_,_,_=>⟨[],rfl,by rfl,by simp,by simp⟩
 | x::r,o,b,h=>by
  simp only[dD]at h;obtain⟨⟨u,h1,E,h3⟩,O⟩:=h;obtain⟨l,J,T,F,U⟩:=oD r (o+1) O;refine⟨u::l,by simp[J],?_,?_,?_⟩
  ·simp only[bJ];exact⟨u,l,rfl,h3,T⟩
  ·intro v A;rcases List.mem_cons.1 A with rfl|A
   ·exact E
   ·exact F v A
  ·intro j v A;cases j with
   | zero=>simp at A;subst A;simpa using h1
   | succ j=>rw[show o+(j+1)=o+1+j by omega];exact U j v (by simpa using A)
def vJ:∀(es:List (List AV)) (o i:Nat) {b sz:Nat},iY S w b sz o es->i<es.length->(es.getD i []).length=sz/\dD S w b (o+i*sz) (es.getD i [])
 | [],_,_,_,_,_,h=>by grind
 | x::r,o,0,b,sz,h,_=>by grind[iY]
 | x::r,o,i+1,b,sz,h,hi=>by simp only[iY]at h;have:=vJ r (o+sz) i h.2.2 (by simpa using hi);rw[show o+sz+i*sz=o+(i+1)*sz by rw[Nat.add_mul];omega]at this;simpa using this
theorem DQ:∀(es:List (List AV)) (o i:Nat) {b sz:Nat},iY S w b sz o es->iY S w b sz (o+i*sz) (es.drop i)
 | [],_,_,_,_,_=>by simp[iY]
 | x::r,o,0,b,sz,h=>by grind
 | x::r,o,i+1,b,sz,h=>by simp only[iY]at h;have:=DQ r (o+sz) i h.2.2;rw[show o+sz+i*sz=o+(i+1)*sz by rw[Nat.add_mul];omega]at this;simpa using this
theorem AD:∀(es:List (List AV)) (o i:Nat) {b sz:Nat},iY S w b sz o es->iY S w b sz o (es.take i)
 | [],_,_,_,_,_=>by grind
 | x::r,o,0,b,sz,h=>by simp[iY]
 | x::r,o,i+1,b,sz,h=>by simp only[iY,List.take_succ_cons]at h |-;exact⟨h.1,h.2.1,AD r _ i h.2.2⟩
def wK:∀(xs A:List AV) (o:Nat) {b:Nat},dD S w b o (xs++A)↔dD S w b o xs/\dD S w b (o+xs.length) A
 | [],A,o,b=>by simp[dD]
 | x::r,A,o,b=>by simp only[List.cons_append,dD,wK r A (o+1),List.length_cons,show o+1+r.length=o+(r.length+1)by omega,and_assoc]
def Bc:∀(es:List (List AV)) (o:Nat) {b sz:Nat},iY S w b sz o es->dD S w b o es.flatten
 | [],_,_,_,_=>by simp[dD]
 | x::r,o,b,sz,h=>by simp only[iY]at h;rw[List.flatten_cons,wK];refine⟨h.2.1,?_⟩;rw[h.1];exact Bc r _ h.2.2
def tI:∀(es:List (List AV)) (o:Nat) {b sz:Nat},(∀cs∈es,cs.length=sz)->dD S w b o es.flatten->iY S w b sz o es
 | [],_,_,_,_,_=>by simp[iY]
 | x::r,o,b,sz,hl,h=>by rw[List.flatten_cons,wK]at h;have A:=hl x (by simp);rw[A]at h;simp only[iY];exact⟨A,h.1,tI r _ (fun cs E=>hl cs (by simp[E])) h.2⟩
theorem pE:∀(es:List (List AV)) {sz:Nat},(∀cs∈es,cs.length=sz)->es.flatten.length=es.length*sz
 | [],_,_=>by simp
 | x::r,sz,hl=>by rw[List.flatten_cons,List.length_append,hl x (by simp),pE r (fun cs A=>hl cs (by simp[A])),List.length_cons,Nat.add_mul];omega
theorem iK:∀(x:List AV) (l:List Value),bJ S w x l->l.length=x.length
 | [],l,h=>by grind[bJ]
 | x::r,l,h=>by simp only[bJ]at h;obtain⟨u,t,rfl,_,A⟩:=h;simp[iK r t A]
def Ep:∀(x:List AV) (l:List Value) (j:Nat),bJ S w x l->j<x.length->∃u,l[j]?=some u/\rep S w (x.getD j .any) u
 | [],_,_,_,h=>by grind
 | x::r,l,j,h,hj=>by
  simp only[bJ]at h;obtain⟨u,t,rfl,h1,A⟩:=h;cases j with
  | zero=>exact⟨u,by simp,by simpa using h1⟩
  | succ j=>obtain⟨v,E,F⟩:=Ep r t j A (by simpa using hj);exact⟨v,by simpa using E,by simpa using F⟩
theorem eV:∀(x y:List AV) (l m:List Value),bJ S w x l->bJ S w y m->bJ S w (x++y) (l++m)
 | [],y,l,m,h,h'=>by grind[bJ]
 | x::r,y,l,m,h,h'=>by simp only[bJ]at h;obtain⟨u,t,rfl,h1,A⟩:=h;simp only[List.cons_append,bJ];exact⟨u,t++m,rfl,h1,eV r y t m A h'⟩
theorem vE:∀(x:List AV) (l:List Value) (j:Nat),bJ S w x l->bJ S w (x.drop j) (l.drop j)
 | [],l,j,h=>by grind[bJ]
 | x::r,l,j,h=>by
  cases j with
  | zero=>simpa using h
  | succ j=>simp only[bJ]at h;obtain⟨u,t,rfl,_,A⟩:=h;simpa using vE r t j A
theorem vN:∀(x:List AV) (l:List Value) (j:Nat),bJ S w x l->bJ S w (x.take j) (l.take j)
 | [],l,j,h=>by grind[bJ]
 | x::r,l,j,h=>by
  cases j with
  | zero=>simp[bJ]
  | succ j=>simp only[bJ]at h;obtain⟨u,t,rfl,h1,A⟩:=h;simp only[List.take_succ_cons,bJ];exact⟨u,t.take j,rfl,h1,vN r t j A⟩
def kI:∀(x:List AV) (l:List Value) (o:Nat) {b:Nat},bJ S w x l->(∀u∈l,u.oneCell'=true)->(∀j u,l[j]?=some u->w.cell? ⟨b,o+j,none⟩=some u)->dD S w b o x
 | [],_,_,_,_,_,_=>by simp[dD]
 | x::r,l,o,b,h,h1,hc=>by simp only[bJ]at h;obtain⟨u,t,rfl,E,F⟩:=h;simp only[dD];refine⟨⟨u,by simpa using hc 0 u (by simp),h1 u (by simp),E⟩,kI r t (o+1) F (fun v A=>h1 v (by simp[A])) fun j v A=>?_⟩;rw[show o+1+j=o+(j+1)by omega];exact hc (j+1) v (by simpa using A)
end
end Go.Aw
end
section
namespace Go.Aw
open Go.RowKit
def oC(S:Sg)(w:World):Nat->List (List AV)->List MapEntry->Prop
 | _,[],ms=>ms=[]
 | i,cs::r,ms=>∃m t,ms=m::t/\m.born=i/\bJ S w cs [m.key,m.val]/\oC S w (i+1) r t
def Qy(S:Sg)(w:World)(k:Nat)(r:Row):Prop:=∃xs,w.ownsRow 0 r.e r.sz (S.loc k) r.es.length xs/\bJ S w r.es.flatten xs/\∀u∈xs,u.oneCell'=true
def ahT(S:Sg)(w:World)(k:Nat)(r:Row):Prop:=∃g ms,S.loc k=.map (some g)/\w.heap[g]?=some (.map (List.toArray ms) ms.length)/\oC S w 0 r.es ms/\r.sz=2
theorem azD(a:Option Addr)(n c:Nat):blk (.slice a n c)=(Value.slice a n c).ownBlock:=by cases a <;> rfl
structure RowOK(S:Sg)(w:World)(k:Nat)(r:Row):Prop where
 lt:k<S.N
 sz:r.sz=S.sz k
 pos:0<r.sz
 len:∀cs∈r.es,cs.length=r.sz
 own:Qy S w k r\/ahT S w k r
def Ct(S:Sg)(w:World)(H:aG):Prop:=∀k r,H k=some r->RowOK S w k r
def RowOK.sl{S:Sg}{w:World}{k:Nat}{r:Row}(h:RowOK S w k r){a:Option Addr}{n c:Nat}(A:S.loc k=.slice a n c):Qy S w k r:=by
 rcases h.own with h1|⟨g,ms,h1,_⟩
 all_goals grind
def RowOK.mp{S:Sg}{w:World}{k:Nat}{r:Row}(h:RowOK S w k r){g:Nat}(A:S.loc k=.map (some g)):ahT S w k r:=by
 rcases h.own with⟨xs,E,_⟩|h1
 ·rcases E.2 with⟨hv,_⟩|⟨_,_,_,hv,_⟩ <;> (rw[A]at hv;cases hv)
 omega
structure Agree(S:Sg)(H:aG)(w w':World):Prop where
 kept:gZ S w w'
 own:∀k r,H k=some r->∀g,blk (S.loc k)=some g->w'.heap[g]?=w.heap[g]?
theorem Agree.refl(S:Sg)(H:aG)(w:World):Agree S H w w:=⟨gZ.refl S w,fun _ _ _ _ _=>rfl⟩
def AG(P:Program)(S:Sg)(H:aG)(w:World)(z:AV)(e:Sem Value):Prop:=
 ∃v,rep S w z v/\∀w',Agree S H w w'->e.run P w'=.ok v w'
section
variable{P:Program}{S:Sg}{H:aG}{w:World}{G:Option Bool}{K:AV->Prop}
def qI{x:Value}:rep S w (.v x) x:=by rfl
def zG{t:TypeId}{l:Option Nat}(h:ldT P t=some l):∃d,P.underlying t=some d /\
 match l with
 | none=>(∀fs,d≠.struct fs)/\∀n e,d≠.array n e
 | some n=>((∃fs,d=.struct fs)\/∃m e,d=.array m e)/\∃i,P.info? t=some i/\i.size=n:=by grind[ldT]
def uT{t:TypeId}{l:Option Nat}(h:ldT P t=some l)(w:World):(isAgg t).run P w=.ok l.isSome w:=by
 obtain⟨d,A,E⟩:=zG h;cases l with
 | none=>simp_all[isAgg,run_underlying]
 | some n=>obtain⟨h1,_⟩:=E;simp only[isAgg,Sem.run_bind,run_underlying A,Result.andThen];rcases h1 with⟨fs,rfl⟩|⟨m,e,rfl⟩ <;> simp
theorem yL{t:TypeId}{n:Nat}(h:ldT P t=some (some n))(w:World):(sizeOf t).run P w=.ok n w:=by obtain⟨d,F,A⟩:=zG h;obtain⟨_,i,E,rfl⟩:=A;simp[sizeOf,typeInfo,E]
def Bk{t:TypeId}(h:ldT P t=some none){a:Addr}{v:Value}(A:w.cell? a=some v):(loadVar t a).run P w=.ok v w:=by simp_all[loadVar,uT]
def Ak{t:TypeId}{l:List Value}(h:ldT P t=some (some l.length)){b o:Nat}(A:∀j v,l[j]?=some v->w.cell? ⟨b,o+j,none⟩=some v):
 (loadVar t ⟨b,o,none⟩).run P w=.ok (.agg l.toArray) w:=by simp_all[run_loadCells_list,Addr.add_lit,loadVar,uT,yL]
def RowOK.cells{k:Nat}{r:Row}(h:RowOK S w k r){X:Option Addr}{Y T:Nat}(O:S.loc k=.slice X Y T)(U:r.es≠[]):∃g n c,S.loc k=.slice (some ⟨g,0,none⟩) n c/\dD S w g 0 r.es.flatten/\n=r.es.length:=by
 obtain⟨xs,E,F,h1⟩:=h.sl O;rcases E.2 with⟨_,Z⟩|⟨g,cap,cur,A,_⟩
 ·grind
 ·refine⟨g,_,cap,A,?_,rfl⟩;refine kI _ xs 0 F h1 fun j u J=>?_
  have:=E.cells (g:=g) (by rw[A];rfl) j u J
  grind[Addr.add_lit]
def RowOK.els{k:Nat}{r:Row}(h:RowOK S w k r){O:Option Addr}{T J:Nat}(F:S.loc k=.slice O T J)(A:r.es≠[]):∃g n c,S.loc k=.slice (some ⟨g,0,none⟩) n c/\iY S w g r.sz 0 r.es/\n=r.es.length:=by obtain⟨g,n,c,h1,E,h3⟩:=h.cells F A;exact⟨g,n,c,h1,tI _ _ h.len E,h3⟩
def Agree.cell{w':World}(E:Agree S H w w'){b o:Nat}{u:Value}(A:S.ro b)(h:w.cell? ⟨b,o,none⟩=some u):w'.cell? ⟨b,o,none⟩=some u:=(E.kept.cell A).trans h
def Agree.cellOwn{w':World}(E:Agree S H w w'){k g n c o:Nat}{r:Row}{u:Value}(F:H k=some r)(A:S.loc k=.slice (some ⟨g,0,none⟩) n c)(h:w.cell? ⟨g,o,none⟩=some u):w'.cell? ⟨g,o,none⟩=some u:=by
 have:=E.own k r F g (by rw[A];rfl)
 grind[World.cell?_of_block]
theorem HD{t:TypeId}{l:Option Nat}{x:AV}(X:ldT P t=some l)(hH:Ct S w H)(h:rM G H l x K):
  ∃z,K z/\(gt G->∀u,rep S w x u->AG P S H w z (Instr.loadAt t u)):=by
 unfold rM at h;split at h
 ·rename_i cs off;cases l with
  | none=>refine⟨_,h.2,fun O u J=>?_⟩;simp only[rep]at J;obtain⟨b,o,rfl,hb,hc⟩:=J;obtain⟨v,h1,_,h3⟩:=BB cs o off hc (h.1 O);refine⟨v,h3,fun w' U=>?_⟩;simp[Instr.loadAt,Instr.sureAddr,Bk X (U.cell hb h1)]
  | some n=>
   refine⟨_,h.2,fun O u J=>?_⟩;simp only[rep]at J;obtain⟨b,o,rfl,hb,hc⟩:=J;obtain⟨l,F,e2,e3,e4⟩:=oD _ _ (A0 _ _ n (AC cs o off hc));have aa:=h.1 O;have Z:l.length=n:=by grind
   refine⟨.agg l.toArray,by grind[rep],fun w' U=>?_⟩;rw[<-Z]at X;simp[Instr.loadAt,Instr.sureAddr,Ak X (fun j v hj=>U.cell hb (e4 j v hj))]
 ·rename_i k i f;split at h
  ·rename_i r hk;have Y:=hH k r hk;cases l with
   | none=>
    refine⟨_,h.2,fun O u J=>?_⟩;simp only[rep]at J;obtain⟨_,g,n,c,E,rfl⟩:=J;obtain⟨hi,hf⟩:=h.1 O;have T:r.es≠[]:=fun e=>by grind
    obtain⟨g',n',c',A,he,_⟩:=Y.els E T;rw[E]at A;injection A with F e2 e3;injection F with F;injection F with F;subst F;obtain⟨e4,e5⟩:=vJ _ 0 i he hi;obtain⟨v,h1,_,h3⟩:=BB _ _ f e5 (by omega);refine⟨v,h3,fun w' U=>?_⟩;rw[<-Y.sz];rw[Nat.zero_add]at h1;simp[Instr.loadAt,Instr.sureAddr,Bk X (U.cellOwn hk E h1)]
   | some m=>
    refine⟨_,h.2,fun O u J=>?_⟩;simp only[rep]at J;obtain⟨_,g,n,c,E,rfl⟩:=J;obtain⟨hi,hf⟩:=h.1 O;have T:r.es≠[]:=fun e=>by grind
    obtain⟨g',n',c',A,he,_⟩:=Y.els E T;rw[E]at A;injection A with F e2 e3;injection F with F;injection F with F;subst F;obtain⟨e4,e5⟩:=vJ _ 0 i he hi;obtain⟨l,F,e2,e3,e6⟩:=oD _ _ (A0 _ _ m (AC _ _ f e5));have Z:l.length=m:=by grind
    refine⟨.agg l.toArray,by grind[rep],fun w' U=>?_⟩;rw[<-Z]at X;rw[<-Y.sz];rw[Nat.zero_add]at e6;simp[Instr.loadAt,Instr.sureAddr,Ak X (fun j v hj=>U.cellOwn hk E (e6 j v hj))]
  grind
 grind
def rN{t:TypeId}(h:ldT P t=some none){l:List Value}{o:Nat}{u:Value}(A:l[o]?=some u):(part t l.toArray o).run P w=.ok u w:=by simp_all[part,uT]
def LA{t:TypeId}{n:Nat}(h:ldT P t=some (some n)){l:List Value}{o:Nat}:(part t l.toArray o).run P w=.ok (.agg ((l.drop o).take n).toArray) w:=by simp_all[part,uT,yL]
def Il{t:TypeId}{l:Option Nat}{x:AV}{off:Nat}(E:ldT P t=some l)(h:apart G off l x K):
  ∃z,K z/\(gt G->∀u,rep S w x u->∃cs:Array Value,u=.agg cs/\AG P S H w z (part t cs off)):=by
 unfold apart at h;split at h
 ·rename_i cs;cases l with
  | none=>refine⟨_,h.2,fun F u A=>?_⟩;simp only[rep]at A;obtain⟨l,rfl,h1,_⟩:=A;obtain⟨v,J,O⟩:=Ep cs l off h1 (h.1 F);exact⟨_,rfl,v,O,fun w' _=>rN E J⟩
  | some n=>
   refine⟨_,h.2,fun F u A=>?_⟩;simp only[rep]at A;obtain⟨l,rfl,h1,T⟩:=A;refine⟨_,rfl,_,?_,fun w' _=>LA E⟩
   grind[rep,vN,vE]
 grind
def Du{t:TypeId}{f o:Nat}{l:Option Nat}(h:aK P t f=some (o,l)):
  ∃fs A i,P.underlying t=some (.struct fs)/\fs[f]?=some A/\A.offset=o/\P.info? A.type=some i/\i.size≠0/\ldT P A.type=some l:=by
 unfold aK at h;cases E:P.underlying t with
 | none=>grind
 | some d=>
  cases d <;> simp only[E]at h <;> try (simp at h;done)
  grind[ldT]
def He{t:TypeId}{f o:Nat}{l:Option Nat}(h:aK P t f=some (o,l))(b p:Nat)(w:World):
  (Instr.fieldAt t (.pointer (some ⟨b,p,none⟩)) f).run P w=.ok (.pointer (some ⟨b,p+o,none⟩)) w:=by
 obtain⟨fs,J,i,A,O,rfl,F,E,_⟩:=Du h;simp_all[Instr.fieldAt,run_underlying,Instr.sureAddr,fieldPlace,sizeOf,typeInfo,Addr.add_lit]
def GC{t:TypeId}{f:Nat}{x:AV}(h:kX P t f x K):
  ∃z,K z/\(gt G->∀u,rep S w x u->AG P S H w z (Instr.fieldAt t u f)):=by
 unfold kX at h;split at h
 ·rename_i cs off;split at h
  ·rename_i o l E;refine⟨_,h,fun _ u A=>?_⟩;simp only[rep]at A;obtain⟨b,p,rfl,J,O⟩:=A;refine⟨_,?_,fun w' _=>He E b (p+off) w'⟩
   grind[rep]
  grind
 ·rename_i k i g;split at h
  ·rename_i o l E;refine⟨_,h,fun _ u A=>?_⟩;simp only[rep]at A;obtain⟨h1,b,n,c,F,rfl⟩:=A;refine⟨_,?_,fun w' _=>He E b _ w'⟩
   grind[rep]
  grind
 grind
def gM{t:TypeId}{e sz A:Nat}(h:cA P t=some (e,sz,A)):
  ∃i z,P.underlying t=some (.slice e)/\P.info? e=some i/\i.size=sz/\i.bytes=A/\0<sz/\0<A/\i.zero=some z/\z.cells.size=sz:=by
 unfold cA at h;cases E:P.underlying t<;>simp_all<;>grind
def Nr{t:TypeId}{n s:Nat}{l:Option Nat}(h:IL P t=some (n,s,l)):
  ∃e i,P.underlying t=some (.array n e)/\P.info? e=some i/\i.size=s/\s≠0/\ldT P e=some l:=by
 unfold IL at h
 grind[ldT]
def wD{t:TypeId}{e sz A:Nat}(h:cA P t=some (e,sz,A))(b o len cap:Nat)(k:IntKind)(i:Int)(h0:0<=i)(h1:i<len)(w:World):
  (Instr.indexAt t (.slice (some ⟨b,o,none⟩) len cap) (.int k i)).run P w=.ok (.pointer (some ⟨b,o+i.toNat*sz,none⟩)) w:=by
 obtain⟨E,z,F,J,rfl,_⟩:=gM h;simp[Instr.indexAt,run_underlying F,asIntOf,h0,h1,sizeOf,typeInfo,J,Addr.add_lit]
def Bm{t:TypeId}{n s:Nat}{l:Option Nat}(h:IL P t=some (n,s,l))(b o:Nat)(k:IntKind)(i:Int)(h0:0<=i)(h1:i<n)(w:World):
  (Instr.indexAt t (.pointer (some ⟨b,o,none⟩)) (.int k i)).run P w=.ok (.pointer (some ⟨b,o+i.toNat*s,none⟩)) w:=by
 obtain⟨e,F,A,E,rfl,_⟩:=Nr h;simp[Instr.indexAt,run_underlying A,asIntOf,h0,h1,Instr.sureAddr,sizeOf,typeInfo,E,Addr.add_lit]
theorem G0{t:TypeId}{x i:AV}(hH:Ct S w H)(h:fJ P G H t x i K):
  ∃z,K z/\(gt G->∀u v,rep S w x u->rep S w i v->AG P S H w z (Instr.indexAt t u v)):=by
 unfold fJ at h;split at h
 ·rename_i es k n;split at h
  ·rename_i e sz O he;refine⟨_,h.2,fun T u v E F=>?_⟩;obtain⟨⟨h0,h1⟩,h2⟩:=h.1 T;simp only[rep]at E F;subst F;obtain⟨ad,m,c,rfl,e1,_,_,e2⟩:=E;rcases e2 with rfl|⟨b,o,ac,rfl,hb,_,X⟩
   ·grind
   ·have J:n.toNat<es.length:=by omega
    obtain⟨e3,e4⟩:=vJ es o n.toNat X J;have aa:ac=sz:=by omega
    subst aa;refine⟨_,?_,fun w' _=>wD he b o m c k n h0 (by omega) w'⟩;simp only[rep]
    grind
  grind
 ·rename_i k Y n;split at h
  ·rename_i r e sz O hk he;refine⟨_,h.2,fun T u v E F=>?_⟩;obtain⟨⟨h0,h1⟩,h2⟩:=h.1 T;have hr:=hH k r hk;have ab:r.es≠[]:=fun e=>by grind
   simp only[rep]at E F;subst F;obtain⟨J,rfl,_,_,_,U⟩:=E;obtain⟨g,m,c,A,_,hm⟩:=hr.els U ab;rw[A];refine⟨_,?_,fun w' _=>wD he g 0 m c Y n h0 (by omega) w'⟩;simp only[rep];exact⟨J,g,m,c,A,by rw[<-hr.sz,h2];simp⟩
  grind
 ·rename_i k a b Y n;split at h
  ·rename_i r e sz O hk he;refine⟨_,h.2,fun T u v E F=>?_⟩;obtain⟨⟨h0,h1⟩,h2⟩:=h.1 T;have hr:=hH k r hk;simp only[rep]at E F;subst F;obtain⟨J,ad,m,c,af,cc,A,rfl,ae,ah,Z,_,ag,_⟩:=E;obtain⟨g,rfl,rfl⟩:=Z (by omega);refine⟨_,?_,fun w' _=>wD he g (a*S.sz k) (b-a) cc Y n h0 (by omega) w'⟩;simp only[rep];exact⟨J,g,m,c,A,by rw[<-h2,hr.sz,Nat.add_mul,Nat.add_zero]⟩
  ·exact h.elim
 ·rename_i cs off k n;split at h
  ·rename_i m s l ha;refine⟨_,h.2,fun T u v E F=>?_⟩;obtain⟨h0,h1⟩:=h.1 T;simp only[rep]at E F;subst F;obtain⟨b,o,rfl,hb,hc⟩:=E;refine⟨_,?_,fun w' _=>Bm ha b (o+off) k n h0 h1 w'⟩
   grind[rep]
  grind
 ·rename_i k j f Y n;split at h
  ·rename_i m s l ha;refine⟨_,h.2,fun T u v E F=>?_⟩;obtain⟨h0,h1⟩:=h.1 T;simp only[rep]at E F;subst F;obtain⟨J,g,n',c,A,rfl⟩:=E;refine⟨_,?_,fun w' _=>Bm ha g _ Y n h0 h1 w'⟩
   grind[rep]
  grind
 grind
def xS{t:TypeId}(h:cJ P t=true):∃e,P.underlying t=some (.slice e):=by grind[cJ]
theorem lT{t:TypeId}(h:eO P t=true):P.underlying t=some .string:=by grind[eO]
def agF{t:TypeId}(h:Wo P t=true):∃e,P.underlying t=some (.pointer e):=by grind[Wo]
def U1{t:TypeId}(h:CN P t=true):P.underlying t=some .bool:=by grind[CN]
def JJ{t ty:TypeId}{x:AV}(Y:Ct S w H)(h:JO P H t x K):
  ∃z,K z/\(gt G->∀u,rep S w x u->AG P S H w z (Builtin.len_ #[t] ty #[u])):=by
 unfold JO at h;split at h
 ·rename_i es;split at h
  ·rename_i F;obtain⟨e,J⟩:=xS F;refine⟨_,h,fun _ u A=>?_⟩;simp only[rep]at A;obtain⟨ad,m,c,rfl,e1,_⟩:=A;refine⟨_,qI,fun w' _=>?_⟩;simp_all[Builtin.len_,run_underlying,goInt]
  grind
 ·rename_i k;split at h
  ·rename_i r U;split at h
   ·rename_i F;obtain⟨e,J⟩:=xS F;refine⟨_,h,fun _ u A=>?_⟩;simp only[rep]at A;obtain⟨_,rfl,_,_,_,E⟩:=A;obtain⟨xs,T,_⟩:=(Y k r U).sl E;refine⟨_,qI,fun w' _=>?_⟩;rcases T.2 with⟨O,Z⟩|⟨g,cap,cur,O,_⟩
    all_goals simp_all[Builtin.len_,run_underlying,goInt]
   grind
  grind
 ·split at h
  ·rename_i F;obtain⟨e,J⟩:=xS F;refine⟨_,h,fun _ u A=>?_⟩;simp only[rep]at A;obtain⟨_,ad,n,c,X,cc,_,rfl,_⟩:=A;refine⟨_,qI,fun w' _=>?_⟩;simp[Builtin.len_,run_underlying J,goInt]
  ·exact h.elim
 ·rename_i s;split at h
  ·rename_i F;refine⟨_,h,fun _ u A=>?_⟩;simp only[rep]at A;subst A;refine⟨_,qI,fun w' _=>?_⟩;simp_all[Builtin.len_,run_underlying,lT,goInt]
  grind
 grind
def Jj{x y:AV}{tys:Array TypeId}{ty:TypeId}(h:X0 x y K):
  ∃z,K z/\(gt G->∀u v,rep S w x u->rep S w y v->AG P S H w z (Builtin.max_ tys ty #[u,v])):=by
 unfold X0 at h;split at h
 ·refine⟨_,h,fun _ u v A E=>?_⟩;simp only[rep]at A E;subst A;subst E;exact⟨_,qI,fun w' _=>by rfl⟩
 grind
def Li{x y:AV}{tys:Array TypeId}{ty:TypeId}(h:Xo x y K):
  ∃z,K z/\(gt G->∀u v,rep S w x u->rep S w y v->AG P S H w z (Builtin.min_ tys ty #[u,v])):=by
 unfold Xo at h;split at h
 ·refine⟨_,h,fun _ u v A E=>?_⟩;simp only[rep]at A E;subst A;subst E;exact⟨_,qI,fun w' _=>by rfl⟩
 grind
end
end Go.Aw
end
section
namespace Go.Aw
open Go.RowKit
section
variable{P:Program}{S:Sg}{H:aG}{w:World}{G:Option Bool}{K:AV->Prop}
def iO{z:AV}{e:Sem Value}{v:Value}(A:rep S w z v)(h:∀w',e.run P w'=.ok v w'):AG P S H w z e:=⟨v,A,fun w' _=>h w'⟩
theorem pI{t:TypeId}{c:Nat}(h:xJ P t=some c):(c=0/\∃k,P.underlying t=some (.int k))\/(c=1/\P.underlying t=some .string)\/(c=2/\P.underlying t=some .bool):=by grind[xJ]
def Zv{t:TypeId}{c:Nat}(h:xJ P t=some c)(A:(P.info? t).isSome=true):ldT P t=some none:=by grind[Option.isSome_iff_exists,ldT,pI]
def zB{t:TypeId}{c:Nat}{x y:AV}{u v:Value}{b:Bool}{d:Nat}(O:xJ P t=some c)(h:Al c x y=some b)(E:rep S w x u)(F:rep S w y v)(w':World):
  (Op.equalIn (d+1) t u v).run P w'=.ok b w':=by
 unfold Al at h;split at h
 ·split at h
  ·simp only[rep]at E F;subst E F;rename_i A;subst A;simp at h;rcases pI O with⟨_,k',J⟩|⟨h0,_⟩|⟨h0,_⟩
   all_goals grind[run_equalIn_int]
  grind
 all_goals grind[rep,pI,run_equalIn_string,run_equalIn_bool']
def yC:∀(fs:List Field) (l:List Nat) (xs ys:List AV) (o:Nat) (us vs pu pv:List Value) (b:Bool) (d:Nat),
  sY P o fs=some l->kT l xs ys=some b->bJ S w xs us->bJ S w ys vs->pu.length=o->pv.length=o->∀w':World,
  (Op.eqFields (d+1) (pu++us).toArray (pv++vs).toArray fs).run P w'=.ok b w'
 | [],l,xs,ys,o,us,vs,pu,pv,b,d,A,he,_,_,_,_,w'=>by simp only[sY]at A;injection A with A;subst A;cases xs <;> cases ys <;> simp[kT]at he;simp_all[Op.eqFields]
 | f::fs,l,xs,ys,o,us,vs,pu,pv,b,d,A,he,hx,hy,e1,e2,w'=>by
  simp only[sY]at A;split at A
  ·rename_i hc;simp only[Bool.and_eq_true,bne_iff_ne,ne_eq,beq_iff_eq]at hc;obtain⟨⟨hn,ho⟩,hi⟩:=hc;cases Y:xJ P f.type with
   | none=>grind
   | some c=>
    cases Z:sY P (o+1) fs with
    | none=>grind
    | some l'=>
     simp[Y,Z]at A;subst A;cases xs with
     | nil=>grind[kT]
     | cons x xs=>
      cases ys with
      | nil=>grind[kT]
      | cons y ys=>
       simp only[kT]at he;cases T:Al c x y with
       | none=>grind[TY]
       | some b1=>
        cases J:kT l' xs ys with
        | none=>grind[TY]
        | some b2=>
         simp[T,J,TY]at he;simp only[bJ]at hx hy;obtain⟨u,F,rfl,hu,U⟩:=hx;obtain⟨v,O,rfl,hv,X⟩:=hy;have E:=Zv Y hi;have p1:∀w':World,(part f.type (pu++u::F).toArray f.offset).run P w'=.ok u w':=fun w'=>rN (w:=w') E (by grind)
         have p2:∀w':World,(part f.type (pv++v::O).toArray f.offset).run P w'=.ok v w':=fun w'=>rN (w:=w') E (by grind)
         have q:=zB (d:=d) Y T hu hv;have ih:=yC fs l' xs ys (o+1) F O (pu++[u]) (pv++[v]) b2 d Z J U X (by grind) (by grind) w';simp only[List.append_assoc,List.singleton_append]at ih;simp only[Op.eqFields,hn,ne_eq,not_false_eq_true,if_true,Sem.run_bind,p1,p2,q,Result.andThen_ok,Sem.run_ite];simp_all;grind
  grind
def EZ{e:TypeId}{c:Nat}(X:xJ P e=some c)(Y:(P.info? e).isSome=true){d:Nat}:∀(m i:Nat) (xs ys:List AV) (us vs pu pv:List Value) (b:Bool),
   kT (List.replicate m c) xs ys=some b->bJ S w xs us->bJ S w ys vs->pu.length=i->pv.length=i->∀w':World,
   ((forIn (m := Sem) (List.range' i m) ((none, ()) : Option Bool × Unit) (fun i _ => do
         if !(<-Op.equalIn (d+1) e (<-part e (pu++us).toArray (i*1)) (<-part e (pv++vs).toArray (i*1)))then pure (ForInStep.done (some false,()))
         else pure (ForInStep.yield (none,())))).run P w').andThen (fun r w'=>Sem.run P (match r.1 with
       | some x=>pure x
       | none=>pure true:Sem Bool) w')=.ok b w'
 | 0,i,xs,ys,us,vs,pu,pv,b,he,_,_,_,_,w'=>by cases xs <;> cases ys <;> simp[kT]at he;simp_all
 | m+1,i,xs,ys,us,vs,pu,pv,b,he,hx,hy,e1,e2,w'=>by
   rw[List.replicate_succ]at he;cases xs with
   | nil=>grind[kT]
   | cons x xs=>
     cases ys with
     | nil=>grind[kT]
     | cons y ys=>
       simp only[kT]at he;cases O:Al c x y with
       | none=>grind[TY]
       | some b1=>
         cases F:kT (List.replicate m c) xs ys with
         | none=>grind[TY]
         | some b2=>
           simp[O,F,TY]at he;simp only[bJ]at hx hy;obtain⟨u,E,rfl,hu,T⟩:=hx;obtain⟨v,J,rfl,hv,U⟩:=hy;have A:=Zv X Y;have Z:∀w':World,(part e (pu++u::E).toArray (i*1)).run P w'=.ok u w':=fun w'=>rN (w:=w') A (by grind)
           have p2:∀w':World,(part e (pv++v::J).toArray (i*1)).run P w'=.ok v w':=fun w'=>rN (w:=w') A (by grind)
           have q:=zB (d:=d) X O hu hv;have ih:=EZ X Y (d:=d) m (i+1) xs ys E J (pu++[u]) (pv++[v]) b2 F T U (by grind) (by grind) w';simp only[List.append_assoc,List.singleton_append]at ih;simp only[List.range'_succ,List.forIn_cons,Sem.run_bind,Z,p2,q,Result.andThen_ok,Sem.run_ite,bind_assoc];simp_all;grind
def G6{t:TypeId}{l:List Nat}(h:EW P t=some l){xs A:List AV}{b:Bool}(U:kT l xs A=some b){us vs:List Value}
  (X:bJ S w xs us) (Y:bJ S w A vs) (d:Nat) (w':World):(Op.equalIn (d+2) t (.agg us.toArray) (.agg vs.toArray)).run P w'=.ok b w':=by
 unfold EW at h;split at h
 ·rename_i fs T;split at h
  ·rename_i O;have Z:P.fieldsOf t=fs:=by grind[Program.fieldsOf]
   rw[run_equalIn_struct w' (d+1) t _ _ (by grind) O.1,Z];simpa using yC fs.toList l xs A 0 us vs [] [] b d h U X Y rfl rfl w'
  grind
 ·rename_i n e T;split at h
  ·rename_i O;cases J:xJ P e with
   | none=>grind
   | some c=>
    simp[J]at h;subst h;cases hi:P.info? e with
    | none=>grind
    | some i=>
     have E:i.size=1:=by grind
     have F:=EZ (P:=P) (S:=S) (w:=w) J (by grind) (d:=d) n 0 xs A us vs [] [] b U X Y rfl rfl w';simp only[List.nil_append]at F;rw[Op.equalIn];simp only[Sem.run_bind,run_underlying T,Result.andThen_ok,sizeOf,typeInfo,run_program,hi,Sem.run_pure,E];simp_all;grind
  grind
 grind
def iN(op:BinOp)(t:TypeId)(x y:Operand)(a b:Value)(h1:a≠.nilIface)(A:∀cs,a≠.agg cs)(w':World):(eqGuard op t x y a b).run P w'=.ok () w':=by simp_all[eqGuard]
def XY{t:TypeId}{l:List Nat}(h:EW P t=some l):P.eqGuardType P.depth t=false:=by grind[EW]
def VA{op:BinOp}{t:TypeId}{x y:AV}(h:kE P G op t x y K):
   ∃z,K z/\(gt G->∀u v,rep S w x u->rep S w y v->∀F E,AG P S H w z (do eqGuard op t F E u v;binOp op t u v)):=by
 unfold kE at h;split at h
 . rename_i k a k' b;split at h
   . rename_i ab;refine⟨_,h.2,fun X u v J O F E=>?_⟩;have U:=h.1 X;simp only[rep]at J O;subst J O;refine iO qI fun w'=>?_
     simp only[Sem.run_bind,iN op t F E (.int k a) (.int k' b) (by simp) (by simp) w',Result.andThen_ok];have Y:¬b<0:=by omega
     cases op <;> simp only[Di,Bool.false_eq_true]at ab <;> simp[binOp,Op.shift,Y,shV]
   split at h
   . rename_i hk;subst hk;have A:∀(z:Value),(∀w',(binOp op t (.int k a) (.int k b)).run P w'=.ok z w')->∀u v,rep S w (.v (.int k a)) u->rep S w (.v (.int k b)) v->∀F E,AG P S H w (.v z) (do eqGuard op t F E u v;binOp op t u v):=by simp_all[rep,iO,iN]
     cases op <;> simp only at h <;> first
       | exact h.elim
       | (refine ⟨_, h, fun _ => A _ (fun w' => ?_)⟩
          first
            | (simp[binOp,Op.intArith,Op.intCmp];done)
            | (simp[binOp];rfl))
       | exact⟨_,h.2,fun X=>A _ (fun w'=>by simp[binOp,Op.intDiv,h.1 X])⟩
   grind
 . rename_i a b;have A:∀(z:Value),(∀w',(binOp op t (.string a) (.string b)).run P w'=.ok z w')->∀u v,rep S w (.v (.string a)) u->rep S w (.v (.string b)) v->∀F E,AG P S H w (.v z) (do eqGuard op t F E u v;binOp op t u v):=by simp_all[rep,iO,iN]
   cases op <;> simp only at h <;> first
     | exact h.elim
     | exact⟨_,h,fun _=>A _ (fun w'=>by simp[binOp,Op.stringOp])⟩
     | exact ⟨_, h.2, fun X => A _ (fun w' => by
         have:=h.1 X;have h2:¬((a.size+b.size:Nat):Int)>IntKind.i64.max:=by omega
         simp only[binOp,Op.stringOp];simp_all)⟩
 . rename_i a b;split at h
   . rename_i U;have T:=U1 U;cases op <;> simp only at h <;> first
       | exact h.elim
       | (refine ⟨_, h, fun _ u v J O F E => ?_⟩
          simp only[rep]at J O;subst J O;refine iO qI fun w'=>?_
          simp only[Sem.run_bind,iN _ t F E (.bool a) (.bool b) (by simp) (by simp) w',Result.andThen_ok];simp[binOp,run_equal_bool w' t a b T])
   grind
 . rename_i xs ys;split at h
   . rename_i l hl;split at h
     . rename_i b U;cases op <;> simp only at h <;> first
         | exact h.elim
         | (refine ⟨_, h, fun _ u v J O F E => ?_⟩
            simp only[rep]at J O;obtain⟨us,rfl,Z,_⟩:=J;obtain⟨vs,rfl,aa,_⟩:=O;refine iO qI fun w'=>?_
            have q:=G6 hl U Z aa 9998 w';simp only[Sem.run_bind,run_eqGuard_agg _ _ _ _ _ _ _ (XY hl),Result.andThen_ok]
            first
              | (rw[run_eql_struct,q];rfl)
              | simp_all[run_neq_struct])
     grind
   grind
 . skip
   split at h
   . rename_i b U;split at h
     . rename_i hp;obtain⟨e,T⟩:=agF hp;have hq:∀u,rep S w x u->∃a,u=.pointer a/\a.isNone=b:=by
         intro u J;unfold Vl at U
         grind[rep]
       have he:∀(a:Option Addr) w',(Op.equal t (.pointer a) (.pointer none)).run P w'=.ok a.isNone w':=by intro a w';have e0:Op.equal t (.pointer a) (.pointer none)=Op.equalIn (9999+1) t (.pointer a) (.pointer none):=rfl;rw[e0];unfold Op.equalIn;cases a <;> simp[run_underlying T]
       cases op <;> simp only at h <;> first
         | exact h.elim
         | (refine ⟨_, h, fun _ u v J O F E => ?_⟩
            obtain⟨a,rfl,rfl⟩:=hq u J;simp only[rep]at O;subst O;refine iO qI fun w'=>?_
            simp only[Sem.run_bind,iN _ t F E (.pointer a) (.pointer none) (by simp) (by simp) w',Result.andThen_ok];simp[binOp,he])
     grind
   grind
 grind
end
end Go.Aw
end
