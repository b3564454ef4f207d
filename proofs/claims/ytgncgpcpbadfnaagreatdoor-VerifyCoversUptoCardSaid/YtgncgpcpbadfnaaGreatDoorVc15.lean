import Derived.Test.YtgncgpcpbadfnaaGreatDoorVc14
set_option linter.unusedSimpArgs false
set_option linter.unusedVariables false
set_option linter.defProp false
set_option maxRecDepth 100000
namespace Go.Proofs.YtgncgpcpbadfnaaGreatDoor
open Go.Aw Go.Aw.D Go.Proofs Ty
namespace Sq
structure Lab where
 ready:Int
 since:Int
 sheet:Sheet
def PZ:Tm:=⟨0,0,0,false⟩
def dY(s:Sheet)(k:Nat)(b:Bool)(d:Int):Sheet:=match k with
 | 0=>{ s with rest:=b,depart:=d }
 | j+1=>{ s with times:=s.times.set j ⟨(s.times.getD j PZ).arrive,(s.times.getD j PZ).begin_,d,b⟩ }
def BZ(t:VType)(l:Lab)(b:Bool):Int:=if b=true then W (l.ready+t.rest)else l.ready
def DF(l:Lab)(b:Bool):Int:=if b=true then 0 else l.since
def goL(x:Instance)(t:VType)(p q:Int)(l:Lab)(b:Bool):Int×Int×Int:=jO x.net t.profile p q (BZ t l b)
def UM(x:Instance)(t:VType)(p q:Int)(l:Lab)(b:Bool):Int:=W (W (DF l b+(goL x t p q l b).1)-BZ t l b)
def PK(x:Instance)(t:VType)(p:Int)(s:Stop)(k:Nat)(l:Lab)(b:Bool):Sheet:=
 { dY l.sheet k b (BZ t l b)with
   times:=(dY l.sheet k b (BZ t l b)).times++[⟨(goL x t p s.place l b).1,lC (goL x t p s.place l b).1 s.start,0,false⟩]
   miles:=W (l.sheet.miles+(goL x t p s.place l b).2.1) }
def It(x:Instance)(t:VType)(p:Int)(s:Stop)(k:Nat)(l:Lab)(b:Bool):Except Int Lab:=
 if((goL x t p s.place l b).2.2 != 0)=true then .error 12
 else if lC (goL x t p s.place l b).1 s.start>s.close then .error 14
 else if UM x t p s.place l b>t.drive then .error 16
 else .ok ⟨W (lC (goL x t p s.place l b).1 s.start+s.service),UM x t p s.place l b,PK x t p s k l b⟩
def YO(x:Instance)(t:VType)(p:Int)(k:Nat)(l:Lab)(b:Bool):Sheet:=
 { dY l.sheet k b (BZ t l b)with
   end_:=(goL x t p t.dst l b).1
   miles:=W (l.sheet.miles+(goL x t p t.dst l b).2.1) }
def LK(x:Instance)(t:VType)(p:Int)(k:Nat)(l:Lab)(b:Bool):Except Int Lab:=
 if((goL x t p t.dst l b).2.2 != 0)=true then .error 12
 else if(goL x t p t.dst l b).1>t.close then .error 15
 else if UM x t p t.dst l b>t.drive then .error 16
 else .ok ⟨(goL x t p t.dst l b).1,UM x t p t.dst l b,YO x t p k l b⟩
def K4(t:VType)(r:Route):Lab:=⟨lC t.start r.start,0,cF⟩
def qM(s:Sheet)(k:Nat)(b:Bool)(d:Int):(dY s k b d).miles=s.miles/\(dY s k b d).end_=s.end_/\(dY s k b d).times.length=s.times.length:=by cases k <;> simp[dY]
def kH(fixed:List Bool)(k:Nat):List Bool:=if k<fixed.length then[fixed.getD k false]else[false,true]
def By(m l:Lab):Bool:=m.ready == l.ready&&decide (m.since<=l.since)
def HS(out:List Lab)(e:Except Int Lab):List Lab:=match e with
 | .error _=>out
 | .ok l=>if out.any (By · l)=true then out else out++[l]
def Rp{r:Route}(A:r.rests.length<=r.visits.length+1):(Dd r).length=r.visits.length+1:=by unfold Dd;simp;omega
def US{x:Instance}{t:VType}{p:Int}{s:Stop}{k:Nat}{l:Lab}{b:Bool}{e:Int}(h:It x t p s k l b=.error e):e≠0:=by
 unfold It at h
 repeat' split at h
 all_goals first|(injection h with h;omega)|cases h
def Wi{x:Instance}{t:VType}{p:Int}{k:Nat}{l:Lab}{b:Bool}{e:Int}(h:LK x t p k l b=.error e):e≠0:=by
 unfold LK at h
 repeat' split at h
 all_goals first|(injection h with h;omega)|cases h
def OA(e:Except Int Lab):Int:=match e with| .error e=>e| .ok _=>0
end Sq
namespace Rx
open Go.Nu
open Sq (W jO xM AB C6 kV iW gH dH NetOk)
structure Clk where
 ready:Int
 since:Int
structure Part where
 place:Int
 memory:Nat
 board:Nat
 visits:Nat
 load:List Int
 clocks:List Clk
 value:ByteArray
structure Wk where
 x:Instance
 kind:Nat
 t:VType
 near:List Int
 dual:Option (List ByteArray)
 most:Nat
section
variable(w:Wk)
end
def XE(c d:Clk):Bool:=c.ready == d.ready&&decide (c.since<=d.since)
def aiW(n:Network)(t:VType)(place goal:Int)(s:List Clk×Int)(c:Clk):List Clk×Int:=
 if((jO n t.profile place goal c.ready).2.2 == 0&&decide (W (W (c.since+(jO n t.profile place goal c.ready).1)-c.ready)<=t.drive))=true
 then(s.1++[⟨(jO n t.profile place goal c.ready).1,W (W (c.since+(jO n t.profile place goal c.ready).1)-c.ready)⟩],(jO n t.profile place goal c.ready).2.1)else s
def ajM(t:VType)(c:Clk):Clk:=⟨W (c.ready+t.rest),0⟩
def drv2(n:Network)(t:VType)(place goal:Int)(s:List Clk×Int)(c:Clk):List Clk×Int:=aiW n t place goal (aiW n t place goal s c) (ajM t c)
def Y5(n:Network)(t:VType)(place goal:Int)(l:List Clk):List Clk×Int:=l.foldl (drv2 n t place goal) ([],0)
def mO(s:Stop)(a:Int):Int×Int:=if lC a s.start>s.close then(0,14)else(W (lC a s.start+s.service),0)
def srvC(s:Stop)(out:List Clk)(c:Clk):List Clk:=
 if((mO s c.ready).2 != 0)=true then out
 else if(out.any fun d=>XE d ⟨(mO s c.ready).1,c.since⟩)=true then out
 else(out.filter fun d=> !XE ⟨(mO s c.ready).1,c.since⟩ d)++[⟨(mO s c.ready).1,c.since⟩]
def SX(s:Stop)(l:List Clk):List Clk:=l.foldl (srvC s) []
def memP(near:List Int)(m o:Nat):Nat:=(m &&& (near.getD o 0).toNat) ||| 2^o
def afC(a:Int)(kind:Nat):Int:=if(a != -1&&a != (kind:Int))=true then 1 else 0
def ajP(a:ByteArray)(n:Int):ByteArray:=(CZ a (zed n)).1
def mI(x:Instance)(o:Nat):Order:=x.orders.getD o ⟨ByteArray.empty,[],⟨0,0,0,0⟩,⟨0,0,0,0⟩,0,0,0,0,0,false⟩
def aiZ(a:ByteArray)(o:Nat):Option (List ByteArray)->ByteArray
 | none=>a
 | some l=>(subR a (l.getD o ByteArray.empty)).1
def KW(w:Wk)(p:Part)(o:Nat):Part×Bool:=
 if(dH (p.memory:Nat) (o:Nat)||dH (p.board:Nat) (o:Nat))=true then(p,false)
 else({ p with memory:=memP w.near p.memory o,value:=aiZ (ajP p.value ((afC (mI w.x o).now w.kind*16+afC (mI w.x o).last w.kind)*65536)) o w.dual },true)
def ahJ(b o:Nat):Nat:=b ^^^ (b &&& 2^o)
def afM(o:Order):Bool:=decide (o.pick.place>=0)&&decide (o.drop.place>=0)
def aaI(w:Wk)(p:Part)(o:Nat)(drop:Bool):Part×Bool:=
 if drop=false then
   ({ p with load:=AB p.load (mI w.x o).load,board:=if afM (mI w.x o)=true then p.board ||| 2^o else p.board },kV (AB p.load (mI w.x o).load) w.t.cap)
 else if afM (mI w.x o)=true then
   if dH (p.board:Nat) (o:Nat)=true then({ p with load:=C6 p.load (mI w.x o).load,board:=ahJ p.board o },kV (C6 p.load (mI w.x o).load) w.t.cap)else(p,false)
 else(p,kV p.load w.t.cap)
def goP(w:Wk)(p:Part)(s:Stop):Part×Bool:=
 let d:=Y5 w.x.net w.t p.place s.place p.clocks
 ({ p with clocks:=SX s d.1,place:=s.place,visits:=p.visits+1,value:=ajP p.value (W (W (w.t.perMile*d.2)*16777216)) },decide ((SX s d.1).length>0))
def afJ(w:Wk)(p:Part)(v:Visit):Part×Bool:=
 if(decide ((p.visits:Int)>=(w.most:Int))||(mI w.x v.order.toNat).off|| !xM w.t.skills (mI w.x v.order.toNat).skills)=true then(p,false)
 else
   let s:=if(!v.drop||decide ((mI w.x v.order.toNat).pick.place<0))=true then KW w p v.order.toNat else(p,true)
   if s.2=true then
     let l:=aaI w s.1 v.order.toNat v.drop
     if l.2=true then(if((gH w.x v).2 != 0)=true then(l.1,false)else goP w l.1 (gH w.x v).1)else(l.1,false)
   else(s.1,false)
def ajH(close:Int)(out:Int)(c:Clk):Int:=if(decide (c.ready<=close)&&(decide (out<0)||decide (c.ready<out)))=true then c.ready else out
def endP(w:Wk)(p:Part):Int×Int×Bool:=
 if((p.visits:Int) == 0||(p.board:Int) != 0)=true then(0,0,false)
 else
   let d:=Y5 w.x.net w.t p.place w.t.dst p.clocks
   (d.1.foldl (ajH w.t.close) (-1),d.2,decide (d.1.foldl (ajH w.t.close) (-1)>=0))
end Rx
namespace Rx
open Go.Nu
open Sq (W jO xM AB C6 kV iW gH dH NetOk)
open Nu (zG AF ltB geB)
end Rx
namespace Rx
open Go.Proofs.Tryz
open Go.Nu
open Sq (W jO xM AB C6 kV iW gH dH NetOk qY pN mY pJ)
open Mv (bZ cK aS)
open Nu (zG AF ltB geB)
def Xy(s:Stop)(a:Int):PC prog 220 [.agg (dQ s),int a] (.tup [int (mO s a).1,int (mO s a).2]):=by
 refine pcd func220 rfl rfl ?_;simp only[go_sem];refine aP (Sq.TM s a) ?_;unfold mO;by_cases h:lC a s.start>s.close
 ·simp only[if_pos h];simp only[go_sem];refine aA (fun A=>?_) (fun A=>?_)
  ·simp only[go_sem];exact .refl _
  ·simp at A
 ·simp only[if_neg h];simp only[go_sem];refine aA (fun A=>?_) (fun A=>?_)
  ·simp at A
  ·simp only[go_sem];exact .refl _
end Rx
namespace Rx
open Go.Nu
open Sq (W jO xM AB C6 kV iW gH dH NetOk)
open Nu (zG AF ltB geB)
def zE(n:Int): -9223372036854775808<=IntKind.i64.wrap n/\IntKind.i64.wrap n<=9223372036854775807:=by have e:IntKind.i64.wrap n=Go.RowKit.wrap64 n:=IntWalk.i64_left n;rw[e];unfold Go.RowKit.wrap64;omega
abbrev Ai(s:Stop):Row:=⟨79,4,[dQ s]⟩
end Rx
namespace Rx
open Go.Nu
open Sq (W jO xM AB C6 kV iW gH dH NetOk)
open Nu (zG AF ltB geB sB)
open Mv (bZ cK aS)
def ajO(w:Wk)(p:Part)(n:Int):Int:=if(endP w p).2.2=true then W (n+1)else n
def countP(w:Wk)(vs:List Visit):Nat->Part->Int->Int
 | 0,p,n=>ajO w p n
 | f+1,p,n=>vs.foldl (fun n v=>if n>8192 then n else if(afJ w p v).2=true then countP w vs f (afJ w p v).1 n else n) (ajO w p n)
end Rx
namespace Rx
open Go.Nu
open Sq (W jO xM AB C6 kV iW gH dH NetOk qY pN mY pJ)
open Nu (zG AF ltB geB sB rL)
open Mv (bZ cK aS)
section
variable{H:aH}{w:Wk}{jw jk jm jf:Nat}{known more fresh:List Part}
end
end Rx
namespace Rx
open Go.Nu Go.So
open Nu (ltB geB)
abbrev eL(l:List Int):Row:=⟨3,1,l.map aQ⟩
def GZ(x:Int):(aQ x).length=1:=(rfl)
abbrev TB:=Int×Nat
def fs(L:List TB):List Int:=L.map Prod.fst
section
variable{gf:Nat}{cx:AV}{jc:Nat}{rc:Row}{cap':List AV}{lt:Int->Int->Bool}{ok:Int->Prop}
end
end Rx
namespace Rx
open Go.Nu Go.So
open Sq (W iW gH dH NetOk qY pN mY pJ)
open Nu (ltB geB C5)
open Mv (bZ cK aS)
end Rx
namespace Rx
open Go.Nu Go.So
open Sq (W iW gH dH NetOk)
open Nu (ltB geB)
open Mv (bZ cK aS)
def kS(s i:Nat):Bool:=s/2^i%2 == 1
def MR(o:Order):List Int:=(if decide (o.pick.place>=0)=true then[o.pick.place]else[])++(if decide (o.drop.place>=0)=true then[o.drop.place]else[])
def fA(near:List Int)(m o:Nat)(s i:Nat):Nat:=if(i == o||(kS m i&&kS (near.getD o 0).toNat i))=true then s+2^i else s
def d32A(p q:Int)(out:Int)(w:Arc):Int:=if((w.src == p&&w.dst == q)||(w.src == q&&w.dst == p))=true then adU out w.miles else out
def d32Q(arcs:List Arc)(p:Int)(out q:Int):Int:=arcs.foldl (d32A p q) (if(p == q)=true then 0 else out)
def d32P(arcs:List Arc)(Q:List Int)(out p:Int):Int:=Q.foldl (d32Q arcs p) out
def aaD(x:Instance)(a b:Nat):Int:=(MR (mI x a)).foldl (d32P x.net.arcs (MR (mI x b))) 10001
def B9(x:Instance)(a set:Nat)(best:Int)(b:Nat):Int:=if(!kS set b&&(decide (best<0)||decide (aaD x a b<aaD x a best.toNat)))=true then(b:Int)else best
end Rx
namespace Rx
open Go.Nu Go.So
open Sq (W iW gH dH NetOk jO)
open Nu (ltB geB)
open Mv (bZ cK aS)
structure Mom where
 time:Int
 driven:Int
structure RP where
 place:Int
 visits:Nat
 miles:Int
 moms:List Mom
 memory:Nat
 board:Nat
 load:List Int
 moved:Int
 other:Int
 dual:ByteArray
structure Rs where
 x:Instance
 t:VType
 kind:Nat
 near:List Int
 dual:List ByteArray
 most:Nat
 count:Int
 limited:Bool
 found:Bool
 least:ByteArray
section
variable(p:RP)
end
section
variable(w:Rs)
end
def arrM(n:Network)(t:VType)(place goal close:Int)(s:List Mom×Int)(m:Mom):List Mom×Int:=
 (if(((jO n t.profile place goal m.time).2.2 == 0&&decide ((jO n t.profile place goal m.time).1<=close))&&decide (W (W (m.driven+(jO n t.profile place goal m.time).1)-m.time)<=t.drive))=true
  then s.1++[⟨(jO n t.profile place goal m.time).1,W (W (m.driven+(jO n t.profile place goal m.time).1)-m.time)⟩]else s.1,(jO n t.profile place goal m.time).2.1)
def HC(n:Network)(t:VType)(place goal close:Int)(l:List Mom):List Mom×Int:=l.foldl (arrM n t place goal close) ([],0)
end Rx
end Go.Proofs.YtgncgpcpbadfnaaGreatDoor
section
namespace Go.Aw
open Go.RowKit
section
variable{P:Program}{f:FuncId}{args:List AV}{H H1:aH}{K:AV->aH->Prop}{r:AV}
def MC(P:Program)(f:FuncId)(args:List AV)(H H1:aH)(r:AV):Prop:=∀K:AV->aH->Prop,K r H1->bF P f args H K
def MC.use(h:MC P f args H H1 r)(A:K r H1):bF P f args H K:=h K A
def bF.dataM(J:∀k,H k=none->H1 k=none)(h:bF P f args H (JZ H1 r))(O:K r H1):bF P f args H K:=by
 intro S w vals T ha;refine(h S w vals T ha).mono fun e w' ⟨v,x,H',S',M,⟨Y,l,I,U⟩,E,hv,hg,hn⟩=>?_
 obtain⟨h1,Z,X⟩:=E.frz l;refine⟨v,r,H1,S'.froze _,M,O,h1.drop (fun k row F=>?_),U.rep X hv,hg.trans Z,fun k _ h0=>J k h0⟩;have A:¬k∈l:=fun A=>by rw[I k A]at F;cases F
 show(if k∈l then none else H' k)=some row;rw[if_neg A];exact Y k row F
def MC.body{fn:Func}{c:Code}(mt:Nat->Bool)(F:∀k,H k=none->H1 k=none)(I:P.follows .mixedOrders=true)(J:P.funcs[f]?=some fn)(E:fn.body=some c)(A:AT fn c args.length=true)
 (h:awp P (bF P) (dD P) mt c (HR P fn.results.toList (JZ H1 r)) (ES args) H):MC P f args H H1 r:=fun K M=>bF.dataM F (bF.body mt I J E A h) M
def LF{H:aH}{j:Nat}{a:Row}(h:H j=some a):aI H j (some a)=H:=funext fun k=>by
 by_cases e:k=j
 ·subst e;rw[aB,h]
 ·rw[aD _ _ _ _ e]
def Wv(H:aH)(j:Nat)(a b:Option Row):aI (aI H j a) j b=aI H j b:=funext fun k=>by
 by_cases e:k=j
 ·subst e;rw[aB,aB]
 ·rw[aD _ _ _ _ e,aD _ _ _ _ e,aD _ _ _ _ e]
def Sup.set{H H':aH}(h:Sup H H')(j:Nat)(a:Option Row):Sup (aI H j a) (aI H' j a):=fun k row A=>by
 by_cases e:k=j
 ·subst e;rw[aB]at A |-;exact A
 ·rw[aD _ _ _ _ e]at A |-;exact h k row A
def Sup.set2{H H':aH}{j:Nat}{b:Option Row}(h:Sup (aI H j b) H')(a:Option Row):Sup (aI H j a) (aI H' j a):=by
 have:=Sup.set h j a
 rwa [Wv]at this
def RK{H:aH}{j:Nat}{a:Option Row}{b:Row}(h:H j=some b):∀k,H k=none->aI H j a k=none:=fun k A=>by
 by_cases e:k=j
 ·subst e;rw[h]at A;cases A
 ·rw[aD _ _ _ _ e,A]
def lL{P:Program}{C:kY}{PC:FuncId->List AV->aH->AV->Prop}{mt:Nat->Bool}{ops:List Oper}{K:Env->aH->Prop}{m:Nat}{ρ:Env}{H:aH}(l:List Nat)(t:Mx)(J:Env->aH->Prop)(F:∀k,k∈l->(H k).isSome=true)(M:Hg ops.toArray t=true)
 (h:∀K':Env->aH->Prop,(∀A H',J A H'->K' A H')->∀Hp E:aH,(∀k,k∈l->Hp k=H k)->(∀k,k∉l->E k=H k)->(∀k,k∉l->Hp k=none)->(∀k,k∈l->E k=none)->kX P C PC mt ops.toArray (oR l H K') Hp t ρ E)
 (I:∀A H',J A H'->K A H'):tQ P C PC mt ops.toArray K m ρ H:=Av l t F M (h K I)
end
end Go.Aw
namespace Go.Proofs.YtgncgpcpbadfnaaGreatDoor.Rx
open Go.Aw Go.Aw.D Go.Proofs Ty Go.Nu Go.So
open Sq (W iW gH dH NetOk jO)
open Nu (ltB geB)
open Mv (bZ cK aS)
def AE(s:Rs)(v:ByteArray):Rs:=
 if(!s.found||decide (L8 v s.least<0))=true then { s with count:=W (s.count+1),found:=true,least:=v }else { s with count:=W (s.count+1) }
end Go.Proofs.YtgncgpcpbadfnaaGreatDoor.Rx
end
namespace Go.Proofs.YtgncgpcpbadfnaaGreatDoor
namespace Sq
open Go.Proofs.Tryz
open Go.Aw Go.Aw.D Go.Proofs Ty
open Go.Proofs.YtgncgpcpbadfnaaGreatDoor.Nu (ltB geB)
open Mv (bZ cK aS)
def B0(M:List Nat)(q:Pair):List Nat:=
 if(((decide (q.a<0)||decide (q.b<0))||decide (q.a>=(M.length:Int)))||decide (q.b>=(M.length:Int)))=true then M
 else M.set q.b.toNat (M.getD q.b.toNat 0 ||| M.getD q.a.toNat 0 ||| 2^q.a.toNat)
def A6(l:List Pair)(M:List Nat):List Nat:=l.foldl B0 M
def Vz(l:List Pair):Nat->List Nat->List Nat
 | 0,M=>M
 | f+1,M=>if A6 l M=M then M else Vz l f (A6 l M)
def Aq(n:Nat)(l:List Pair):List Nat:=Vz l (Gu (List.replicate n 0)+1) (List.replicate n 0)
def X6{α:Type}{M:List α}{i:Nat}{u:α}(h:M[i]?=some u):M.set i u=M:=by obtain⟨A,rfl⟩:=List.getElem?_eq_some_iff.1 h;exact List.set_getElem_self A
def ahW{M:List Nat}{i u:Nat}(h:M[i]?=some u):M.getD i 0=u:=by rw[List.getD,h];rfl
def Po(l:List Pair):∀(f:Nat) (M:List Nat),(Vz l f M).length=M.length:=by
 have h1:∀(l:List Pair) (M:List Nat),(l.foldl B0 M).length=M.length:=fun l=>by
  induction l with
  | nil=>exact fun M=>rfl
  | cons q l ih=>exact fun M=>(ih (B0 M q)).trans (by unfold B0;split <;> simp)
 intro f;induction f with
 | zero=>exact fun M=>rfl
 | succ f ih=>
  intro M;unfold Vz;split
  ·rfl
  ·exact(ih _).trans (h1 l M)
def Mo(n:Nat)(l:List Pair):(Aq n l).length=n:=(Po l _ _).trans Xbv
def Zi(n:Nat)(l:List Pair)(hn:n<=60)(hl:l.length<=1048576):PC prog 183 [int (n:Nat),.sl (l.map cN)] (.sl ((Aq n l).map fun n:Nat=>[int (n:Nat)])):=by
 refine pcd func183 rfl rfl ?_;simp only[go_sem];have ap:lC (n:Int) 0=(n:Nat):=by unfold lC;split <;> omega
 rw[ap];refine⟨by omega,?_⟩;rw[Xbd];generalize hR:Aq n l=RR;refine eQ fun j an aq (R:an j=some ((⟨3,1,List.replicate n [int 0]⟩:Row))) N=>?_
 clear N aq;simp only[go_sem,R];have R:an j=some (Dh (List.replicate n 0)):=by rw[R,Dh,List.map_replicate];rfl
 refine⟨fun ρ H=>∃(j:Nat) (L:List Nat) (b:Bool),ρ 1=.sl (l.map cN)/\ρ 5=.os j/\ρ 6=boo b/\H j=some (Dh L)/\L.length=n/\(∀a∈L,a<2^62)/\(b=true->∃f,Gu L<f/\Vz l f L=RR)/\(b=false->L=RR),fun ρ H=>aaS (ρ 5) (ρ 6) H,⟨j,_,true,by simp only[go_sem],by simp only[go_sem],by simp only[go_sem],R,Xbv,fun a ha=>by rw[List.eq_of_mem_replicate ha];decide,fun _=>⟨_,Nat.lt_succ_self _,hR⟩,fun h=>(by cases h)⟩,?_⟩;clear R;rintro ρ H ⟨j,L,b,O,J,T,R,hL,hB,hT,hF⟩;simp only[go_sem,O,J,T];refine aA (fun hb=>?_) (fun hb=>?_)
 case refine_2=>simp only[go_sem,J];rw[<-hF hb];exact .row _ _ _ R (ConvE.refl _)
 have hb:b=true:=hb;subst hb;obtain⟨f,az,Z⟩:=hT rfl;obtain⟨f,rfl⟩:∃f',f=f'+1:=⟨f-1,by omega⟩;have Z:(if A6 l L=L then L else Vz l f (A6 l L))=RR:=Z;simp only[go_sem,O,J,T,Xaa];rw[WN R];refine⟨fun ρ H=>∃(k:Nat) (j:Nat) (M:List Nat) (b:Bool),k<=l.length/\ρ 1=.sl (l.map cN)/\ρ 5=.os j/\ρ 6=boo b/\ρ 16=.sl (l.map cN)/\ρ 17=int l.length/\ρ 18=int (k:Nat)/\H j=some (Dh M)/\M.length=n/\(∀a∈M,a<2^62)/\Gu M<=Gu L/\(b=true->Gu M<Gu L)/\(b=false->M=L)/\M=(l.take k).foldl B0 L,fun ρ _=>l.length-aT (ρ 18),⟨0,j,L,false,Xab _,by simp only[go_sem,O],by simp only[go_sem,J],by simp only[go_sem],by simp only[go_sem,O],by simp only[go_sem],by simp only[go_sem];rfl,R,hL,hB,Xag _,(fun h=>(by cases h)),fun _=>rfl,rfl⟩,?_⟩;clear O J T R hB hL hT hF;rintro ρ H ⟨k,j,M,b,hk,O,J,T,I,E,F,R,hL,hB,ao,U,X,aa⟩;simp only[go_sem,O,J,T,I,E,F];refine aA (fun Y=>?_) (fun ai=>?_)
 case refine_2=>
  have ai:=geB hk (by simpa using ai);simp only[go_sem,O,J,T];rw[Xaq (by omega)]at aa;refine⟨⟨j,M,b,rfl,rfl,R,hL,hB,fun hb=>⟨f,by have:=U hb;omega,?_⟩,fun hb=>?_⟩,?_⟩
  ·have av:A6 l L≠L:=fun e=>by have:=U hb;rw[aa]at this;unfold A6 at e;rw[e]at this;omega
   rw[if_neg av]at Z;rw[aa];exact Z
  ·have e2:=X hb;rw[if_pos (show A6 l L=L from aa.symm.trans e2)]at Z;exact e2.trans Z
  cases b with
  | true=>rw[WN R];have:=U rfl;omega
  | false=>rw[aiK];omega
 have Y:=ltB (by simpa using Y);obtain⟨q,hq⟩:=aM Y;have b1:=inB Y;have ab:=iA (f:=B0) (b:=L) hq;rw[<-aa]at ab;simp only[go_sem,O,J,T,I,E,F,aC hq,b1];refine aJ fun i8 ag=>?_
 simp only[go_sem,O,J,T,I,E,F,R];refine bP ag (by simp[lI]) fun ac (R8:ac i8=some (⟨101,2,[cN q]⟩)) N=>?_
 replace R:=N R;obtain⟨am,R⟩:=R;clear N ag;simp only[go_sem,O,J,T,I,E,F,R8,R];refine gW [i8] [(0,true),(1,true),(2,true),(3,true),(4,true),(5,true)] (by simp[R8]) (by kernel_rfl) fun Hp Hr hp hr _ aw=>?_
 have al:=(hp i8 (by simp)).trans R8;simp only[go_sem,O,J,T,I,E,F,al];refine⟨by decide,by decide,nC hr ?_⟩;simp only[go_sem,O,J,T,I,E,F,R,Xaa];refine aA (fun hc=>?_) (fun hc=>?_)
 ·simp only[go_sem,O,J,T,I,E,F,aV k];exact⟨⟨k+1,j,M,b,Y,rfl,rfl,rfl,R,hL,hB,ao,U,X,by rw[ab];unfold B0;rw[if_pos hc]⟩,by simp only[aF];omega⟩
 have ah:B0 M q=M.set q.b.toNat (M.getD q.b.toNat 0 ||| M.getD q.a.toNat 0 ||| 2^q.a.toNat):=by unfold B0;rw[if_neg (by rw[hc];simp)]
 simp only[Xah,decide_eq_false_iff_not]at hc;obtain⟨⟨⟨c1,c2⟩,c3⟩,c4⟩:=hc;obtain⟨A,hA⟩:=Int.eq_ofNat_of_zero_le (show 0<=q.a by omega);obtain⟨B,af⟩:=Int.eq_ofNat_of_zero_le (show 0<=q.b by omega);rw[hA]at c3;rw[af]at c4;have aj:A<M.length:=by omega
 have ae:B<M.length:=by omega
 obtain⟨u,hu⟩:=aM ae;obtain⟨w,hw⟩:=aM aj;rw[hA,af,Xbd,Xbd,ahW hu,ahW hw]at ah;rw[ah]at ab;have g1:=aC (f:=fun n:Nat=>[int (n:Nat)]) hu;have g2:=aC (f:=fun n:Nat=>[int (n:Nat)]) hw;have d1:=inB ae;have d2:=inB aj;have bu:=hB u (Xac hu);have bw:=hB w (Xac hw);have b2:2^A<2^62:=Xca (by decide) (by omega);have o1:u ||| w<2^62:=Xbx bu bw;have o2:u ||| w ||| 2^A<2^62:=Xbx o1 b2;have v1:pP .or .i64 (u:Int) (w:Int)=((u ||| w:Nat):Int):=yX (by omega) (by omega);have v2:pP .or .i64 ((u ||| w:Nat):Int) ((2^A:Nat):Int)=((u ||| w ||| 2^A:Nat):Int):=yX (by omega) (by omega);have v3:shV .shl .i64 1 (A:Int)=((2^A:Nat):Int):=Gi (by omega);have ai:u<=u ||| w ||| 2^A:=Xai Nat.left_le_or Nat.left_le_or;simp only[go_sem,O,J,T,I,E,F];refine gW [j] [(0,true),(1,true),(2,true),(3,true),(4,true),(5,true),(6,true),(7,true),(8,true),(9,true),(10,true),(11,true),(12,true)] (by simp[R]) (by kernel_rfl) fun Hp Hr hp hr _ aw=>?_
 have au:=(hp j (by simp)).trans R;simp only[go_sem,O,J,T,I,E,F,hA,af,g1,g2,d1,d2,Xaa,v1,v2,v3,au];refine⟨ae,aj,?_⟩;refine nC hr ?_;simp only[go_sem,O,J,T,I,E,F,R,hA,af,g1,d1,Xaa,v1,v2,v3];refine⟨ae,aA (fun hd=>?_) (fun hd=>?_)⟩
 ·have hd : u < u ||| w ||| 2 ^ A := by have:(((u ||| w ||| 2^A:Nat):Int) != (u:Int))=true:=hd;simp only[bne_iff_ne,ne_eq]at this;omega
  simp only[go_sem,O,J,T,I,E,F,R,hA,af,d1,Xaa];generalize ay:u ||| w ||| 2^A=v at *;refine bU so3 R (by rw[Xaa];exact⟨ae,rfl,Xag 1⟩) ?_;have ak:(M.map fun n:Nat=>[int (n:Nat)]).set B (lV ((M.map fun n:Nat=>[int (n:Nat)]).getD B []) 0 [int (v:Nat)])=(M.set B v).map fun n:Nat=>[int (n:Nat)]:=by rw[g1,List.map_set];rfl
  have R3:aI ac j (some (⟨3,1,(M.map fun n:Nat=>[int (n:Nat)]).set B (lV ((M.map fun n:Nat=>[int (n:Nat)]).getD B []) 0 [int (v:Nat)])⟩:Row)) j=some (Dh (M.set B v)):=by rw[aB,ak]
  generalize aI ac j _=H3 at R3 |-;have ax:=MK hu hd (Nat.le_of_lt o2);simp only[go_sem,O,J,T,I,E,F,aV k];exact⟨⟨k+1,j,M.set B v,true,Y,rfl,rfl,rfl,R3,by rw[Xbe,hL],fun a ha=>by
   rcases List.mem_or_eq_of_mem_set ha with ha|rfl
   ·exact hB a ha
   ·exact o2,by omega,(fun _=>by omega),(fun h=>by cases h),ab.symm⟩,by simp only[aF];omega⟩
 ·simp only[go_sem,O,J,T,I,E,F,aV k];have ar:u ||| w ||| 2^A=u:=by have:(((u ||| w ||| 2^A:Nat):Int) != (u:Int))=false:=hd;simp only[bne_eq_false_iff_eq]at this;omega
  exact⟨⟨k+1,j,M,b,Y,rfl,rfl,rfl,R,hL,hB,ao,U,X,by rw[ab,ar,X6 hu]⟩,by simp only[aF];omega⟩
def Py(x:Instance)(i:Int):Bool:=match x.orders[i.toNat]? with|some o=>o.off|none=>false
def GW(x:Instance)(set:Int):Int:=
 if set<0 then 2
 else if((fA set).any fun a=>decide (a>=(x.orders.length:Int)))=true then 2
 else if((fA set).any (Py x))=true then 9
 else if(x.apart.any fun q=>dH set q.a&&dH set q.b)=true then 20
 else if(x.before.any fun q=>dH set q.b&& !dH set q.a)=true then 21
 else if((fA set).any fun a=>dH (((Aq x.orders.length x.before).getD a.toNat 0:Nat):Int) a)=true then 21
 else 0
def CG{α:Type}{p:α->Bool}{l:List α}{k:Nat}{a:α}(h:l[k]?=some a)(A:p a=true):l.any p=true:=Xao.2 ⟨a,Xac h,A⟩
def Ab{α:Type}{p:α->Bool}{l:List α}(h:∀a∈l,p a=false):l.any p=false:=Xax.2 fun a A=>by rw[h a A];simp
def Dr(x:Instance)(set:Int)(hx:x.orders.length<=60)(ha:x.apart.length<=1048576)(hb:x.before.length<=1048576):PC prog 145 [.agg (aE x),int set] (int (GW x set)):=by
 refine pcd func145 rfl rfl ?_;simp only[go_sem];have hP:GW x set=(if set<0 then 2
  else if((fA set).any fun a=>decide (a>=(x.orders.length:Int)))=true then 2
  else if((fA set).any (Py x))=true then 9
  else if(x.apart.any fun q=>dH set q.a&&dH set q.b)=true then 20
  else if(x.before.any fun q=>dH set q.b&& !dH set q.a)=true then 21
  else if((fA set).any fun a=>dH (((Aq x.orders.length x.before).getD a.toNat 0:Nat):Int) a)=true then 21
  else 0):=rfl
 generalize GW x set=RP at *;refine aA (fun hc=>?_) (fun hc=>?_)
 ·rw[if_pos (of_decide_eq_true hc)]at hP;simp only[go_sem];rw[hP];exact .refl _
 rw[if_neg (of_decide_eq_false hc)]at hP;simp only[go_sem];refine aP (jG set) ?_;have az:=Zh set;have aw:=fun a=>@Yu set a
 generalize fA set=S at *;simp only[go_sem,Xaa];refine⟨fun ρ H=>∃(k:Nat),k<=S.length/\ρ 1=int set/\ρ 2=.rp (aE x) 0/\ρ 5=.sl (S.map aQ)/\ρ 21=.sl (S.map aQ)/\ρ 22=int (S.length:Nat)/\ρ 23=int k/\(∀a∈S.take k,a<(x.orders.length:Int)),fun ρ _=>S.length-aT (ρ 23),⟨0,Xab _,by simp only[go_sem],by simp only[go_sem],by simp only[go_sem],by simp only[go_sem],by simp only[go_sem,Xaa],(by simp only[go_sem];rfl),by simp⟩,?_⟩;rintro ρ H ⟨k,hk,I,J,F,ah,af,ab,hz⟩;simp only[go_sem,I,J,F,ah,af,ab];refine aA (fun E=>?_) (fun M=>?_)
 ·have E:=ltB (by simpa using E);obtain⟨a,O⟩:=aM E;have b1:=inB E;simp only[go_sem,I,J,F,ah,af,ab,aC O,b1,Xaa];refine aA (fun hc=>?_) (fun hc=>?_)
  ·rw[if_pos (CG O hc)]at hP;simp only[go_sem];rw[hP];exact .refl _
  ·have hc:¬a>=(x.orders.length:Int):=of_decide_eq_false hc;simp only[go_sem,I,J,F,ah,af,ab,aV k];exact⟨⟨k+1,E,rfl,aS (p:=fun a:Int=>a<(x.orders.length:Int)) O (by omega) hz⟩,by simp only[aF];omega⟩
 have M:=geB hk (by simpa using M);subst M;rw[Xae]at hz;rw[if_neg (by rw[Ab fun a ha=>decide_eq_false (by have:=hz a ha;omega)];simp)]at hP;simp only[go_sem,I,J,F,ah,af,ab,Xaa];refine⟨fun ρ H=>∃(k:Nat),k<=S.length/\ρ 1=int set/\ρ 2=.rp (aE x) 0/\ρ 5=.sl (S.map aQ)/\ρ 33=.sl (S.map aQ)/\ρ 34=int (S.length:Nat)/\ρ 35=int k/\(∀a∈S.take k,Py x a=false),fun ρ _=>S.length-aT (ρ 35),⟨0,Xab _,by simp only[go_sem,I,J,F,ah,af,ab],by simp only[go_sem,I,J,F,ah,af,ab],by simp only[go_sem,I,J,F,ah,af,ab],by simp only[go_sem,I,J,F,ah,af,ab],by simp only[go_sem,Xaa,I,J,F,ah,af,ab],(by simp only[go_sem,I,J,F,ah,af,ab];rfl),by simp⟩,?_⟩;rintro ρ H ⟨k,hk,I,J,F,ae,ag,ac,hy⟩;simp only[go_sem,I,J,F,ae,ag,ac];refine aA (fun E=>?_) (fun M=>?_)
 ·have E:=ltB (by simpa using E);obtain⟨a,O⟩:=aM E;have b1:=inB E;obtain⟨A,rfl⟩:=aw a (Xac O);have hA:=hz _ (Xac O);have ai:A<x.orders.length:=by omega
  obtain⟨o,ho⟩:=aM ai;have b2:=inB ai;have ap:Py x (A:Int)=o.off:=by unfold Py;rw[Xbd,ho]
  simp only[go_sem,I,J,F,ae,ag,ac,aC O,b1,aC ho,b2];refine aA (fun hc=>?_) (fun hc=>?_)
  ·rw[if_pos (CG (p:=Py x) O (ap.trans hc))]at hP;simp only[go_sem];rw[hP];exact .refl _
  ·simp only[go_sem,I,J,F,ae,ag,ac,aV k];exact⟨⟨k+1,E,rfl,aS (p:=fun a=>Py x a=false) O (ap.trans hc) hy⟩,by simp only[aF];omega⟩
 have M:=geB hk (by simpa using M);subst M;rw[Xae]at hy;rw[if_neg (by rw[Ab hy];simp)]at hP;simp only[go_sem,I,J,F,ae,ag,ac,Xaa];refine⟨fun ρ H=>∃(k:Nat),k<=x.apart.length/\ρ 1=int set/\ρ 2=.rp (aE x) 0/\ρ 5=.sl (S.map aQ)/\ρ 47=.sl (x.apart.map cN)/\ρ 48=int (x.apart.length:Nat)/\ρ 49=int k/\(∀q∈x.apart.take k,(dH set q.a&&dH set q.b)=false),fun ρ _=>x.apart.length-aT (ρ 49),⟨0,Xab _,by simp only[go_sem,I,J,F,ae,ag,ac],by simp only[go_sem,I,J,F,ae,ag,ac],by simp only[go_sem,I,J,F,ae,ag,ac],by simp only[go_sem,I,J,F,ae,ag,ac],by simp only[go_sem,Xaa,I,J,F,ae,ag,ac],(by simp only[go_sem,I,J,F,ae,ag,ac];rfl),by simp⟩,?_⟩;rintro ρ H ⟨k,hk,I,J,F,X,U,T,hv⟩;simp only[go_sem,I,J,F,X,U,T];refine aA (fun E=>?_) (fun M=>?_)
 ·have E:=ltB (by simpa using E);obtain⟨q,hq⟩:=aM E;have b1:=inB E;simp only[go_sem,I,J,F,X,U,T,aC hq,b1];refine aJ fun i11 ak=>?_
  simp only[go_sem,I,J,F,X,U,T];refine bP ak (by simp[lI]) fun ar (av:ar i11=some (⟨101,2,[cN q]⟩)) N=>?_
  clear N ak;simp only[go_sem,I,J,F,X,U,T,av];refine⟨by decide,PC.use (uC set q.a) ?_⟩;simp only[go_sem,I,J,F,X,U,T,av];refine⟨fun _=>by decide,_,fun _=>(uC set q.b).q rfl,?_⟩;simp only[go_sem,I,J,F,X,U,T];refine aA (fun hc=>?_) (fun hc=>?_)
  ·rw[if_pos (CG (p:=fun q:Pair=>dH set q.a&&dH set q.b) hq hc)]at hP;simp only[go_sem];rw[hP];exact .refl _
  ·simp only[go_sem,I,J,F,X,U,T,aV k];exact⟨⟨k+1,E,rfl,aS (p:=fun q:Pair=>(dH set q.a&&dH set q.b)=false) hq hc hv⟩,by simp only[aF];omega⟩
 have M:=geB hk (by simpa using M);subst M;rw[Xae]at hv;rw[if_neg (by rw[Ab hv];simp)]at hP;simp only[go_sem,I,J,F,X,U,T,Xaa];refine⟨fun ρ H=>∃(k:Nat),k<=x.before.length/\ρ 1=int set/\ρ 2=.rp (aE x) 0/\ρ 5=.sl (S.map aQ)/\ρ 65=.sl (x.before.map cN)/\ρ 66=int (x.before.length:Nat)/\ρ 67=int k/\(∀q∈x.before.take k,(dH set q.b&& !dH set q.a)=false),fun ρ _=>x.before.length-aT (ρ 67),⟨0,Xab _,by simp only[go_sem,I,J,F,X,U,T],by simp only[go_sem,I,J,F,X,U,T],by simp only[go_sem,I,J,F,X,U,T],by simp only[go_sem,I,J,F,X,U,T],by simp only[go_sem,Xaa,I,J,F,X,U,T],(by simp only[go_sem,I,J,F,X,U,T];rfl),by simp⟩,?_⟩;rintro ρ H ⟨k,hk,I,J,F,Z,Y,aa,hw⟩;simp only[go_sem,I,J,F,Z,Y,aa];refine aA (fun E=>?_) (fun M=>?_)
 ·have E:=ltB (by simpa using E);obtain⟨q,hq⟩:=aM E;have b1:=inB E;simp only[go_sem,I,J,F,Z,Y,aa,aC hq,b1];refine aJ fun ay aj=>?_
  simp only[go_sem,I,J,F,Z,Y,aa];refine bP aj (by simp[lI]) fun aq (au:aq ay=some (⟨101,2,[cN q]⟩)) N=>?_
  clear N aj;simp only[go_sem,I,J,F,Z,Y,aa,au];refine⟨by decide,PC.use (uC set q.b) ?_⟩;simp only[go_sem,I,J,F,Z,Y,aa,au];refine⟨fun _=>by decide,_,fun _=>(uC set q.a).q rfl,?_⟩;simp only[go_sem,I,J,F,Z,Y,aa];refine aA (fun hc=>?_) (fun hc=>?_)
  ·rw[if_pos (CG (p:=fun q:Pair=>dH set q.b&& !dH set q.a) hq hc)]at hP;simp only[go_sem];rw[hP];exact .refl _
  ·simp only[go_sem,I,J,F,Z,Y,aa,aV k];exact⟨⟨k+1,E,rfl,aS (p:=fun q:Pair=>(dH set q.b&& !dH set q.a)=false) hq hc hw⟩,by simp only[aF];omega⟩
 have M:=geB hk (by simpa using M);subst M;rw[Xae]at hw;rw[if_neg (by rw[Ab hw];simp)]at hP;simp only[go_sem,I,J,F,Z,Y,aa,Xaa];have hL:=Mo x.orders.length x.before;refine aP (Zi x.orders.length x.before hx hb) ?_;generalize Aq x.orders.length x.before=CH at *;simp only[go_sem,I,J,F,Z,Y,aa,Xaa];refine⟨fun ρ H=>∃(k:Nat),k<=S.length/\ρ 14=.sl (CH.map fun n:Nat=>[int (n:Nat)])/\ρ 89=.sl (S.map aQ)/\ρ 90=int (S.length:Nat)/\ρ 91=int k/\(∀a∈S.take k,dH ((CH.getD a.toNat 0:Nat):Int) a=false),fun ρ _=>S.length-aT (ρ 91),⟨0,Xab _,by simp only[go_sem,I,J,F,Z,Y,aa],by simp only[go_sem,I,J,F,Z,Y,aa],by simp only[go_sem,Xaa,I,J,F,Z,Y,aa],(by simp only[go_sem,I,J,F,Z,Y,aa];rfl),by simp⟩,?_⟩;rintro ρ H ⟨k,hk,am,an,al,ao,hu⟩;simp only[go_sem,am,an,al,ao];refine aA (fun E=>?_) (fun M=>?_)
 ·have E:=ltB (by simpa using E);obtain⟨a,O⟩:=aM E;have b1:=inB E;obtain⟨A,rfl⟩:=aw a (Xac O);have hA:=hz _ (Xac O);have ai:A<CH.length:=by omega
  obtain⟨o,ho⟩:=aM ai;have b2:=inB ai;have ax:dH ((CH.getD ((A:Int)).toNat 0:Nat):Int) (A:Int)=dH (o:Nat) (A:Nat):=by rw[Xbd,ahW ho]
  have g1:=aC (f:=fun n:Nat=>[int (n:Nat)]) ho;simp only[go_sem,am,an,al,ao,aC O,b1,g1,b2];refine aP (uC (o:Nat) (A:Nat)) ?_;simp only[go_sem,am,an,al,ao];refine aA (fun hc=>?_) (fun hc=>?_)
  ·rw[if_pos (CG (p:=fun a=>dH ((CH.getD a.toNat 0:Nat):Int) a) O (ax.trans hc))]at hP;simp only[go_sem];rw[hP];exact .refl _
  ·simp only[go_sem,am,an,al,ao,aV k];exact⟨⟨k+1,E,rfl,aS (p:=fun a=>dH ((CH.getD a.toNat 0:Nat):Int) a=false) O (ax.trans hc) hu⟩,by simp only[aF];omega⟩
 have M:=geB hk (by simpa using M);subst M;rw[Xae]at hu;rw[if_neg (by rw[Ab hu];simp)]at hP;simp only[go_sem];rw[hP];exact .refl _
end Sq
namespace Nu.Ps
open Go.Aw Go.Aw.D Go.Proofs Ty Go.Nu Go.So
structure Priced where
 column:Column
 reduced:ByteArray
abbrev J1(gf:Nat):AV:=.v (.func (.func gf) #[] #[])
abbrev TB:=Priced×Nat
def fs(L:List TB):List Priced:=L.map Prod.fst
end Nu.Ps
namespace Nu.Ps
open Go.Aw Go.Aw.D Go.Proofs Ty Go.Nu Go.So
section
variable{gf:Nat}{lt:Priced->Priced->Bool}{ok:Priced->Prop}
end
end Nu.Ps
namespace Nu.Ps
open Go.Aw Go.Aw.D Go.Proofs Ty Go.Nu Go.So
section
variable{gf:Nat}{lt:Priced->Priced->Bool}{ok:Priced->Prop}
end
end Nu.Ps
namespace Nu.Ps
open Go.Aw Go.Aw.D Go.Proofs Go.Nu Go.So
end Nu.Ps
namespace Ve
open Go.Proofs.Tryz
open Go.Aw Go.Aw.D Go.Proofs Ty Go.Ve Dec
open Go.Proofs.YtgncgpcpbadfnaaGreatDoor.Nu
abbrev Ts(l:List Int):Row:=⟨3,1,l.map aQ⟩
abbrev pV(l:List TNode):Bool:=kZ TNode.leaf TNode.yes TNode.no l
abbrev Bh(l:List TNode)(k:Int):Nat:=cnt TNode.leaf TNode.yes TNode.no l k
abbrev ajZ(a:TNode):List Int:=nD TNode.leaf TNode.yes TNode.no a
abbrev BIn(l:List TNode)(V q:List Nat):Prop:=BInv TNode.leaf TNode.yes TNode.no TNode.choice mQ l V q
abbrev EL(l:List TNode)(k:Nat)(d:List Decision):Prop:=WayT TNode.leaf TNode.yes TNode.no TNode.choice mQ l k d
def qG(l:List TNode):Prop:=1<=l.length/\l.length<=1024/\pV l=true/\nV TNode.leaf TNode.yes TNode.no l=true/\∀k,k<l.length->∃d,EL l k d
def iP(n:Nat)(l:List TNode):List Int:=(List.range n).map fun i:Nat=>(Bh l (i:Int):Int)
def Ad(L:List Int)(v:Int):List Int:=L.set v.toNat (L.getD v.toNat 0+1)
def uO(n:Nat)(l:List TNode):(iP n l).length=n:=by simp[iP]
def NA(l:List TNode)(a:TNode)(k:Int):Bh (l++[a]) k=Bh l k+(ajZ a).count k:=by unfold Bh cnt;rw[List.flatMap_append,List.count_append];simp
def RZ{n:Nat}{l:List TNode}{a:TNode}(h:a.leaf=true):iP n (l++[a])=iP n l:=by
 unfold iP;refine List.map_congr_left fun i _=>?_
 rw[NA];simp[nD,h]
def NY{n:Nat}{l:List TNode}{a:TNode}(h:a.leaf=false)(T:inT n a.yes=true)(U:inT n a.no=true):iP n (l++[a])=Ad (Ad (iP n l) a.yes) a.no:=by
 simp only[inT,Xam,decide_eq_true_eq]at T U;obtain⟨y,F⟩:=Int.eq_ofNat_of_zero_le T.1;obtain⟨m,E⟩:=Int.eq_ofNat_of_zero_le U.1;unfold Ad;rw[F,E];refine List.ext_getElem? fun i=>?_
 have O:(iP n l).length=n:=uO n l;simp only[Xbd];by_cases A:i<n
 ·have M:(iP n (l++[a]))[i]?=some (Bh (l++[a]) (i:Int):Int):=by simp[iP,A]
  have I:(iP n l)[i]?=some (Bh l (i:Int):Int):=by simp[iP,A]
  have Y:(iP n l)[y]?=some (Bh l (y:Int):Int):=by unfold iP;rw[List.getElem?_map,List.getElem?_range (by omega)];rfl
  have X:(iP n l)[m]?=some (Bh l (m:Int):Int):=by unfold iP;rw[List.getElem?_map,List.getElem?_range (by omega)];rfl
  rw[M,NA];simp only[nD,h,Xaz,if_false,F,E,List.count_cons,List.count_nil,List.getD,List.getElem?_set,Xbe,O];by_cases h1:m=i <;> by_cases J:y=i
  ·subst h1;subst J;simp[I,A];omega
  ·subst h1;simp[I,A,J,show ¬((y:Int)=(m:Int))by omega]
  ·subst J;simp[I,A,h1,show ¬((m:Int)=(y:Int))by omega]
  ·simp[I,h1,J,show ¬((m:Int)=(i:Int))by omega,show ¬((y:Int)=(i:Int))by omega]
 ·have M:(iP n (l++[a]))[i]?=none:=List.getElem?_eq_none (by rw[uO];omega);rw[M,List.getElem?_eq_none];simp only[Xbe,O];omega
def UK{l:List TNode}{k:Nat}{a:TNode}(A:l[k]?=some a)(F:a.leaf=false)(h:inT l.length a.yes=false\/inT l.length a.no=false):¬qG l:=fun E=>by have:=E.2.2.1;unfold pV kZ at this;rw[Xaj]at this;have:=this a (Xac A);rcases h with h|h <;> simp[F,h]at this
def TA{n:Nat}{v:Int}(h:(decide (v<0)||decide (v>=(n:Int)))=true):inT n v=false:=by simp only[Xbm,decide_eq_true_eq]at h;simp only[inT,Bool.and_eq_false_iff,decide_eq_false_iff_not];omega
def ahZ{n:Nat}{v:Int}(h:(decide (v<0)||decide (v>=(n:Int)))=false):inT n v=true:=by simp only[Xah,decide_eq_false_iff_not]at h;simp only[inT,Xam,decide_eq_true_eq];omega
def Y8{l:List TNode}(k:Int):Bh l k<=2*l.length:=by
 induction l with
 | nil=>simp[cnt]
 | cons a r ih=>unfold Bh cnt at ih |-;rw[List.flatMap_cons,List.count_append,Xad];have:(nD TNode.leaf TNode.yes TNode.no a).count k<=2:=Xai List.count_le_length (by unfold nD;split <;> simp);omega
def okN(l:List TNode)(a:TNode):Bool:=a.leaf||(inT l.length a.yes&&inT l.length a.no)
def UU{H:aH}{j:Nat}(l:List TNode):aI H j (some ⟨3,1,List.replicate l.length [int 0]⟩) j=some (Ts (iP l.length (l.take 0))):=by
 rw[aB];have:iP l.length (l.take 0)=List.replicate l.length 0:=by unfold iP;rw[List.eq_replicate_iff];simp[cnt]
 rw[this];simp[aQ]
def VP(L:List Int)(v:Int):(Ad L v).length=L.length:=Xbe
def Up{L:List Int}{v:Int}{B:Nat}(h:∀u∈L,0<=u/\u<=(B:Nat)):∀u∈Ad L v,0<=u/\u<=((B+1:Nat):Int):=fun u A=>by
 unfold Ad at A;rcases List.mem_or_eq_of_mem_set A with A|rfl
 ·have:=h u A;omega
 ·by_cases E:v.toNat<L.length
  ·have:=h (L.getD v.toNat 0) (by rw[List.getD,List.getElem?_eq_getElem E];exact List.getElem_mem E);omega
  ·rw[List.getD,List.getElem?_eq_none (by omega)];simp;omega
def IS(n:Nat)(l:List TNode):∀u∈iP n l,0<=u/\u<=((2*l.length:Nat):Int):=fun u A=>by unfold iP at A;obtain⟨i,_,rfl⟩:=Xay.1 A;have:=Y8 (l:=l) (i:Int);omega
def Iq(e:TypeId×Nat×Nat)(d:Option Tmp)(j a b:Nat)(x:AV)(ρ:Env)(H:aH)(K:Env->aH->Prop):Prop:=match H j with
 | some r => rV H x fun news => (r.e = e.1 /\ r.sz = e.2.1 /\ news ≠ [] /\ cH e.2.1 news /\ b = r.es.length /\ (r.es.length + news.length) * e.2.2 <= 140737488355328) /\
       ∀(k':Nat) (pre:List (List AV)),pre.length<=a->H k'=none->K (upd ρ d (.oz k' pre.length (pre.length+(b-a)+news.length))) (aI (aI H j none) k' (some ⟨e.1,e.2.1,pre++(r.es.drop a++news)⟩))
 | none=>False
def TL{P:Program}{d:Option Tmp}{t:TypeId}{j a b:Nat}{x:AV}{ρ:Env}{H:aH}{K:Env->aH->Prop}:Gv P d t (.oz j a b) x ρ H K=bM (bT P t) (fun e=>Iq e d j a b x ρ H K):=by
 unfold Gv qK Iq;cases bT P t with
 | none=>rfl
 | some e=>obtain⟨a,b,c⟩:=e;rfl
@[congr] theorem wappZ_c {e d j a b x x' ρ H K} (h':x=x'):Iq e d j a b x ρ H K=Iq e d j a b x' ρ H K:=h'▸rfl
def Fc{e:TypeId×Nat×Nat}{d:Option Tmp}{j a b:Nat}{news:List (List AV)}{ρ:Env}{H:aH}{K:Env->aH->Prop}{r:Row}(E:H j=some r)
  (h1:r.e=e.1/\r.sz=e.2.1) (h0:news≠[]) (J:cH e.2.1 news) (F:b=r.es.length) (I:(r.es.length+news.length)*e.2.2<=140737488355328)
  (h:∀(j':Nat) (A:List (List AV)),A.length<=a->H j'=none->K (upd ρ d (.oz j' A.length (A.length+(b-a)+news.length))) (aI (aI H j none) j' (some ⟨e.1,e.2.1,A++(r.es.drop a++news)⟩))):Iq e d j a b (.sl news) ρ H K:=by
 unfold Iq;simp only[E];exact⟨⟨h1.1,h1.2,h0,J,F,I⟩,h⟩
attribute [go_sem ↓] TL
attribute [go_sem] TL
def X9(x:AV)(H:aH):Nat:=match x with
 | .oz _ a b=>b-a
 | .os j=>match H j with
   | some r=>r.es.length
   | none=>0
 | _=>0
def vJ{l:List TNode}(A:pV l=true){k:Nat}{a:TNode}(E:l[k]?=some a)(F:a.leaf=false):∃y n:Nat,a.yes=(y:Int)/\a.no=(n:Int):=by unfold pV kZ at A;rw[Xaj]at A;have:=A a (Xac E);simp only[F,Bool.false_or,Xam,inT,decide_eq_true_eq]at this;exact⟨a.yes.toNat,a.no.toNat,by omega,by omega⟩
def qE(q:List Nat):List (List AV):=q.map fun i:Nat=>[int (i:Nat)]
def gN(q:List Nat):(qE q).length=q.length:=by simp[qE]
def Zv(l:List TNode)(b:Bool)(hb:b=true↔qG l)(hl:l.length<=1048576):PC prog 16 [.sl (l.map bO)] (boo b):=by
 refine pcb (fun t=>t == 78) func16 rfl rfl ?_;simp only[go_sem];refine aA (fun h0=>?_) (fun h0=>?_)
 ·simp only[go_sem];have:b=false:=by
   cases b
   ·rfl
   ·have:=hb.1 rfl;have h1:=this.1;have h2:=this.2.1;simp at h0;omega
  subst this;exact .refl _
 have ax:1<=l.length:=by simp at h0;omega
 have a5:l.length<=1024:=by simp at h0;omega
 simp only[go_sem];refine⟨by omega,aJ fun j hj=>?_⟩;simp only[go_sem];refine⟨fun ρ H=>∃(k:Nat) (j:Nat),k<=l.length/\ρ 0=.sl (l.map bO)/\ρ 24=.sl (l.map bO)/\ρ 25=int (l.length:Nat)/\ρ 26=int k/\ρ 3=.os j/\H j=some (Ts (iP l.length (l.take k)))/\(∀a∈l.take k,okN l a=true),fun ρ _=>l.length-aT (ρ 26),⟨0,j,Xab _,by simp only[go_sem],by simp only[go_sem],by simp only[go_sem,Xaa],(by simp only[go_sem];rfl),by simp only[go_sem],UU l,by simp⟩,?_⟩;rintro ρ H ⟨k,j,hk,A,E,F,I,X,R,hz⟩;simp only[go_sem,A,E,F,I,X];refine aA (fun T=>?_) (fun af=>?_)
 ·have T:=ltB (by simpa using T);obtain⟨a,ha⟩:=aM T;have b1:=inB T;have hs:=bE ha;simp only[go_sem,A,E,F,I,X,aC ha,b1];refine aJ fun i5 av=>?_
  simp only[go_sem,A,E,F,I,X,aC ha,b1,R];refine bP av (by simp[gT]) fun bd (R5:bd i5=some (⟨60,10,[bO a]⟩)) N=>?_
  replace R:=N R;obtain⟨a6,R⟩:=R;clear N av;simp only[go_sem,A,E,F,I,X,aC ha,b1,R5,R];refine aA (fun hf=>?_) (fun hf=>?_)
  ·simp only[go_sem,A,E,F,I,X,aV k];refine⟨⟨k+1,j,T,rfl,rfl,?_,aS ha (by unfold okN;rw[hf];rfl) hz⟩,msr T⟩;rw[hs,RZ hf];exact R
  ·simp only[go_sem,A,E,F,I,X,R5];have aq:=IS l.length (l.take k);rw[show(l.take k).length=k by rw[Xal];omega]at aq;have bh:=uO l.length (l.take k);have bj:inT l.length a.yes=true->inT l.length a.no=true->iP l.length (l.take (k+1))=Ad (Ad (iP l.length (l.take k)) a.yes) a.no:=fun h1 h2=>by rw[hs];exact NY hf h1 h2
   generalize iP l.length (l.take k)=C at *;refine⟨fun ρ H=>∃(m:Nat) (L:List Int),m<=2/\ρ 0=.sl (l.map bO)/\ρ 3=.os j/\ρ 24=.sl (l.map bO)/\ρ 25=int l.length/\ρ 26=int k/\ρ 36=.agg [int a.yes,int a.no]/\ρ 37=int m/\H j=some (Ts L)/\L=([a.yes,a.no].take m).foldl Ad C/\(∀u∈L,0<=u/\u<=(2*k+m:Nat))/\L.length=l.length/\∀v∈[a.yes,a.no].take m,inT l.length v=true,fun ρ _=>2-aT (ρ 37),⟨0,C,by omega,by simp only[go_sem,A,E,F,I,X],by simp only[go_sem,A,E,F,I,X],by simp only[go_sem,A,E,F,I,X],by simp only[go_sem,A,E,F,I,X],by simp only[go_sem,A,E,F,I,X],by simp only[go_sem,A,E,F,I,X],(by simp only[go_sem,A,E,F,I,X];rfl),R,rfl,aq,bh,by simp⟩,?_⟩;clear A E F I X R R5;rintro ρ H ⟨m,L,hm,A,X,E,F,I,ar,au,R,hL,hB,bp,hv⟩;simp only[go_sem,A,X,E,F,I,ar,au];refine aA (fun bk=>?_) (fun bi=>?_)
   ·have a9:m<2:=by simp at bk;omega
    obtain⟨v,hvm,hvi⟩:∃v,[a.yes,a.no][m]?=some v/\(v=a.yes\/v=a.no):=by
     obtain rfl|rfl:m=0\/m=1:=by omega
     ·exact⟨_,rfl,.inl rfl⟩
     ·exact⟨_,rfl,.inr rfl⟩
    have bo:[int a.yes,int a.no].getD m .any=int v:=by
     obtain rfl|rfl:m=0\/m=1:=by omega
     ·simp at hvm;subst hvm;rfl
     ·simp at hvm;subst hvm;rfl
    have bc:=bE hvm;simp only[go_sem,A,X,E,F,I,ar,au,Nat.mul_one,bo];refine⟨by omega,by first|omega|(simp;omega),aA (fun am=>?_) (fun am=>?_)⟩
    ·simp only[go_sem];have aj:¬qG l:=UK ha hf (by
      rcases hvi with rfl|rfl
      ·exact .inl (TA am)
      ·exact .inr (TA am))
     have:b=false:=by
      cases b
      ·rfl
      ·exact absurd (hb.1 rfl) aj
     subst this;exact .refl _
    ·have bm:=ahZ am;simp only[Xah,decide_eq_false_iff_not]at am;obtain⟨u,hu⟩:=aM (show v.toNat<L.length by omega);have bt:=hB u (Xac hu);simp only[go_sem,A,X,E,F,I,ar,au,R,aC hu,Xaa];refine⟨⟨by omega,by omega⟩,by omega,⟨by omega,by omega⟩,?_⟩;refine bU so3 R (by simp;omega) ?_;simp only[go_sem,A,X,E,F,I,ar,au,aV m];rw[bG (by omega)];refine⟨⟨m+1,Ad L v,by omega,rfl,?_,?_,Up (B:=2*k+m) hB,by rw[VP,bp],?_⟩,by simp only[aF];omega⟩
     ·simp[Ad,List.getD,hu,List.map_set,aQ]
     ·rw[bc,List.foldl_append,<-hL];rfl
     ·rw[bc];intro w hw;rcases Xat.1 hw with hw|hw
      ·exact hv w hw
      ·rw[Xbg.1 hw];exact bm
   ·have a9:m=2:=by simp at bi;omega
    subst a9;have hy:=hv a.yes (by simp);have hn:=hv a.no (by simp);simp only[go_sem,A,X,E,F,I,aV k];refine⟨⟨k+1,j,T,rfl,rfl,?_,aS ha (by unfold okN;rw[hy,hn];simp) hz⟩,msr T⟩;rw[bj hy hn,R,hL];rfl
 have af:=geB hk (by simpa using af);subst af;rw[Xae]at R hz;have M:pV l=true:=by unfold pV kZ;rw[Xaj];exact hz
 have aq:=IS l.length l;have an:=uO l.length l;have ba:∀i u,(iP l.length l)[i]?=some u->i<l.length/\u=(Bh l (i:Int):Int):=fun i u hu=>by
  have hi:i<l.length:=by have:=(List.getElem?_eq_some_iff.1 hu).1;rw[uO]at this;exact this
  unfold iP at hu;rw[List.getElem?_map,List.getElem?_range hi]at hu;injection hu with hu;exact⟨hi,hu.symm⟩
 generalize iP l.length l=C at *;simp only[go_sem,A,E,F,I,X,R];refine⟨fun ρ H=>∃(k:Nat),k<=l.length/\ρ 0=.sl (l.map bO)/\ρ 56=.os j/\ρ 57=int (l.length:Nat)/\ρ 58=int k/\H j=some (Ts C)/\(∀i,i<k->(if i=0 then Bh l 0 == 0 else Bh l i == 1)=true),fun ρ _=>l.length-aT (ρ 58),⟨0,Xab _,by simp only[go_sem,A,R,an],by simp only[go_sem,A,R,an],by simp only[go_sem,Xaa,A,R,an],(by simp only[go_sem,A,R,an];rfl),R,(fun i hi=>absurd hi (Nat.not_lt_zero i))⟩,?_⟩;rintro ρ H ⟨k,hk,A,ac,aa,Z,R,hq⟩;simp only[go_sem,A,ac,aa,Z,R];refine aA (fun T=>?_) (fun af=>?_)
 ·have T:=ltB (by simpa using T);obtain⟨c,hc⟩:=aM (show k<C.length by omega);have b1:=inB (show k<C.length by omega);obtain⟨_,be⟩:=ba k c hc;have bq:=Y8 (l:=l) (k:Int);simp only[go_sem,A,ac,aa,Z,R,aC hc,b1,Xaa];have a8:(if k=0 then Bh l 0 == 0 else Bh l k == 1)= !((k:Int) == 0&&c != 0||decide ((k:Int)>0)&&c != 1):=by
   subst be;by_cases h:k=0
   ·subst h;exact Xap.2 (by simp)
   ·rw[if_neg h];exact Xap.2 (by simp[h];omega)
  refine⟨by omega,aA (fun aj=>?_) (fun bf=>?_)⟩
  ·simp only[go_sem];have:b=false:=by
    cases b
    ·rfl
    ·have:=(hb.1 rfl).2.2.2.1;unfold nV at this;rw[Xaj]at this;have:=this k (Xav.2 T);rw[a8,aj]at this;cases this
   subst this;exact .refl _
  ·simp only[go_sem,A,ac,aa,Z,aV k];refine⟨⟨k+1,T,rfl,R,fun i hi=>?_⟩,msr T⟩;rcases Xbb i k with h|h
   ·exact hq i h
   ·obtain rfl:i=k:=by omega
    rw[a8,bf];rfl
 have af:=geB hk (by simpa using af);subst af;have ah:nV TNode.leaf TNode.yes TNode.no l=true:=by unfold nV;rw[Xaj];exact fun i hi=>hq i (Xav.1 hi)
 have bg:l≠[]:=by rintro rfl;simp at ax
 clear hq R aq an ba;simp only[go_sem,A,ac,aa,Z];refine aJ fun i11 a7=>?_
 simp only[go_sem,A,ac,aa,Z];refine⟨fun ρ H=>∃(V q:List Nat) (j:Nat) (Y:List (List AV)),BIn l V q/\ρ 0=.sl (l.map bO)/\ρ 10=int ((V++q).length:Nat)/\((ρ 11=.os j/\Y=[])\/ρ 11=.oz j Y.length (Y.length+q.length))/\Y.length<=V.length/\H j=some ⟨3,1,Y++qE q⟩,fun ρ H=>l.length+X9 (ρ 11) H-aT (ρ 10),⟨[],[0],i11,[],BInv.start bg,by simp only[go_sem,A,ac,aa,Z],(by simp only[go_sem,A,ac,aa,Z];rfl),.inl ⟨by simp only[go_sem,A,ac,aa,Z],rfl⟩,Xab _,aB _ _ _⟩,?_⟩;clear A ac aa Z a7;rintro ρ H ⟨V,q,j,Y,hB,A,O,J,br,R⟩;have ao:=hB.len;rw[Xaf]at ao;have R0:=R;rcases J with⟨J,rfl⟩|J
 ·rw[Xbl]at R R0;simp only[go_sem,A,O,J,R,gN];refine aA (fun az=>?_) (fun a4=>?_)
  ·cases q with
   | nil=>simp at az
   | cons k q=>
    have ak:=hB.lt k (by simp);obtain⟨a,ha⟩:=aM ak;have b1:=inB ak;simp only[Xad]at ao;simp only[go_sem,A,O,J,R,qE,Xaw,Xad,List.getD_cons_zero,aC ha,b1];refine⟨by omega,by omega,?_⟩;refine aJ fun aw U=>?_
    simp only[go_sem,A,O,J,R];refine bP U (by simp[gT]) fun ag (ap:ag aw=some (⟨60,10,[bO a]⟩)) N=>?_
    replace R:=N R;obtain⟨ai,R⟩:=R;clear N U;simp only[go_sem,A,O,J,ap,R];refine⟨by simp[gN] <;> omega,aA (fun hf=>?_) (fun hf=>?_)⟩
    ·have ab:a.leaf=false:=by simpa using hf
     obtain⟨y,n,hy,hn⟩:=vJ M ha ab;simp only[go_sem,A,O,J,R,ap];refine Fc R ⟨rfl,rfl⟩ (by simp) ⟨rfl,rfl,trivial⟩ (by simp[gN]) (by simp[gN];omega) (fun j' al a0 bn=>?_);simp only[go_sem,A,O,J];rw[bG (by simp;omega)];refine⟨⟨V++[k],q++[y,n],j',al,hB.innerStep ah M ha ab hy hn,?_,.inr ?_,?_,?_⟩,?_⟩
     ·simp <;> omega
     ·simp[gN] <;> omega
     ·simp at a0 |-;omega
     ·simp[aB,qE,hy,hn]
     ·simp[X9,aT,R0,gN] <;> omega
    ·have ab:a.leaf=true:=by simpa using hf
     simp only[go_sem,A,O,J];refine⟨⟨V++[k],q,j,[[int (k:Nat)]],hB.leafStep ha ab,?_,.inr ?_,?_,?_⟩,?_⟩
     ·simp <;> omega
     ·simp[gN] <;> omega
     ·simp <;> omega
     ·rw[R];simp[qE]
     ·simp[X9,aT,R0,gN] <;> omega
  ·have ay : q = [] := by
    cases q with
    | nil=>rfl
    | cons k q=>simp at a4
   subst ay;have ae:=hB.full;simp only[go_sem,A,O,J];refine cK ?_;refine Xap.2 (Iff.trans ?_ hb.symm);simp only[Xba,Int.ofNat_inj];rw[ae];exact⟨fun h=>⟨ax,a5,M,ah,h⟩,fun h=>h.2.2.2.2⟩
 ·simp only[go_sem,A,O,J,R,gN,Nat.add_sub_cancel_left];refine aA (fun az=>?_) (fun a4=>?_)
  ·cases q with
   | nil=>simp at az
   | cons k q=>
    have ak:=hB.lt k (by simp);obtain⟨a,ha⟩:=aM ak;have b1:=inB ak;simp only[Xad]at ao;have bb:(Y++qE (k::q)).getD Y.length []=[int (k:Nat)]:=by simp[qE]
    simp only[go_sem,A,O,J,R,Xaf,gN,Xad,Nat.add_sub_cancel_left,Nat.add_zero,bb,aC ha,b1];refine⟨by omega,by omega,?_⟩;refine aJ fun aw U=>?_
    simp only[go_sem,A,O,J,R];refine bP U (by simp[gT]) fun ag (ap:ag aw=some (⟨60,10,[bO a]⟩)) N=>?_
    replace R:=N R;obtain⟨ai,R⟩:=R;clear N U;simp only[go_sem,A,O,J,ap,R];simp only[Nat.add_sub_cancel_left];refine⟨by omega,aA (fun hf=>?_) (fun hf=>?_)⟩
    ·have ab:a.leaf=false:=by simpa using hf
     obtain⟨y,n,hy,hn⟩:=vJ M ha ab;simp only[go_sem,A,O,J,R,ap];refine Fc R ⟨rfl,rfl⟩ (by simp) ⟨rfl,rfl,trivial⟩ (by simp[gN]) (by simp[gN];omega) (fun j' al a0 bn=>?_);simp only[go_sem,A,O,J];rw[bG (by simp;omega)];refine⟨⟨V++[k],q++[y,n],j',al,hB.innerStep ah M ha ab hy hn,?_,.inr ?_,?_,?_⟩,?_⟩
     ·simp <;> omega
     ·simp[gN] <;> omega
     ·simp at a0 |-;omega
     ·simp[aB,qE,hy,hn]
     ·simp[X9,aT,R0,gN] <;> omega
    ·have ab:a.leaf=true:=by simpa using hf
     simp only[go_sem,A,O,J];refine⟨⟨V++[k],q,j,Y++[[int (k:Nat)]],hB.leafStep ha ab,?_,.inr ?_,?_,?_⟩,?_⟩
     ·simp <;> omega
     ·simp[gN] <;> omega
     ·simp <;> omega
     ·rw[R];simp[qE]
     ·simp[X9,aT,R0,gN] <;> omega
  ·have ay : q = [] := by
    cases q with
    | nil=>rfl
    | cons k q=>simp at a4
   subst ay;have ae:=hB.full;simp only[go_sem,A,O,J];refine cK ?_;refine Xap.2 (Iff.trans ?_ hb.symm);simp only[Xba,Int.ofNat_inj];rw[ae];exact⟨fun h=>⟨ax,a5,M,ah,h⟩,fun h=>h.2.2.2.2⟩
end Ve
end Go.Proofs.YtgncgpcpbadfnaaGreatDoor
section
namespace Go.Aw
open Go.RowKit
def KT(r:Row):Bool:=r.es.flatten.all fun x=>(fv x).isSome
def Jf{S I:Sg}{w E:World}:∀(l:List AV) (xs:List Value),(l.all fun x=>(fv x).isSome)=true->bC S w l xs->bC I E l xs
 | [],_,_,h=>h
 | x::r,xs,hf,h=>by simp only[List.all_cons,Bool.and_eq_true]at hf;simp only[bC]at h |-;obtain⟨u,t,rfl,h1,F⟩:=h;obtain⟨v,A⟩:=Option.isSome_iff_exists.1 hf.1;have:=Lh A h1;subst this;exact⟨u,t,rfl,Pv A h1,Jf r t hf.2 F⟩
def NC.lent{P:Program}{f:FuncId}{args args':List AV}{H:aH}{K:AV->aH->Prop}{row:Row}(hc:ConvL H args args')(h:NC P f args' row .os)(hf:KT row=true)(hK:∀k,H k=none->K (.os k) (aI H k (some row))):bF P f args H K:=by
 intro S w vals E ha
 let S0:Sg:={ S.froze H with fz:=fun k=>k<w.heap.size }
 have ac:(S.froze H).le S0:=⟨fun _ h=>h,Nat.le_refl _,fun _ _=>rfl,fun _ _=>rfl⟩;have an:St S0 w bS:=⟨fun k O=>by
  rcases O with O|⟨j,r,A,T⟩
  ·exact E.fz_lt k (E.ro_fz k O)
  ·exact(E.rows j r A).block_lt T,fun _ h=>h,fun k r O=>by simp[bS]at O,fun k r O=>by simp[bS]at O,fun k k' r r' O=>by simp[bS]at O,(E.tabs.keep (S.le_froze H) (fN.refl S w)).keep ac (fN.refl _ w)⟩
 refine(h S0 w vals an (fun _ h=>h) (dK ac (fN.refl _ w) _ _ (hc.rep E ha))).mono fun e w' ⟨v,x,H',S',he,⟨k,hx,O⟩,ak,hv,T,hn⟩=>?_
 subst hx;have ao:S.N<=k:=by
  rcases Nat.lt_or_ge k S.N with ai|ag
  ·rw[hn k ai rfl]at O;cases O
  ·exact ag
 have ah:H k=none:=by
  cases hH:H k with
  | none=>rfl
  | some r=>have:=(E.rows k r hH).lt;omega
 have hR:=ak.rows k row O;have am:=hv;simp only[rep]at am;obtain⟨_,rfl,a0,n0,c0,ae⟩:=am;obtain⟨xs,ho,hr,h1⟩:=hR.sl ae
 let S'':Sg:={ S with N:=S'.N,loc:=S'.loc,sz:=S'.sz }
 have Z:S.le S'':=⟨fun _ h=>h,T.le.N,T.le.loc,T.le.sz⟩;have J:∀k,k<w.heap.size->w'.heap[k]?=w.heap[k]?:=T.same;have Y:fN S w w':=fun j A=>J j (E.fz_lt j (E.ro_fz j A))
 have af:∀g,blk (S'.loc k)=some g->w.heap.size<=g:=fun g M=>by
  rcases Nat.lt_or_ge g w.heap.size with ai|ag
  ·exact absurd (T.fz g ai) (ak.free k row O g M)
  ·exact ag
 have I:∀j r,j≠k->aI H k (some row) j=some r->H j=some r:=fun j r A h=>by rwa [aD _ _ _ _ A]at h
 have aa:∀j r,H j=some r->S'.loc j=S.loc j:=fun j r A=>T.le.loc j (E.rows j r A).lt
 refine⟨_,.os k,aI H k (some row),S'',he,hK k ah,⟨E.ro_fz,fun j A=>Nat.lt_of_lt_of_le (E.fz_lt j A) T.size,?_,?_,?_,E.tabs.keep Z Y⟩,?_,⟨Z,fun _ h=>h,T.os,T.tape,T.output,T.size,fun j A=>J j (E.fz_lt j A),fun _ h=>.inl h⟩,fun j A h0=>?_⟩
 ·intro j r A;by_cases e:j=k
  ·subst e;rw[aB]at A;injection A with A;subst A;exact⟨hR.lt,hR.sz,hR.pos,hR.len,.inl ⟨xs,ho,Jf _ _ hf hr,h1⟩⟩
  ·have F:=I j r e A;exact(E.rows j r F).keep Z Y fun g M=>J g ((E.rows j r F).block_lt M)
 ·intro j r A g M;by_cases e:j=k
  ·subst e;intro h2;have:=af g M;have:=E.fz_lt g h2;omega
  ·have F:=I j r e A;have e2:S''.loc j=S.loc j:=aa j r F;rw[e2]at M;exact E.free j r F g M
 ·intro j j' r r' A F al g ab X;by_cases e:j=k
  ·subst e;have U:=I j' r' (Ne.symm al) F;have e2:S''.loc j'=S.loc j':=aa j' r' U;rw[e2]at X;have:=af g ab;have:=(E.rows j' r' U).block_lt X;omega
  ·have aj:=I j r e A;have e1:S''.loc j=S.loc j:=aa j r aj;rw[e1]at ab;by_cases e':j'=k
   ·subst e';have:=af g X;have:=(E.rows j r aj).block_lt ab;omega
   ·have U:=I j' r' e' F;have e2:S''.loc j'=S.loc j':=aa j' r' U;rw[e2]at X;exact E.disj j j' r r' aj U al g ab X
 ·simp only[rep];exact⟨hR.lt,rfl,a0,n0,c0,ae⟩
 ·rw[aD _ _ _ _ (by omega)];exact h0
def Az(p:Nat->Prop)(h:∃m,p m):∃m,p m/\∀A,p A->m<=A:=by
 obtain⟨m,F⟩:=h;induction m using Nat.strongRecOn with
 | ind m ih=>
  by_cases h:∃A,A<m/\p A
  ·obtain⟨A,h1,E⟩:=h;exact ih A h1 E
  ·exact⟨m,F,fun A E=>Nat.le_of_not_lt fun h1=>h ⟨A,h1,E⟩⟩
def PD{W:(Ex->Env->aH->Prop)->Env->aH->Prop}{Q:Ex->Env->aH->Prop}{ρ:Env}{H:aH}(J:Nat->Env->aH->Prop)(m:Nat)(h0:J m ρ H)
  (h:∀m ρ H,J m ρ H->∀K:Env->aH->Prop,(∀F A H',F<m->J F A H'->K A H')->W (Ex.seq K Q) ρ H):ND W Q ρ H:=by
 classical
 let μ:Env->aH->Nat:=fun ρ H=>if h:∃m,J m ρ H then(Az _ h).choose else 0
 have E:∀ρ H m,J m ρ H->J (μ ρ H) ρ H/\μ ρ H<=m:=fun ρ H m Y=>by have I:∃m,J m ρ H:=⟨m,Y⟩;have e:μ ρ H=(Az _ I).choose:=dif_pos I;rw[e];exact⟨(Az _ I).choose_spec.1,(Az _ I).choose_spec.2 m Y⟩
 refine⟨fun ρ H=>∃m,J m ρ H,μ,⟨m,h0⟩,fun A H' ⟨F,T⟩=>?_⟩;exact h _ A H' (E A H' F T).1 _ fun U M Z O X=>⟨⟨U,X⟩,Nat.lt_of_le_of_lt (E M Z U X).2 O⟩
end Go.Aw
end
section
namespace Go.Proofs.YtgncgpcpbadfnaaGreatDoor.Ve
open Go.Proofs.Tryz
open Go.Aw Go.Aw.D Go.Proofs Ty Go.Ve Dec
open Go.Proofs.YtgncgpcpbadfnaaGreatDoor.Nu
def sZ:∀l:List Decision,cH 4 (l.map aO)
 | []=>trivial
 | _::r=>⟨rfl,sZ r⟩
abbrev eR(l:List Decision):Row:=⟨58,4,l.map aO⟩
def Cf(l:List Decision)(M:l.length<=1048576):NC prog 40 [.sl (l.map aO)] (eR l) .os:=by
 refine ncb (fun t=>t == 2||t == 5) func40 rfl rfl ?_;simp only[go_sem];refine aJ fun j J=>?_
 have R:=aB bS j (some (eR []));generalize aI bS j _=H at R |-;simp only[go_sem];refine⟨fun I=>?_,?_⟩
 ·refine aA (fun _=>?_) (fun A=>by simp at A);simp only[go_sem];refine aJ fun i E=>?_
  simp only[go_sem];refine⟨i,rfl,?_⟩;rw[aB,List.map_eq_nil_iff.1 I];rfl
 ·refine aA (fun A=>by simp at A) (fun _=>?_);simp only[go_sem];refine aJ fun i E=>?_
  simp only[go_sem];refine aX (aB _ _ _) ⟨rfl,rfl⟩ (sZ _) (by simp only[Xaa,List.length_nil];omega) (fun j' F=>?_);simp only[go_sem];refine⟨j',rfl,?_⟩;exact aB _ _ _
structure PathsOf(l:List TNode)(D:List (List Decision)):Prop where
 len:D.length=l.length
 way:∀k d,D[k]?=some d->EL l k d
 short:∀d∈D,d.length<l.length
def yM(d:List Decision):List AV:=[.sl (d.map aO)]
def Tq{l:List TNode}(A:pV l=true){k:Nat}{a:TNode}(E:l[k]?=some a)(F:a.leaf=false):(0<=a.yes/\a.yes<(l.length:Int))/\(0<=a.no/\a.no<(l.length:Int)):=by unfold pV kZ at A;rw[Xaj]at A;have:=A a (Xac E);simpa only[F,Bool.false_or,Xam,inT,decide_eq_true_eq]using this
def xQ(H:aH)(x:AV)(d:List Decision):Prop:=x=.sl (d.map aO)\/∃i,x=.os i/\H i=some (eR d)
abbrev xH(E:List AV):Row:=⟨51,1,E.map fun x=>[x]⟩
def pT(D:List (List Decision))(S:List Nat)(H:aH)(E:List AV):Prop:=∀k∈S,∀d,D[k]?=some d->∃x,E[k]?=some x/\xQ H x d
def xQ.keep{H H':aH}{x:AV}{d:List Decision}(h:xQ H x d)(A:∀i d,H i=some (eR d)->H' i=some (eR d)):xQ H' x d:=by
 rcases h with h|⟨i,h1,E⟩
 ·exact .inl h
 ·exact .inr ⟨i,h1,A i d E⟩
def kP{H:aH}{i j:Nat}{d:List Decision}{r:Row}(h:H i=some (eR d))(A:H j=some r)(E:r.e≠58):i≠j:=fun e=>by subst e;rw[h]at A;injection A with A;subst A;exact E rfl
def pT.keep{D:List (List Decision)}{S:List Nat}{H H':aH}{E:List AV}(h:pT D S H E)(U:Sup H H'):pT D S H' E:=fun k I d A=>by obtain⟨x,h1,J⟩:=h k I d A;exact⟨x,h1,J.keep fun i d F=>U i _ F⟩
def pT.keepD{D:List (List Decision)}{S:List Nat}{H H':aH}{E:List AV}(h:pT D S H E)(U:∀i d,H i=some (eR d)->H' i=some (eR d)):pT D S H' E:=fun k F d A=>by obtain⟨x,h1,I⟩:=h k F d A;exact⟨x,h1,I.keep U⟩
def xQ.conv{H:aH}{x:AV}{d:List Decision}(h:xQ H x d):ConvL H [x] [.sl (d.map aO)]:=by
 rcases h with rfl|⟨i,rfl,A⟩
 ·exact ConvL.refl _
 ·exact .cons _ _ _ _ (.row _ _ _ A (ConvE.refl _)) .nil
def Lw{E:List AV}{i y:Nat}{x:AV}(h:i=y):({ xH E with es:=(E.map fun x=>[x]).set i (x::List.drop 1 ((E.map fun x=>[x]).getD i [])) }:Row)=xH (E.set y x):=by
 subst h;unfold xH;by_cases A:i<E.length
 ·simp[List.map_set,List.getD,A]
 ·rw[List.set_eq_of_length_le (by simp;omega),List.set_eq_of_length_le (by omega)]
def abV{F:aH}{O E A:Nat}{X U r2:Row}(Y:F O=some X)(T:F E=none)(I:aI F E (some U) A=none):
  aI (aI (aI F E (some U)) E none) A (some r2) O=some X/\aI (aI (aI F E (some U)) E none) A (some r2) A=some r2/\A≠O/\∀i r,F i=some r->aI (aI (aI F E (some U)) E none) A (some r2) i=some r:=by
 have h:∀i r,F i=some r->i≠E/\i≠A:=fun i r J=>by
  have M:i≠E:=fun e=>by subst e;rw[J]at T;cases T
  refine⟨M,fun e=>?_⟩;subst e;rw[aD _ _ _ _ M,J]at I;cases I
 have Z:∀i r,F i=some r->aI (aI (aI F E (some U)) E none) A (some r2) i=some r:=fun i r J=>by obtain⟨M,e2⟩:=h i r J;rw[aD _ _ _ _ e2,aD _ _ _ _ M,aD _ _ _ _ M,J]
 exact⟨Z O X Y,aB _ _ _,(h O X Y).2.symm,Z⟩
def aaZ{H Y M J:aH}{E F A:Nat}{I r2:Row}(hr:∀k,k∉[E]->Y k=H k)(GU:∀i r,Y i=some r->M i=some r)(O:M A=some r2)(T:A≠F)(n6:F≠E)
  (h0:∀k,k∈[E]->aI M F (some I) k=none) (h1:∀k,k∈[E]->J k=H k) (X:∀k,k∉[E]->J k=aI M F (some I) k):
  J F=some I/\J A=some r2/\∀i r,H i=some r->i≠F->J i=some r:=by
 have e6:=h0 E (by simp);rw[aD _ _ _ _ n6.symm]at e6;have n7:A≠E:=fun e=>by subst e;rw[e6]at O;cases O
 refine⟨by rw[X F (by simpa using n6),aB],by rw[X A (by simpa using n7),aD _ _ _ _ T,O],fun i r Z U=>?_⟩;by_cases e:i=E
 ·subst e;rw[h1 i (by simp),Z]
 ·rw[X i (by simpa using e),aD _ _ _ _ U];exact GU i r ((hr i (by simpa using e)).trans Z)
def CB(d:List Decision):KT (eR d)=true:=by unfold KT;rw[Xaj];intro x A;obtain⟨l,E,A⟩:=List.mem_flatten.1 A;obtain⟨a,_,rfl⟩:=Xay.1 E;unfold aO at A;simp only[List.mem_cons,List.not_mem_nil,or_false]at A;rcases A with rfl|rfl|rfl|rfl <;> rfl
def KS{H:aH}:∀{E:List AV} {D:List (List Decision)} {n:Nat},E.length=n->D.length=n->(∀(k:Nat) (d:List Decision),D[k]?=some d->∃x,E[k]?=some x/\xQ H x d)->ConvE H (E.map fun x=>[x]) (D.map yM)
 | [],[],_,_,_,_=>.nil
 | [],d::D,_,h1,h2,_=>by subst h1;simp at h2
 | x::E,[],_,h1,h2,_=>by subst h2;simp at h1
 | x::E,d::D,n,h1,h2,h=>by simp at h1 h2;obtain⟨J,A,I⟩:=h 0 d rfl;simp at A;subst A;exact .cons _ _ _ _ (xQ.conv I) (KS (n:=n-1) (by omega) (by omega) fun k d F=>by simpa using h (k+1) d (by simpa using F))
def pT.two{l:List TNode}{D:List (List Decision)}(M:PathsOf l D)(hr:pV l=true)(hc:nV TNode.leaf TNode.yes TNode.no l=true){V q:List Nat}{k y n:Nat}{a:TNode}(ha:l[k]?=some a)(hf:a.leaf=false)(hy:a.yes=(y:Int))(hn:a.no=(n:Int))
  {H:aH} {E:List AV} {F:List Decision} (A:D[k]?=some F) (hF:pT D (V++k::q) H E) (ab:y≠n) (O:y<E.length) (aa:n<E.length) {I J:Nat} (h1:H I=some (eR (F++[a.choice]))) (h2:H J=some (eR (F++[mQ a.choice]))):
  pT D (V++[k]++(q++[y,n])) H ((E.set y (.os I)).set n (.os J)):=fun m hm d X=>by
 by_cases T:m=y
 ·subst T;have hw:=wJ hc hr (M.way m d X) (.yes (M.way k F A) ha hf hy);subst hw;exact⟨.os I,by rw[List.getElem?_set_ne (Ne.symm ab),List.getElem?_set_self O],.inr ⟨I,rfl,h1⟩⟩
 by_cases U:m=n
 ·subst U;have hw:=wJ hc hr (M.way m d X) (.no (M.way k F A) ha hf hn);subst hw;exact⟨.os J,by rw[List.getElem?_set_self (by rw[Xbe];exact aa)],.inr ⟨J,rfl,h2⟩⟩
 ·have Z : m ∈ V ++ k :: q := by
   simp only[Xat,List.mem_cons,List.not_mem_nil,or_false]at hm |-;rcases hm with(h|h)|h|h|h
   ·exact .inl h
   ·exact .inr (.inl h)
   ·exact .inr (.inr h)
   ·exact absurd h T
   ·exact absurd h U
  obtain⟨x,hx,Y⟩:=hF m Z d X;exact⟨x,by rw[List.getElem?_set_ne (fun e=>U e.symm),List.getElem?_set_ne (fun e=>T e.symm)];exact hx,Y⟩
set_option maxHeartbeats 1000000 in
theorem Uj (l:List TNode) (D:List (List Decision)) (ht:qG l) (hD:PathsOf l D):PC prog 19 [.sl (l.map bO)] (.sl (D.map yM)):=by
  obtain⟨bz,b4,F,ae,be⟩:=ht
  have a6:l≠[]:=by rintro rfl;simp at bz
  refine pcb (fun t=>t == 10) func19 rfl rfl ?_
  simp only[go_sem]
  refine⟨by omega,aJ fun j3 b0=>?_⟩
  simp only[go_sem]
  refine aJ fun j4 bw=>?_
  have bf:=aR (aB _ _ _) bw
  simp only[go_sem]
  refine PD (fun m ρ H=>∃(V q:List Nat) (j:Nat) (ab:List (List AV)) (j3:Nat) (E:List AV),m=l.length-V.length/\BIn l V q/\ρ 0=.sl (l.map bO)/\ρ 3=.os j3/\((ρ 4=.os j/\ab=[])\/ρ 4=.oz j ab.length (ab.length+q.length))/\ab.length<=V.length/\H j=some ⟨3,1,ab++qE q⟩/\H j3=some (xH E)/\E.length=l.length/\pT D (V++q) H E) _ ⟨[],[0],j4,[],j3,List.replicate l.length (.sl []),rfl,BInv.start a6,by simp only[go_sem],by simp only[go_sem],.inl ⟨by simp only[go_sem],rfl⟩,Xab _,aB _ _ _,?_,by simp,?_⟩ ?_
  . rw[aD _ _ _ _ bf,aB];simp[xH]
  . intro k hk d hd
    simp at hk
    subst hk
    have:=OC ae (hD.way 0 d hd)
    subst this
    exact⟨.sl [],by rw[List.getElem?_replicate,if_pos (by omega)],.inl rfl⟩
  clear b0 bw bf
  rintro m ρ H ⟨V,q,j,ab,j3,E,rfl,hB,J,I,O,b5,R,R3,ax,hF⟩ K hK
  have bd:=hB.len
  rw[Xaf]at bd
  have aw:j≠j3:=fun e=>by subst e;rw[R]at R3;cases R3
  rcases O with⟨O,rfl⟩|O
  . rw[Xbl]at R
    simp only[go_sem,J,I,O,R,gN]
    refine aA (fun bp=>?_) (fun bt=>?_)
    . cases q with
      | nil=>simp at bp
      | cons k q=>
        have aq:=hB.lt k (by simp)
        obtain⟨a,ha⟩:=aM aq
        have b1:=inB aq
        simp only[Xad]at bd
        simp only[go_sem,J,I,O,R,qE,Xaw,Xad,List.getD_cons_zero,aC ha,b1]
        refine⟨by omega,by omega,by omega,?_⟩
        generalize b6:[int (k:Nat)]::List.map (fun i:Nat=>[int (i:Nat)]) q=qr at *
        have U:=Sup.refl H
        refine aJ fun i6 aa=>?_
        have X:j≠i6:=aR R aa
        have A:j3≠i6:=aR R3 aa
        simp only[go_sem,J,I,O,R,R3]
        refine aN (aB _ _ _) (by simp[gT]) ?_
        have aj:=U.none aa
        generalize Y:aI (aI _ i6 _) i6 _=HGi6
        replace U:=Sup.eq ((U.upd aj _).upd aj _) Y
        replace R:=kpR Y X X R
        replace R3:=kpR Y A A R3
        have R6:HGi6 i6=some (⟨60,10,[bO a]⟩):=by rw[<-Y,aB];try rfl
        clear Y aa
        simp only[go_sem,J,I,O,R6,R,R3]
        refine aA (fun hf=>?_) (fun hf=>?_)
        . simp only[go_sem,J,I,O]
          refine hK (l.length-(V++[k]).length) _ _ (by simp;omega) ⟨V++[k],q,j,[[int (k:Nat)]],j3,E,rfl,hB.leafStep ha hf,by simp only[go_sem,J],by simp only[go_sem,I],.inr (by simp only[go_sem];simp <;> omega),by simp <;> omega,by rw[R];simp[qE],R3,ax,by rw[Xar];exact hF.keep U⟩
        . obtain⟨Z,ak⟩:=aM (show k<D.length by rw[hD.len];exact aq)
          obtain⟨x,av,an⟩:=hF.keep U k (by simp) Z ak
          have b2:=inB (show k<E.length by omega)
          have a7:Z.length<=1048576:=by have:=hD.short Z (Xac ak);omega
          obtain⟨y,n,hy,hn⟩:=vJ F ha hf
          obtain⟨a9,ay⟩:=Tq F ha hf
          rw[<-ax]at a9 ay
          have ao:=hB.innerStep ae F ha hf hy hn
          have b3:n≠k:=fun e=>by
            have:=ao.nd
            subst e
            rw[List.nodup_append]at this
            exact this.2.2 n (by simp) n (by simp) rfl
          have bg:y≠k:=fun e=>by
            have:=ao.nd
            subst e
            rw[List.nodup_append]at this
            exact this.2.2 y (by simp) y (by simp) rfl
          have bj:y≠n:=fun e=>Cd ae F ha hf (by rw[hy,hn,e])
          simp only[go_sem,J,I,O]
          refine lL [i6] (.q 0 (.q 1 (.q 2 (.q 3 (.q 4 (.q 8 (.q 9 (.a2 5 (.a2 6 (.a2 7 (.a1 10 (.a1 11 (.a1 12 (.a1 13 .nil)))) 10 (.a1 7 (.a1 11 (.a1 12 (.a1 13 .nil))))) 10 (.a1 6 (.a1 7 (.a1 11 (.a1 12 (.a1 13 .nil)))))) 10 (.a1 5 (.a1 6 (.a1 7 (.a1 11 (.a1 12 (.a1 13 .nil)))))))))))))) (fun M H'=>M 0=.sl (l.map bO)/\M 3=.os j3/\M 4=.oz j 1 (q.length+1)/\M 5=int (k:Nat)/\M 6=.op i6 0 0/\∃jA,H' j3=some (xH (E.set y (.os jA)))/\H' jA=some (eR (Z++[a.choice]))/\∀i r,HGi6 i=some r->i≠j3->H' i=some r) (by simp[R6]) (by kernel_rfl) (fun K' al Hp Hr hp hr _ bo=>?_) ?_
          . have P6:=(hp i6 (by simp)).trans R6
            have Q3:=(hr j3 (by simpa using A)).trans R3
            have ap:ConvL Hr [x] [.sl (Z.map aO)]:=xQ.conv (an.keep fun i d T=>(hr i (by simpa using kP T R6 (by simp))).trans T)
            rcases an with rfl|⟨i,rfl,T⟩
            all_goals
              simp only[go_sem,J,I,O,P6]
              repeat' (first
                | refine jN ?_ ?_
                | refine NC.lent ap (Cf Z a7) (CB Z) (fun jn ar=>?_)
                | (refine aX (r := eR Z) (aB _ _ _) ⟨rfl, rfl⟩ ⟨rfl, trivial⟩ (by simp; omega) (fun ac af => ?_)
                   obtain⟨G3,Gn,au,GU⟩:=abV (r2:=⟨58,4,(Z.map aO)++[aO a.choice]⟩) Q3 ar af
                   generalize aI (aI (aI Hr jn _) jn none) ac _=HG at *)
                | (refine bU Zs G3 (by simp;omega) ?_)
                | (refine⟨a9,?_⟩)
                | (refine⟨⟨by omega,rfl⟩,?_⟩)
                | (refine⟨⟨by omega,by omega⟩,?_⟩)
                | (refine⟨by omega,?_⟩)
                | simp only[go_sem,J,I,O,Q3,G3,aC av,Xaa]
                | simp only[go_sem,J,I,O,Q3,aC av,Xaa])
            all_goals
              refine dX (fun h0 Hm h1 h2=>?_)
              obtain⟨a1,a2,a3⟩:=aaZ hr GU Gn au A h0 h1 h2
              refine al _ _ ⟨by simp only[go_sem,J],by simp only[go_sem,I],by simp only[go_sem,O],by simp only[go_sem],by simp only[go_sem],ac,?_,?_,a3⟩
              . exact a1.trans (congrArg some (Lw (by rw[hy];rfl)))
              . exact a2.trans (congrArg some (by simp[eR]))
          . rintro ρ H2 ⟨J,I,O,e5,e6,jA,A3,An,AU⟩
            have R':=AU j _ R aw
            have ag:=AU i6 _ R6 A.symm
            have hU:∀i d,HGi6 i=some (eR d)->H2 i=some (eR d):=fun i d T=>AU i _ T (kP T R3 (by simp))
            have ai:(E.set y (.os jA))[k]?=some x:=by rw[List.getElem?_set_ne bg];exact av
            have ah:=an.keep hU
            have bk:=(hF.keep U).keepD hU
            have a4:(E.set y (AV.os jA)).length=E.length:=Xbe
            have bn:y<E.length:=by omega
            have bh:n<E.length:=by omega
            have a8:0<=a.no/\a.no<((E.set y (AV.os jA)).length:Int):=by rw[a4];exact ay
            have bv:=inB (show k<(E.set y (AV.os jA)).length by omega)
            generalize bu:E.set y (AV.os jA)=E1 at *
            simp only[go_sem,J,I,O,e5,e6]
            refine lL [i6] (.q 0 (.q 1 (.q 2 (.q 3 (.q 4 (.q 8 (.q 9 (.a1 5 (.a1 6 (.a1 7 (.a1 10 (.a1 11 (.a1 12 (.a1 13 (.a1 14 .nil))))))))))))))) (fun M H'=>M 0=.sl (l.map bO)/\M 3=.os j3/\M 4=.oz j 1 (q.length+1)/\M 6=.op i6 0 0/\∃jB,H' j3=some (xH (E1.set n (.os jB)))/\H' jB=some (eR (Z++[mQ a.choice]))/\∀i r,H2 i=some r->i≠j3->H' i=some r) (by simp[ag]) (by kernel_rfl) (fun K' al Hp Hr hp hr _ bo=>?_) ?_
            . have P6:=(hp i6 (by simp)).trans ag
              have Q3:=(hr j3 (by simpa using A)).trans A3
              have ap:ConvL Hr [x] [.sl (Z.map aO)]:=xQ.conv (ah.keep fun i d T=>(hr i (by simpa using kP T ag (by simp))).trans T)
              rcases ah with rfl|⟨i,rfl,T⟩
              all_goals
                simp only[go_sem,J,I,O,e5,e6,P6]
                repeat' (first
                  | refine aP (ZG a.choice) ?_
                  | refine NC.lent ap (Cf Z a7) (CB Z) (fun jn ar=>?_)
                  | (refine aX (r := eR Z) (aB _ _ _) ⟨rfl, rfl⟩ ⟨rfl, trivial⟩ (by simp; omega) (fun ac af => ?_)
                     obtain⟨G3,Gn,au,GU⟩:=abV (r2:=⟨58,4,(Z.map aO)++[aO (mQ a.choice)]⟩) Q3 ar af
                     generalize aI (aI (aI Hr jn _) jn none) ac _=HG at *)
                  | (refine bU Zs G3 (by simp;omega) ?_)
                  | (refine⟨a8,?_⟩)
                  | (refine⟨⟨by omega,rfl⟩,?_⟩)
                  | (refine⟨⟨by omega,by omega⟩,?_⟩)
                  | (refine⟨by omega,?_⟩)
                  | simp only[go_sem,J,I,O,e5,e6,Q3,G3,aC ai,Xaa]
                  | simp only[go_sem,J,I,O,e5,e6,Q3,aC ai,Xaa])
              all_goals
                refine dX (fun h0 Hm h1 h2=>?_)
                obtain⟨a1,a2,a3⟩:=aaZ hr GU Gn au A h0 h1 h2
                refine al _ _ ⟨by simp only[go_sem,J],by simp only[go_sem,I],by simp only[go_sem,O],by simp only[go_sem,e6],ac,?_,?_,a3⟩
                . exact a1.trans (congrArg some (Lw (by rw[hn];rfl)))
                . exact a2.trans (congrArg some (by simp[eR]))
            . rintro ρ H3 ⟨J,I,O,e6,jB,B3,Bn,BU⟩
              have a0:=BU j _ R' aw
              have bb:=BU i6 _ ag A.symm
              have a5:∀i d,H2 i=some (eR d)->H3 i=some (eR d):=fun i d T=>BU i _ T (kP T A3 (by simp))
              have bi:=a5 _ _ An
              have br:=pT.two hD F ae ha hf hy hn ak (bk.keepD a5) bj bn bh bi Bn
              simp only[go_sem,J,I,O,e6,bb]
              refine Fc a0 ⟨rfl,rfl⟩ (by simp) ⟨rfl,rfl,trivial⟩ (by simp[gN]) (by simp[gN];omega) (fun j' ba bq bc=>?_)
              simp only[go_sem,J,I,O]
              have az:∀i r,H3 i=some r->i≠j->∀rw,aI (aI H3 j none) j' (some rw) i=some r:=fun i r T a6 rw=>by
                rw[aD _ _ _ _ (fun e=>by subst e;rw[T]at bc;cases bc),aD _ _ _ _ a6];exact T
              refine hK (l.length-(V++[k]).length) _ _ (by simp;omega) ⟨V++[k],q++[y,n],j',ba,j3,E1.set n (.os jB),rfl,ao,by simp only[go_sem,J],by simp only[go_sem,I],.inr (by simp only[go_sem];simp[gN] <;> omega),by simp at bq |-;omega,?_,az j3 _ B3 aw.symm _,by rw[Xbe];omega,?_⟩
              . rw[aB];simp[qE,hy,hn]
              . rw[<-bu];exact br.keepD fun i d T=>az i _ T (kP T a0 (by simp)) _
    . have bm : q = [] := by
        cases q with
        | nil=>rfl
        | cons k q=>simp at bt
      subst bm
      have am:=hB.full.2 be
      simp only[go_sem,J,I,O]
      refine .row _ _ _ R3 (KS ax hD.len fun k d hd=>?_)
      refine hF k ?_ d hd
      have:=DB (by simpa using hB.nd) (by simpa using hB.lt) am k (by have:=(List.getElem?_eq_some_iff.1 hd).1;rw[hD.len]at this;exact this)
      simpa using this
  . simp only[go_sem,J,I,O,R,gN,Nat.add_sub_cancel_left]
    refine aA (fun bp=>?_) (fun bt=>?_)
    . cases q with
      | nil=>simp at bp
      | cons k q=>
        have aq:=hB.lt k (by simp)
        obtain⟨a,ha⟩:=aM aq
        have b1:=inB aq
        simp only[Xad]at bd
        have bx:(ab++qE (k::q)).getD ab.length []=[int (k:Nat)]:=by simp[qE]
        simp only[go_sem,J,I,O,R,Xaf,gN,Xad,Nat.add_sub_cancel_left,Nat.add_zero,bx,aC ha,b1]
        refine⟨by omega,by omega,by omega,?_⟩
        have U:=Sup.refl H
        refine aJ fun i6 aa=>?_
        have X:j≠i6:=aR R aa
        have A:j3≠i6:=aR R3 aa
        simp only[go_sem,J,I,O,R,R3]
        refine aN (aB _ _ _) (by simp[gT]) ?_
        have aj:=U.none aa
        generalize Y:aI (aI _ i6 _) i6 _=HGi6
        replace U:=Sup.eq ((U.upd aj _).upd aj _) Y
        replace R:=kpR Y X X R
        replace R3:=kpR Y A A R3
        have R6:HGi6 i6=some (⟨60,10,[bO a]⟩):=by rw[<-Y,aB];try rfl
        clear Y aa
        simp only[go_sem,J,I,O,R6,R,R3]
        refine aA (fun hf=>?_) (fun hf=>?_)
        . simp only[go_sem,J,I,O]
          refine hK (l.length-(V++[k]).length) _ _ (by simp;omega) ⟨V++[k],q,j,(ab++[[int (k:Nat)]]),j3,E,rfl,hB.leafStep ha hf,by simp only[go_sem,J],by simp only[go_sem,I],.inr (by simp only[go_sem];simp <;> omega),by simp <;> omega,by rw[R];simp[qE],R3,ax,by rw[Xar];exact hF.keep U⟩
        . obtain⟨Z,ak⟩:=aM (show k<D.length by rw[hD.len];exact aq)
          obtain⟨x,av,an⟩:=hF.keep U k (by simp) Z ak
          have b2:=inB (show k<E.length by omega)
          have a7:Z.length<=1048576:=by have:=hD.short Z (Xac ak);omega
          obtain⟨y,n,hy,hn⟩:=vJ F ha hf
          obtain⟨a9,ay⟩:=Tq F ha hf
          rw[<-ax]at a9 ay
          have ao:=hB.innerStep ae F ha hf hy hn
          have b3:n≠k:=fun e=>by
            have:=ao.nd
            subst e
            rw[List.nodup_append]at this
            exact this.2.2 n (by simp) n (by simp) rfl
          have bg:y≠k:=fun e=>by
            have:=ao.nd
            subst e
            rw[List.nodup_append]at this
            exact this.2.2 y (by simp) y (by simp) rfl
          have bj:y≠n:=fun e=>Cd ae F ha hf (by rw[hy,hn,e])
          simp only[go_sem,J,I,O]
          refine lL [i6] (.q 0 (.q 1 (.q 2 (.q 3 (.q 4 (.q 8 (.q 9 (.a2 5 (.a2 6 (.a2 7 (.a1 10 (.a1 11 (.a1 12 (.a1 13 .nil)))) 10 (.a1 7 (.a1 11 (.a1 12 (.a1 13 .nil))))) 10 (.a1 6 (.a1 7 (.a1 11 (.a1 12 (.a1 13 .nil)))))) 10 (.a1 5 (.a1 6 (.a1 7 (.a1 11 (.a1 12 (.a1 13 .nil)))))))))))))) (fun M H'=>M 0=.sl (l.map bO)/\M 3=.os j3/\M 4=.oz j (ab.length+1) (ab.length+(q.length+1))/\M 5=int (k:Nat)/\M 6=.op i6 0 0/\∃jA,H' j3=some (xH (E.set y (.os jA)))/\H' jA=some (eR (Z++[a.choice]))/\∀i r,HGi6 i=some r->i≠j3->H' i=some r) (by simp[R6]) (by kernel_rfl) (fun K' al Hp Hr hp hr _ bo=>?_) ?_
          . have P6:=(hp i6 (by simp)).trans R6
            have Q3:=(hr j3 (by simpa using A)).trans R3
            have ap:ConvL Hr [x] [.sl (Z.map aO)]:=xQ.conv (an.keep fun i d T=>(hr i (by simpa using kP T R6 (by simp))).trans T)
            rcases an with rfl|⟨i,rfl,T⟩
            all_goals
              simp only[go_sem,J,I,O,P6]
              repeat' (first
                | refine jN ?_ ?_
                | refine NC.lent ap (Cf Z a7) (CB Z) (fun jn ar=>?_)
                | (refine aX (r := eR Z) (aB _ _ _) ⟨rfl, rfl⟩ ⟨rfl, trivial⟩ (by simp; omega) (fun ac af => ?_)
                   obtain⟨G3,Gn,au,GU⟩:=abV (r2:=⟨58,4,(Z.map aO)++[aO a.choice]⟩) Q3 ar af
                   generalize aI (aI (aI Hr jn _) jn none) ac _=HG at *)
                | (refine bU Zs G3 (by simp;omega) ?_)
                | (refine⟨a9,?_⟩)
                | (refine⟨⟨by omega,rfl⟩,?_⟩)
                | (refine⟨⟨by omega,by omega⟩,?_⟩)
                | (refine⟨by omega,?_⟩)
                | simp only[go_sem,J,I,O,Q3,G3,aC av,Xaa]
                | simp only[go_sem,J,I,O,Q3,aC av,Xaa])
            all_goals
              refine dX (fun h0 Hm h1 h2=>?_)
              obtain⟨a1,a2,a3⟩:=aaZ hr GU Gn au A h0 h1 h2
              refine al _ _ ⟨by simp only[go_sem,J],by simp only[go_sem,I],by simp only[go_sem,O],by simp only[go_sem],by simp only[go_sem],ac,?_,?_,a3⟩
              . exact a1.trans (congrArg some (Lw (by rw[hy];rfl)))
              . exact a2.trans (congrArg some (by simp[eR]))
          . rintro ρ H2 ⟨J,I,O,e5,e6,jA,A3,An,AU⟩
            have R':=AU j _ R aw
            have ag:=AU i6 _ R6 A.symm
            have hU:∀i d,HGi6 i=some (eR d)->H2 i=some (eR d):=fun i d T=>AU i _ T (kP T R3 (by simp))
            have ai:(E.set y (.os jA))[k]?=some x:=by rw[List.getElem?_set_ne bg];exact av
            have ah:=an.keep hU
            have bk:=(hF.keep U).keepD hU
            have a4:(E.set y (AV.os jA)).length=E.length:=Xbe
            have bn:y<E.length:=by omega
            have bh:n<E.length:=by omega
            have a8:0<=a.no/\a.no<((E.set y (AV.os jA)).length:Int):=by rw[a4];exact ay
            have bv:=inB (show k<(E.set y (AV.os jA)).length by omega)
            generalize bu:E.set y (AV.os jA)=E1 at *
            simp only[go_sem,J,I,O,e5,e6]
            refine lL [i6] (.q 0 (.q 1 (.q 2 (.q 3 (.q 4 (.q 8 (.q 9 (.a1 5 (.a1 6 (.a1 7 (.a1 10 (.a1 11 (.a1 12 (.a1 13 (.a1 14 .nil))))))))))))))) (fun M H'=>M 0=.sl (l.map bO)/\M 3=.os j3/\M 4=.oz j (ab.length+1) (ab.length+(q.length+1))/\M 6=.op i6 0 0/\∃jB,H' j3=some (xH (E1.set n (.os jB)))/\H' jB=some (eR (Z++[mQ a.choice]))/\∀i r,H2 i=some r->i≠j3->H' i=some r) (by simp[ag]) (by kernel_rfl) (fun K' al Hp Hr hp hr _ bo=>?_) ?_
            . have P6:=(hp i6 (by simp)).trans ag
              have Q3:=(hr j3 (by simpa using A)).trans A3
              have ap:ConvL Hr [x] [.sl (Z.map aO)]:=xQ.conv (ah.keep fun i d T=>(hr i (by simpa using kP T ag (by simp))).trans T)
              rcases ah with rfl|⟨i,rfl,T⟩
              all_goals
                simp only[go_sem,J,I,O,e5,e6,P6]
                repeat' (first
                  | refine aP (ZG a.choice) ?_
                  | refine NC.lent ap (Cf Z a7) (CB Z) (fun jn ar=>?_)
                  | (refine aX (r := eR Z) (aB _ _ _) ⟨rfl, rfl⟩ ⟨rfl, trivial⟩ (by simp; omega) (fun ac af => ?_)
                     obtain⟨G3,Gn,au,GU⟩:=abV (r2:=⟨58,4,(Z.map aO)++[aO (mQ a.choice)]⟩) Q3 ar af
                     generalize aI (aI (aI Hr jn _) jn none) ac _=HG at *)
                  | (refine bU Zs G3 (by simp;omega) ?_)
                  | (refine⟨a8,?_⟩)
                  | (refine⟨⟨by omega,rfl⟩,?_⟩)
                  | (refine⟨⟨by omega,by omega⟩,?_⟩)
                  | (refine⟨by omega,?_⟩)
                  | simp only[go_sem,J,I,O,e5,e6,Q3,G3,aC ai,Xaa]
                  | simp only[go_sem,J,I,O,e5,e6,Q3,aC ai,Xaa])
              all_goals
                refine dX (fun h0 Hm h1 h2=>?_)
                obtain⟨a1,a2,a3⟩:=aaZ hr GU Gn au A h0 h1 h2
                refine al _ _ ⟨by simp only[go_sem,J],by simp only[go_sem,I],by simp only[go_sem,O],by simp only[go_sem,e6],ac,?_,?_,a3⟩
                . exact a1.trans (congrArg some (Lw (by rw[hn];rfl)))
                . exact a2.trans (congrArg some (by simp[eR]))
            . rintro ρ H3 ⟨J,I,O,e6,jB,B3,Bn,BU⟩
              have a0:=BU j _ R' aw
              have bb:=BU i6 _ ag A.symm
              have a5:∀i d,H2 i=some (eR d)->H3 i=some (eR d):=fun i d T=>BU i _ T (kP T A3 (by simp))
              have bi:=a5 _ _ An
              have br:=pT.two hD F ae ha hf hy hn ak (bk.keepD a5) bj bn bh bi Bn
              simp only[go_sem,J,I,O,e6,bb]
              refine Fc a0 ⟨rfl,rfl⟩ (by simp) ⟨rfl,rfl,trivial⟩ (by simp[gN]) (by simp[gN];omega) (fun j' ba bq bc=>?_)
              simp only[go_sem,J,I,O]
              have az:∀i r,H3 i=some r->i≠j->∀rw,aI (aI H3 j none) j' (some rw) i=some r:=fun i r T a6 rw=>by
                rw[aD _ _ _ _ (fun e=>by subst e;rw[T]at bc;cases bc),aD _ _ _ _ a6];exact T
              refine hK (l.length-(V++[k]).length) _ _ (by simp;omega) ⟨V++[k],q++[y,n],j',ba,j3,E1.set n (.os jB),rfl,ao,by simp only[go_sem,J],by simp only[go_sem,I],.inr (by simp only[go_sem];simp[gN] <;> omega),by simp at bq |-;omega,?_,az j3 _ B3 aw.symm _,by rw[Xbe];omega,?_⟩
              . rw[aB];simp[qE,hy,hn]
              . rw[<-bu];exact br.keepD fun i d T=>az i _ T (kP T a0 (by simp)) _
    . have bm : q = [] := by
        cases q with
        | nil=>rfl
        | cons k q=>simp at bt
      subst bm
      have am:=hB.full.2 be
      simp only[go_sem,J,I,O]
      refine .row _ _ _ R3 (KS ax hD.len fun k d hd=>?_)
      refine hF k ?_ d hd
      have:=DB (by simpa using hB.nd) (by simpa using hB.lt) am k (by have:=(List.getElem?_eq_some_iff.1 hd).1;rw[hD.len]at this;exact this)
      simpa using this
def E9{l:List TNode}(A:pV l=true)(E:nV TNode.leaf TNode.yes TNode.no l=true):∀(m:Nat) (V q:List Nat),l.length-V.length<=m->BIn l V q->∃M,BIn l M []
 | m,V,[],_,h=>⟨V,h⟩
 | 0,V,k::q,hm,h=>by have:=h.len;simp at this;omega
 | m+1,V,k::q,hm,h=>by
  have O:=h.lt k (by simp);obtain⟨a,F⟩:=aM O;cases I:a.leaf with
  | true=>exact E9 A E m _ _ (by simp;omega) (h.leafStep F I)
  | false=>obtain⟨y,n,J,T⟩:=vJ A F I;exact E9 A E m _ _ (by simp;omega) (h.innerStep E A F I J T)
def WB{l:List TNode}(h:qG l):∃D,PathsOf l D:=by
 obtain⟨M,aa,X,hc,F⟩:=h;have O:l≠[]:=by rintro rfl;simp at M
 obtain⟨V,Y⟩:=E9 X hc _ [] [0] (Xag _) (BInv.start O);have hw:∀k,k<l.length->∃d,EL l k d/\d.length<l.length:=fun k T=>by obtain⟨d,E⟩:=F k T;exact Y.short E
 have:∀n,n<=l.length->∃D:List (List Decision),D.length=n/\∀k d,D[k]?=some d->EL l k d/\d.length<l.length:=by
  intro n;induction n with
  | zero=>exact fun _=>⟨[],rfl,fun k d h=>by simp at h⟩
  | succ n ih=>
   intro hn;obtain⟨D,U,E⟩:=ih (by omega);obtain⟨d,I,J⟩:=hw n (by omega);refine⟨D++[d],by simp[U],fun k e A=>?_⟩;rw[List.getElem?_append]at A;split at A
   ·exact E k e A
   ·rename_i Z;rw[List.getElem?_singleton]at A;split at A
    ·injection A with A;subst A;have:k=n:=by omega
     subst this;exact⟨I,J⟩
    ·cases A
 obtain⟨D,U,E⟩:=this l.length (Xag _);exact⟨D,U,fun k d h=>(E k d h).1,fun d h=>by obtain⟨k,T⟩:=List.getElem?_of_mem h;exact(E k d T).2⟩
def eD:List TNode->List (List Decision)->List (List Decision)
 | a::l,d::D=>if a.leaf=true then d::eD l D else eD l D
 | _,_=>[]
def JW{l:List TNode}{D:List (List Decision)}:∀{k:Nat} {a:TNode} {d:List Decision},l[k]?=some a->D[k]?=some d->eD (l.take (k+1)) (D.take (k+1))=eD (l.take k) (D.take k)++(if a.leaf=true then[d]else[]):=by
 intro k;induction k generalizing l D with
 | zero=>intro a d E A;cases l <;> cases D <;> simp at E A;subst E;subst A;simp[eD]
 | succ k ih=>
  intro a d E A;cases l with
  | nil=>simp at E
  | cons b l=>
   cases D with
   | nil=>simp at A
   | cons e D=>
    simp at E A;have:=ih E A;simp only[List.take_succ_cons,eD];split
    ·rw[this];rfl
    ·exact this
def yG:∀(l:List TNode) (D:List (List Decision)),(eD l D).length<=l.length
 | [],_=>by simp[eD]
 | _::_,[]=>by simp[eD]
 | a::l,d::D=>by have:=yG l D;unfold eD;split <;> simp <;> omega
abbrev Kg(L:List (List Decision)):Row:=⟨51,1,L.map yM⟩
def KU(p:Proof)(b:Bool)(hb:b=true↔qG p.nodes)(D:List (List Decision))(hD:b=true->PathsOf p.nodes D)(hl:p.nodes.length<=1048576):
  PC prog 12 [.agg (dI p)] (.tup [.sl ((if b=true then eD p.nodes D else[]).map yM),int (if b=true then 0 else 29)]):=by
 refine pcb (fun t=>t == 4) func12 rfl rfl ?_;simp only[go_sem];refine aP (Zv p.nodes b hb hl) ?_;simp only[go_sem];cases b with
 | false=>refine aA (fun h=>?_) (fun h=>by cases h);simp only[go_sem];exact .refl _
 | true=>
  have ht:=hb.1 rfl;have J:=hD rfl;refine aA (fun h=>by cases h) (fun h=>?_);refine eQ fun j Z Y (R:Z j=some (Kg [])) N=>?_
  clear N Y;simp only[go_sem,R];refine aP (Uj p.nodes D ht J) ?_;simp only[go_sem];refine⟨fun ρ H=>∃(k:Nat) (j:Nat),k<=p.nodes.length/\ρ 1=.rp (dI p) 0/\ρ 13=.sl (D.map yM)/\ρ 14=int (p.nodes.length:Nat)/\ρ 15=int k/\ρ 4=.os j/\H j=some (Kg (eD (p.nodes.take k) (D.take k))),fun ρ _=>p.nodes.length-aT (ρ 15),⟨0,j,Xab _,by simp only[go_sem,J.len],by simp only[go_sem,J.len],by simp only[go_sem,Xaa,J.len],(by simp only[go_sem,J.len];rfl),by simp only[go_sem],R⟩,?_⟩;rintro ρ H ⟨k,j,hk,M,I,E,F,T,R⟩;simp only[go_sem,M,I,E,F,T];refine aA (fun A=>?_) (fun O=>?_)
  ·have A:=ltB (by simpa using A);obtain⟨a,ha⟩:=aM A;obtain⟨d,hd⟩:=aM (show k<D.length by rw[J.len];exact A);have b1:=inB A;have b2:=inB (show k<D.length by rw[J.len];exact A);have U:=JW ha hd;have X:=yG (p.nodes.take k) (D.take k);rw[Xal]at X;generalize ac:eD (p.nodes.take k) (D.take k)=PL at *;simp only[go_sem,M,I,E,F,T,aC ha,aC hd,b1,b2,Xaa];have aa:yM d=[.sl (d.map aO)]:=rfl;rw[aa];simp only[go_sem,M,I,E,F,T,aC ha,b1];refine aA (fun hf=>?_) (fun hf=>?_)
   ·rw[if_pos hf]at U;simp only[go_sem,M,I,E,F,T];refine aX R ⟨rfl,rfl⟩ ⟨rfl,trivial⟩ (by simp only[Xaa,Xad,List.length_nil];omega) (fun j' ab=>?_);simp only[go_sem,M,I,E,F,T,aV k];refine⟨⟨k+1,j',A,rfl,rfl,?_⟩,msr A⟩;rw[U,aB];simp[Kg,yM]
   ·rw[if_neg (by rw[hf];simp),Xak]at U;simp only[go_sem,M,I,E,F,T,aV k];refine⟨⟨k+1,j,A,rfl,rfl,?_⟩,msr A⟩;rw[U];exact R
  have O:=geB hk (by simpa using O);subst O;rw[Xae,Xaq (by rw[J.len];exact Xag _)]at R;simp only[go_sem,M,I,E,F,T,if_true];exact .tup _ _ (.cons _ _ _ _ (.row _ _ _ R (ConvE.refl _)) (.cons _ _ _ _ (.refl _) .nil))
end Go.Proofs.YtgncgpcpbadfnaaGreatDoor.Ve
end
