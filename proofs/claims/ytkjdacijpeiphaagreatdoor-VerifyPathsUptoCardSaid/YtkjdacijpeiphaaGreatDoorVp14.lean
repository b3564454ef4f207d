import Derived.Test.YtkjdacijpeiphaaGreatDoorVp12
import Derived.Test.YtkjdacijpeiphaaGreatDoorVp13
set_option linter.unusedSimpArgs false
set_option linter.unusedVariables false
set_option linter.defProp false
set_option maxRecDepth 100000
namespace Go.Proofs.YtkjdacijpeiphaaGreatDoor
open Go.Aw Go.Aw.D Go.Proofs Ty
namespace Rx
open Go.Nu
open Sq (W iD uJ xK By jF gN fM dC NetOk)
structure Clk where
 ready:Int
 since:Int
structure Part where
 place:Int
 memory:Nat
 board:Nat
 visits:Nat
 load:List Int
 clocks:List Clk
 value:ByteArray
structure Wk where
 x:Instance
 kind:Nat
 t:VType
 near:List Int
 dual:Option (List ByteArray)
 most:Nat
section
variable(w:Wk)
end
def U4(c d:Clk):Bool:=c.ready == d.ready&&decide (c.since<=d.since)
def abW(n:Network)(t:VType)(place goal:Int)(s:List Clk×Int)(c:Clk):List Clk×Int:=
 if((iD n t.profile place goal c.ready).2.2 == 0&&decide (W (W (c.since+(iD n t.profile place goal c.ready).1)-c.ready)<=t.drive))=true
 then(s.1++[⟨(iD n t.profile place goal c.ready).1,W (W (c.since+(iD n t.profile place goal c.ready).1)-c.ready)⟩],(iD n t.profile place goal c.ready).2.1)else s
def aaY(t:VType)(c:Clk):Clk:=⟨W (c.ready+t.rest),0⟩
def drv2(n:Network)(t:VType)(place goal:Int)(s:List Clk×Int)(c:Clk):List Clk×Int:=abW n t place goal (abW n t place goal s c) (aaY t c)
def UI(n:Network)(t:VType)(place goal:Int)(l:List Clk):List Clk×Int:=l.foldl (drv2 n t place goal) ([],0)
def kW(s:Stop)(a:Int):Int×Int:=if jL a s.start>s.close then(0,14)else(W (jL a s.start+s.service),0)
def srvC(s:Stop)(out:List Clk)(c:Clk):List Clk:=
 if((kW s c.ready).2 != 0)=true then out
 else if(out.any fun d=>U4 d ⟨(kW s c.ready).1,c.since⟩)=true then out
 else(out.filter fun d=> !U4 ⟨(kW s c.ready).1,c.since⟩ d)++[⟨(kW s c.ready).1,c.since⟩]
def Qe(s:Stop)(l:List Clk):List Clk:=l.foldl (srvC s) []
def memP(near:List Int)(m o:Nat):Nat:=(m &&& (near.getD o 0).toNat) ||| 2^o
def Y5(a:Int)(kind:Nat):Int:=if(a != -1&&a != (kind:Int))=true then 1 else 0
def abQ(a:ByteArray)(n:Int):ByteArray:=(BO a (zed n)).1
def kS(x:Instance)(o:Nat):Order:=x.orders.getD o ⟨ByteArray.empty,[],⟨0,0,0,0⟩,⟨0,0,0,0⟩,0,0,0,0,0,false⟩
def acC(a:ByteArray)(o:Nat):Option (List ByteArray)->ByteArray
 | none=>a
 | some l=>(subR a (l.getD o ByteArray.empty)).1
def Ic(w:Wk)(p:Part)(o:Nat):Part×Bool:=
 if(dC (p.memory:Nat) (o:Nat)||dC (p.board:Nat) (o:Nat))=true then(p,false)
 else({ p with memory:=memP w.near p.memory o,value:=acC (abQ p.value ((Y5 (kS w.x o).now w.kind*16+Y5 (kS w.x o).last w.kind)*65536)) o w.dual },true)
def Z5(b o:Nat):Nat:=b ^^^ (b &&& 2^o)
def Y1(o:Order):Bool:=decide (o.pick.place>=0)&&decide (o.drop.place>=0)
def XN(w:Wk)(p:Part)(o:Nat)(drop:Bool):Part×Bool:=
 if drop=false then
   ({ p with load:=xK p.load (kS w.x o).load,board:=if Y1 (kS w.x o)=true then p.board ||| 2^o else p.board },jF (xK p.load (kS w.x o).load) w.t.cap)
 else if Y1 (kS w.x o)=true then
   if dC (p.board:Nat) (o:Nat)=true then({ p with load:=By p.load (kS w.x o).load,board:=Z5 p.board o },jF (By p.load (kS w.x o).load) w.t.cap)else(p,false)
 else(p,jF p.load w.t.cap)
def goP(w:Wk)(p:Part)(s:Stop):Part×Bool:=
 let d:=UI w.x.net w.t p.place s.place p.clocks
 ({ p with clocks:=Qe s d.1,place:=s.place,visits:=p.visits+1,value:=abQ p.value (W (W (w.t.perMile*d.2)*16777216)) },decide ((Qe s d.1).length>0))
def YW(w:Wk)(p:Part)(v:Visit):Part×Bool:=
 if(decide ((p.visits:Int)>=(w.most:Int))||(kS w.x v.order.toNat).off|| !uJ w.t.skills (kS w.x v.order.toNat).skills)=true then(p,false)
 else
   let s:=if(!v.drop||decide ((kS w.x v.order.toNat).pick.place<0))=true then Ic w p v.order.toNat else(p,true)
   if s.2=true then
     let l:=XN w s.1 v.order.toNat v.drop
     if l.2=true then(if((fM w.x v).2 != 0)=true then(l.1,false)else goP w l.1 (fM w.x v).1)else(l.1,false)
   else(s.1,false)
def abK(close:Int)(out:Int)(c:Clk):Int:=if(decide (c.ready<=close)&&(decide (out<0)||decide (c.ready<out)))=true then c.ready else out
def endP(w:Wk)(p:Part):Int×Int×Bool:=
 if((p.visits:Int) == 0||(p.board:Int) != 0)=true then(0,0,false)
 else
   let d:=UI w.x.net w.t p.place w.t.dst p.clocks
   (d.1.foldl (abK w.t.close) (-1),d.2,decide (d.1.foldl (abK w.t.close) (-1)>=0))
end Rx
namespace Rx
open Go.Nu
open Sq (W iD uJ xK By jF gN fM dC NetOk)
open Nu (wD yD ltB geB)
end Rx
namespace Rx
open Go.Proofs.Tryz
open Go.Nu
open Sq (W iD uJ xK By jF gN fM dC NetOk oE nF lD mX)
open Mv (bP cK aR)
open Nu (wD yD ltB geB)
def TH(s:Stop)(a:Int):PC prog 194 [.agg (dQ s),int a] (.tup [int (kW s a).1,int (kW s a).2]):=by
 refine pcd func194 rfl rfl ?_;simp only[go_sem];refine aP (Sq.Pe s a) ?_;unfold kW;by_cases h:jL a s.start>s.close
 ·simp only[if_pos h];simp only[go_sem];refine aA (fun A=>?_) (fun A=>?_)
  ·simp only[go_sem];exact .refl _
  ·simp at A
 ·simp only[if_neg h];simp only[go_sem];refine aA (fun A=>?_) (fun A=>?_)
  ·simp at A
  ·simp only[go_sem];exact .refl _
end Rx
namespace Rx
open Go.Nu
open Sq (W iD uJ xK By jF gN fM dC NetOk)
open Nu (wD yD ltB geB)
def KE(n:Int): -9223372036854775808<=IntKind.i64.wrap n/\IntKind.i64.wrap n<=9223372036854775807:=by have e:IntKind.i64.wrap n=Go.RowKit.wrap64 n:=IntWalk.i64_left n;rw[e];unfold Go.RowKit.wrap64;omega
abbrev wW(s:Stop):Row:=⟨56,4,[dQ s]⟩
end Rx
namespace Rx
open Go.Nu
open Sq (W iD uJ xK By jF gN fM dC NetOk)
open Nu (wD yD ltB geB pH)
open Mv (bP cK aR)
def abA(w:Wk)(p:Part)(n:Int):Int:=if(endP w p).2.2=true then W (n+1)else n
def countP(w:Wk)(vs:List Visit):Nat->Part->Int->Int
 | 0,p,n=>abA w p n
 | f+1,p,n=>vs.foldl (fun n v=>if n>8192 then n else if(YW w p v).2=true then countP w vs f (YW w p v).1 n else n) (abA w p n)
end Rx
namespace Rx
open Go.Nu
open Sq (W iD uJ xK By jF gN fM dC NetOk oE nF lD mX)
open Nu (wD yD ltB geB pH pS)
open Mv (bP cK aR)
section
variable{H:aG}{w:Wk}{jw jk jm jf:Nat}{known more fresh:List Part}
end
end Rx
namespace Rx
open Go.Nu Go.So
open Nu (ltB geB)
abbrev fG(l:List Int):Row:=⟨3,1,l.map aQ⟩
def Dw(x:Int):(aQ x).length=1:=(rfl)
abbrev TB:=Int×Nat
def fs(L:List TB):List Int:=L.map Prod.fst
section
variable{gf:Nat}{cx:AV}{jc:Nat}{rc:Row}{cap':List AV}{lt:Int->Int->Bool}{ok:Int->Prop}
end
end Rx
namespace Rx
open Go.Nu Go.So
open Sq (W gN fM dC NetOk oE nF lD mX)
open Nu (ltB geB Ba)
open Mv (bP cK aR)
end Rx
namespace Rx
open Go.Nu Go.So
open Sq (W gN fM dC NetOk)
open Nu (ltB geB)
open Mv (bP cK aR)
def Xe(s i:Nat):Bool:=s/2^i%2 == 1
def Jb(o:Order):List Int:=(if decide (o.pick.place>=0)=true then[o.pick.place]else[])++(if decide (o.drop.place>=0)=true then[o.drop.place]else[])
def eJ(near:List Int)(m o:Nat)(s i:Nat):Nat:=if(i == o||(Xe m i&&Xe (near.getD o 0).toNat i))=true then s+2^i else s
def d32A(p q:Int)(out:Int)(w:Arc):Int:=if((w.src == p&&w.dst == q)||(w.src == q&&w.dst == p))=true then WL out w.miles else out
def d32Q(arcs:List Arc)(p:Int)(out q:Int):Int:=arcs.foldl (d32A p q) (if(p == q)=true then 0 else out)
def d32P(arcs:List Arc)(Q:List Int)(out p:Int):Int:=Q.foldl (d32Q arcs p) out
def Tt(x:Instance)(a b:Nat):Int:=(Jb (kS x a)).foldl (d32P x.net.arcs (Jb (kS x b))) 10001
def Ap(x:Instance)(a set:Nat)(best:Int)(b:Nat):Int:=if(!Xe set b&&(decide (best<0)||decide (Tt x a b<Tt x a best.toNat)))=true then(b:Int)else best
end Rx
namespace Rx
open Go.Nu Go.So
open Sq (W gN fM dC NetOk iD)
open Nu (ltB geB)
open Mv (bP cK aR)
structure Mom where
 time:Int
 driven:Int
structure RP where
 place:Int
 visits:Nat
 miles:Int
 moms:List Mom
 memory:Nat
 board:Nat
 load:List Int
 moved:Int
 other:Int
 dual:ByteArray
structure Rs where
 x:Instance
 t:VType
 kind:Nat
 near:List Int
 dual:List ByteArray
 most:Nat
 count:Int
 limited:Bool
 found:Bool
 least:ByteArray
section
variable(p:RP)
end
section
variable(w:Rs)
end
def arrM(n:Network)(t:VType)(place goal close:Int)(s:List Mom×Int)(m:Mom):List Mom×Int:=
 (if(((iD n t.profile place goal m.time).2.2 == 0&&decide ((iD n t.profile place goal m.time).1<=close))&&decide (W (W (m.driven+(iD n t.profile place goal m.time).1)-m.time)<=t.drive))=true
  then s.1++[⟨(iD n t.profile place goal m.time).1,W (W (m.driven+(iD n t.profile place goal m.time).1)-m.time)⟩]else s.1,(iD n t.profile place goal m.time).2.1)
def EY(n:Network)(t:VType)(place goal close:Int)(l:List Mom):List Mom×Int:=l.foldl (arrM n t place goal close) ([],0)
end Rx
end Go.Proofs.YtkjdacijpeiphaaGreatDoor
section
namespace Go.Aw
open Go.RowKit
section
variable{P:Program}{f:FuncId}{args:List AV}{H H1:aG}{K:AV->aG->Prop}{r:AV}
def MC(P:Program)(f:FuncId)(args:List AV)(H H1:aG)(r:AV):Prop:=∀K:AV->aG->Prop,K r H1->aX P f args H K
def MC.use(h:MC P f args H H1 r)(A:K r H1):aX P f args H K:=h K A
def aX.dataM(Y:∀k,H k=none->H1 k=none)(h:aX P f args H (IE H1 r))(M:K r H1):aX P f args H K:=by
 intro S w vals J ha;refine(h S w vals J ha).mono fun e w' ⟨v,x,H',S',O,⟨U,l,Z,hc⟩,E,hv,X,hn⟩=>?_
 obtain⟨h1,T,I⟩:=E.frz l;refine⟨v,r,H1,S'.froze _,O,M,h1.drop (fun k row F=>?_),hc.rep I hv,X.trans T,fun k _ h0=>Y k h0⟩;have A:¬k∈l:=fun A=>by rw[Z k A]at F;cases F
 show(if k∈l then none else H' k)=some row;rw[if_neg A];exact U k row F
def MC.body{fn:Func}{c:Code}(mt:Nat->Bool)(F:∀k,H k=none->H1 k=none)(A:P.follows .mixedOrders=true)(J:P.funcs[f]?=some fn)(I:fn.body=some c)(E:vL fn c args.length=true)
 (h:awp P (aX P) (cQ P) mt c (EC P fn.results.toList (IE H1 r)) (Bx args) H):MC P f args H H1 r:=fun K M=>aX.dataM F (aX.body mt A J I E h) M
def Lk{H:aG}{j:Nat}{a:Row}(h:H j=some a):aI H j (some a)=H:=funext fun k=>by
 by_cases e:k=j
 ·subst e;rw[aB,h]
 ·rw[aD _ _ _ _ e]
def S5(H:aG)(j:Nat)(a b:Option Row):aI (aI H j a) j b=aI H j b:=funext fun k=>by
 by_cases e:k=j
 ·subst e;rw[aB,aB]
 ·rw[aD _ _ _ _ e,aD _ _ _ _ e,aD _ _ _ _ e]
def Sup.set{H H':aG}(h:Sup H H')(j:Nat)(a:Option Row):Sup (aI H j a) (aI H' j a):=fun k row A=>by
 by_cases e:k=j
 ·subst e;rw[aB]at A |-;exact A
 ·rw[aD _ _ _ _ e]at A |-;exact h k row A
def Sup.set2{H H':aG}{j:Nat}{b:Option Row}(h:Sup (aI H j b) H')(a:Option Row):Sup (aI H j a) (aI H' j a):=by
 have:=Sup.set h j a
 rwa [S5]at this
def Ow{H:aG}{j:Nat}{a:Option Row}{b:Row}(h:H j=some b):∀k,H k=none->aI H j a k=none:=fun k A=>by
 by_cases e:k=j
 ·subst e;rw[h]at A;cases A
 ·rw[aD _ _ _ _ e,A]
def jS{P:Program}{C:jI}{PC:FuncId->List AV->aG->AV->Prop}{mt:Nat->Bool}{ops:List Oper}{K:Env->aG->Prop}{m:Nat}{ρ:Env}{H:aG}(l:List Nat)(t:Mx)(J:Env->aG->Prop)(F:∀k,k∈l->(H k).isSome=true)(M:Eh ops.toArray t=true)
 (h:∀K':Env->aG->Prop,(∀A H',J A H'->K' A H')->∀Hp E:aG,(∀k,k∈l->Hp k=H k)->(∀k,k∉l->E k=H k)->(∀k,k∉l->Hp k=none)->(∀k,k∈l->E k=none)->jJ P C PC mt ops.toArray (mI l H K') Hp t ρ E)
 (I:∀A H',J A H'->K A H'):qF P C PC mt ops.toArray K m ρ H:=xE l t F M (h K I)
end
end Go.Aw
namespace Go.Proofs.YtkjdacijpeiphaaGreatDoor.Rx
open Go.Aw Go.Aw.D Go.Proofs Ty Go.Nu Go.So
open Sq (W gN fM dC NetOk iD)
open Nu (ltB geB)
open Mv (bP cK aR)
def xJ(s:Rs)(v:ByteArray):Rs:=
 if(!s.found||decide (Kl v s.least<0))=true then { s with count:=W (s.count+1),found:=true,least:=v }else { s with count:=W (s.count+1) }
end Go.Proofs.YtkjdacijpeiphaaGreatDoor.Rx
end
namespace Go.Proofs.YtkjdacijpeiphaaGreatDoor
namespace Sq
open Go.Proofs.Tryz
open Go.Aw Go.Aw.D Go.Proofs Ty
open Go.Proofs.YtkjdacijpeiphaaGreatDoor.Nu (ltB geB)
open Mv (bP cK aR)
def Ak(M:List Nat)(q:Pair):List Nat:=
 if(((decide (q.a<0)||decide (q.b<0))||decide (q.a>=(M.length:Int)))||decide (q.b>=(M.length:Int)))=true then M
 else M.set q.b.toNat (M.getD q.b.toNat 0 ||| M.getD q.a.toNat 0 ||| 2^q.a.toNat)
def yI(l:List Pair)(M:List Nat):List Nat:=l.foldl Ak M
def Rf(l:List Pair):Nat->List Nat->List Nat
 | 0,M=>M
 | f+1,M=>if yI l M=M then M else Rf l f (yI l M)
def xB(n:Nat)(l:List Pair):List Nat:=Rf l (DT (List.replicate n 0)+1) (List.replicate n 0)
def WG{α:Type}{M:List α}{i:Nat}{u:α}(h:M[i]?=some u):M.set i u=M:=by obtain⟨A,rfl⟩:=List.getElem?_eq_some_iff.1 h;exact List.set_getElem_self A
def ZG{M:List Nat}{i u:Nat}(h:M[i]?=some u):M.getD i 0=u:=by rw[List.getD,h];rfl
def N0(l:List Pair):∀(f:Nat) (M:List Nat),(Rf l f M).length=M.length:=by
 have h1:∀(l:List Pair) (M:List Nat),(l.foldl Ak M).length=M.length:=fun l=>by
  induction l with
  | nil=>exact fun M=>rfl
  | cons q l ih=>exact fun M=>(ih (Ak M q)).trans (by unfold Ak;split <;> simp)
 intro f;induction f with
 | zero=>exact fun M=>rfl
 | succ f ih=>
  intro M;unfold Rf;split
  ·rfl
  ·exact(ih _).trans (h1 l M)
def L2(n:Nat)(l:List Pair):(xB n l).length=n:=(N0 l _ _).trans Xbp
def T1(n:Nat)(l:List Pair)(hn:n<=60)(hl:l.length<=1048576):PC prog 157 [int (n:Nat),.sl (l.map dL)] (.sl ((xB n l).map fun n:Nat=>[int (n:Nat)])):=by
 refine pcd func157 rfl rfl ?_;simp only[go_sem];have ap:jL (n:Int) 0=(n:Nat):=by unfold jL;split <;> omega
 rw[ap];refine⟨by omega,?_⟩;rw[Xaz];generalize hR:xB n l=RR;refine dV fun j am aq (R:am j=some ((⟨3,1,List.replicate n [int 0]⟩:Row))) N=>?_
 clear N aq;simp only[go_sem,R];have R:am j=some (Bp (List.replicate n 0)):=by rw[R,Bp,List.map_replicate];rfl
 refine⟨fun ρ H=>∃(j:Nat) (L:List Nat) (b:Bool),ρ 1=.sl (l.map dL)/\ρ 5=.os j/\ρ 6=boo b/\H j=some (Bp L)/\L.length=n/\(∀a∈L,a<2^62)/\(b=true->∃f,DT L<f/\Rf l f L=RR)/\(b=false->L=RR),fun ρ H=>Yk (ρ 5) (ρ 6) H,⟨j,_,true,by simp only[go_sem],by simp only[go_sem],by simp only[go_sem],R,Xbp,fun a ha=>by rw[List.eq_of_mem_replicate ha];decide,fun _=>⟨_,Nat.lt_succ_self _,hR⟩,fun h=>(by cases h)⟩,?_⟩;clear R;rintro ρ H ⟨j,L,b,O,J,T,R,hL,hB,hT,hF⟩;simp only[go_sem,O,J,T];refine aA (fun hb=>?_) (fun hb=>?_)
 case refine_2=>simp only[go_sem,J];rw[<-hF hb];exact .row _ _ _ R (ConvE.refl _)
 have hb:b=true:=hb;subst hb;obtain⟨f,az,Z⟩:=hT rfl;obtain⟨f,rfl⟩:∃f',f=f'+1:=⟨f-1,by omega⟩;have Z:(if yI l L=L then L else Rf l f (yI l L))=RR:=Z;simp only[go_sem,O,J,T,Xaa];rw[UA R];refine⟨fun ρ H=>∃(k:Nat) (j:Nat) (M:List Nat) (b:Bool),k<=l.length/\ρ 1=.sl (l.map dL)/\ρ 5=.os j/\ρ 6=boo b/\ρ 16=.sl (l.map dL)/\ρ 17=int l.length/\ρ 18=int (k:Nat)/\H j=some (Bp M)/\M.length=n/\(∀a∈M,a<2^62)/\DT M<=DT L/\(b=true->DT M<DT L)/\(b=false->M=L)/\M=(l.take k).foldl Ak L,fun ρ _=>l.length-aU (ρ 18),⟨0,j,L,false,Xab _,by simp only[go_sem,O],by simp only[go_sem,J],by simp only[go_sem],by simp only[go_sem,O],by simp only[go_sem],by simp only[go_sem];rfl,R,hL,hB,Xaf _,(fun h=>(by cases h)),fun _=>rfl,rfl⟩,?_⟩;clear O J T R hB hL hT hF;rintro ρ H ⟨k,j,M,b,hk,O,J,T,E,I,F,R,hL,hB,ao,U,X,aa⟩;simp only[go_sem,O,J,T,E,I,F];refine aA (fun Y=>?_) (fun aj=>?_)
 case refine_2=>
  have aj:=geB hk (by simpa using aj);simp only[go_sem,O,J,T];rw[Xam (by omega)]at aa;refine⟨⟨j,M,b,rfl,rfl,R,hL,hB,fun hb=>⟨f,by have:=U hb;omega,?_⟩,fun hb=>?_⟩,?_⟩
  ·have av:yI l L≠L:=fun e=>by have:=U hb;rw[aa]at this;unfold yI at e;rw[e]at this;omega
   rw[if_neg av]at Z;rw[aa];exact Z
  ·have e2:=X hb;rw[if_pos (show yI l L=L from aa.symm.trans e2)]at Z;exact e2.trans Z
  cases b with
  | true=>rw[UA R];have:=U rfl;omega
  | false=>rw[ZY];omega
 have Y:=ltB (by simpa using Y);obtain⟨q,hq⟩:=aO Y;have b1:=inB Y;have ab:=jT (f:=Ak) (b:=L) hq;rw[<-aa]at ab;simp only[go_sem,O,J,T,E,I,F,aC hq,b1];refine aJ fun i8 ag=>?_
 simp only[go_sem,O,J,T,E,I,F,R];refine bH ag (by simp[jV]) fun ac (R8:ac i8=some (⟨87,2,[dL q]⟩)) N=>?_
 replace R:=N R;obtain⟨al,R⟩:=R;clear N ag;simp only[go_sem,O,J,T,E,I,F,R8,R];refine fW [i8] [(0,true),(1,true),(2,true),(3,true),(4,true),(5,true)] (by simp[R8]) (by kernel_rfl) fun Hp Hr hp hr _ ar=>?_
 have ak:=(hp i8 (by simp)).trans R8;simp only[go_sem,O,J,T,E,I,F,ak];refine⟨by decide,by decide,lI hr ?_⟩;simp only[go_sem,O,J,T,E,I,F,R,Xaa];refine aA (fun hc=>?_) (fun hc=>?_)
 ·simp only[go_sem,O,J,T,E,I,F,aT k];exact⟨⟨k+1,j,M,b,Y,rfl,rfl,rfl,R,hL,hB,ao,U,X,by rw[ab];unfold Ak;rw[if_pos hc]⟩,by simp only[aF];omega⟩
 have ah:Ak M q=M.set q.b.toNat (M.getD q.b.toNat 0 ||| M.getD q.a.toNat 0 ||| 2^q.a.toNat):=by unfold Ak;rw[if_neg (by rw[hc];simp)]
 simp only[Xaj,decide_eq_false_iff_not]at hc;obtain⟨⟨⟨c1,c2⟩,c3⟩,c4⟩:=hc;obtain⟨A,hA⟩:=Int.eq_ofNat_of_zero_le (show 0<=q.a by omega);obtain⟨B,af⟩:=Int.eq_ofNat_of_zero_le (show 0<=q.b by omega);rw[hA]at c3;rw[af]at c4;have ai:A<M.length:=by omega
 have ae:B<M.length:=by omega
 obtain⟨u,hu⟩:=aO ae;obtain⟨w,hw⟩:=aO ai;rw[hA,af,Xaz,Xaz,ZG hu,ZG hw]at ah;rw[ah]at ab;have g1:=aC (f:=fun n:Nat=>[int (n:Nat)]) hu;have g2:=aC (f:=fun n:Nat=>[int (n:Nat)]) hw;have d1:=inB ae;have d2:=inB ai;have bu:=hB u (Xac hu);have bw:=hB w (Xac hw);have b2:2^A<2^62:=Xbt (by decide) (by omega);have o1:u ||| w<2^62:=Nat.or_lt_two_pow bu bw;have o2:u ||| w ||| 2^A<2^62:=Nat.or_lt_two_pow o1 b2;have v1:pU .or .i64 (u:Int) (w:Int)=((u ||| w:Nat):Int):=Dx (by omega) (by omega);have v2:pU .or .i64 ((u ||| w:Nat):Int) ((2^A:Nat):Int)=((u ||| w ||| 2^A:Nat):Int):=Dx (by omega) (by omega);have v3:shV .shl .i64 1 (A:Int)=((2^A:Nat):Int):=ED (by omega);have aj:u<=u ||| w ||| 2^A:=Xag Nat.left_le_or Nat.left_le_or;simp only[go_sem,O,J,T,E,I,F];refine fW [j] [(0,true),(1,true),(2,true),(3,true),(4,true),(5,true),(6,true),(7,true),(8,true),(9,true),(10,true),(11,true),(12,true)] (by simp[R]) (by kernel_rfl) fun Hp Hr hp hr _ ar=>?_
 have au:=(hp j (by simp)).trans R;simp only[go_sem,O,J,T,E,I,F,hA,af,g1,g2,d1,d2,Xaa,v1,v2,v3,au];refine⟨ae,ai,?_⟩;refine lI hr ?_;simp only[go_sem,O,J,T,E,I,F,R,hA,af,g1,d1,Xaa,v1,v2,v3];refine⟨ae,aA (fun hd=>?_) (fun hd=>?_)⟩
 ·have hd : u < u ||| w ||| 2 ^ A := by have:(((u ||| w ||| 2^A:Nat):Int) != (u:Int))=true:=hd;simp only[bne_iff_ne,ne_eq]at this;omega
  simp only[go_sem,O,J,T,E,I,F,R,hA,af,d1,Xaa];generalize ay:u ||| w ||| 2^A=v at *;refine bO so3 R (by rw[Xaa];exact⟨ae,rfl,Xaf 1⟩) ?_;have an:(M.map fun n:Nat=>[int (n:Nat)]).set B (kT ((M.map fun n:Nat=>[int (n:Nat)]).getD B []) 0 [int (v:Nat)])=(M.set B v).map fun n:Nat=>[int (n:Nat)]:=by rw[g1,List.map_set];rfl
  have R3:aI ac j (some (⟨3,1,(M.map fun n:Nat=>[int (n:Nat)]).set B (kT ((M.map fun n:Nat=>[int (n:Nat)]).getD B []) 0 [int (v:Nat)])⟩:Row)) j=some (Bp (M.set B v)):=by rw[aB,an]
  generalize aI ac j _=H3 at R3 |-;have ax:=KO hu hd (Nat.le_of_lt o2);simp only[go_sem,O,J,T,E,I,F,aT k];exact⟨⟨k+1,j,M.set B v,true,Y,rfl,rfl,rfl,R3,by rw[Xaw,hL],fun a ha=>by
   rcases List.mem_or_eq_of_mem_set ha with ha|rfl
   ·exact hB a ha
   ·exact o2,by omega,(fun _=>by omega),(fun h=>by cases h),ab.symm⟩,by simp only[aF];omega⟩
 ·simp only[go_sem,O,J,T,E,I,F,aT k];have aw:u ||| w ||| 2^A=u:=by have:(((u ||| w ||| 2^A:Nat):Int) != (u:Int))=false:=hd;simp only[bne_eq_false_iff_eq]at this;omega
  exact⟨⟨k+1,j,M,b,Y,rfl,rfl,rfl,R,hL,hB,ao,U,X,by rw[ab,aw,WG hu]⟩,by simp only[aF];omega⟩
def Mm(x:Instance)(i:Int):Bool:=match x.orders[i.toNat]? with|some o=>o.off|none=>false
def D1(x:Instance)(set:Int):Int:=
 if set<0 then 2
 else if((eJ set).any fun a=>decide (a>=(x.orders.length:Int)))=true then 2
 else if((eJ set).any (Mm x))=true then 9
 else if(x.apart.any fun q=>dC set q.a&&dC set q.b)=true then 20
 else if(x.before.any fun q=>dC set q.b&& !dC set q.a)=true then 21
 else if((eJ set).any fun a=>dC (((xB x.orders.length x.before).getD a.toNat 0:Nat):Int) a)=true then 21
 else 0
def Az{α:Type}{p:α->Bool}{l:List α}{k:Nat}{a:α}(h:l[k]?=some a)(A:p a=true):l.any p=true:=Xan.2 ⟨a,Xac h,A⟩
def wH{α:Type}{p:α->Bool}{l:List α}(h:∀a∈l,p a=false):l.any p=false:=Xbb.2 fun a A=>by rw[h a A];simp
def A0(x:Instance)(set:Int)(hx:x.orders.length<=60)(ha:x.apart.length<=1048576)(hb:x.before.length<=1048576):PC prog 118 [.agg (aE x),int set] (int (D1 x set)):=by
 refine pcd func118 rfl rfl ?_;simp only[go_sem];have hP:D1 x set=(if set<0 then 2
  else if((eJ set).any fun a=>decide (a>=(x.orders.length:Int)))=true then 2
  else if((eJ set).any (Mm x))=true then 9
  else if(x.apart.any fun q=>dC set q.a&&dC set q.b)=true then 20
  else if(x.before.any fun q=>dC set q.b&& !dC set q.a)=true then 21
  else if((eJ set).any fun a=>dC (((xB x.orders.length x.before).getD a.toNat 0:Nat):Int) a)=true then 21
  else 0):=rfl
 generalize D1 x set=RP at *;refine aA (fun hc=>?_) (fun hc=>?_)
 ·rw[if_pos (of_decide_eq_true hc)]at hP;simp only[go_sem];rw[hP];exact .refl _
 rw[if_neg (of_decide_eq_false hc)]at hP;simp only[go_sem];refine aP (hY set) ?_;have az:=VV set;have av:=fun a=>@VI set a
 generalize eJ set=S at *;simp only[go_sem,Xaa];refine⟨fun ρ H=>∃(k:Nat),k<=S.length/\ρ 1=int set/\ρ 2=.rp (aE x) 0/\ρ 5=.sl (S.map aQ)/\ρ 21=.sl (S.map aQ)/\ρ 22=int (S.length:Nat)/\ρ 23=int k/\(∀a∈S.take k,a<(x.orders.length:Int)),fun ρ _=>S.length-aU (ρ 23),⟨0,Xab _,by simp only[go_sem],by simp only[go_sem],by simp only[go_sem],by simp only[go_sem],by simp only[go_sem,Xaa],(by simp only[go_sem];rfl),by simp⟩,?_⟩;rintro ρ H ⟨k,hk,I,J,F,ab,ag,af,hz⟩;simp only[go_sem,I,J,F,ab,ag,af];refine aA (fun E=>?_) (fun M=>?_)
 ·have E:=ltB (by simpa using E);obtain⟨a,O⟩:=aO E;have b1:=inB E;simp only[go_sem,I,J,F,ab,ag,af,aC O,b1,Xaa];refine aA (fun hc=>?_) (fun hc=>?_)
  ·rw[if_pos (Az O hc)]at hP;simp only[go_sem];rw[hP];exact .refl _
  ·have hc:¬a>=(x.orders.length:Int):=of_decide_eq_false hc;simp only[go_sem,I,J,F,ab,ag,af,aT k];exact⟨⟨k+1,E,rfl,aR (p:=fun a:Int=>a<(x.orders.length:Int)) O (by omega) hz⟩,by simp only[aF];omega⟩
 have M:=geB hk (by simpa using M);subst M;rw[Xad]at hz;rw[if_neg (by rw[wH fun a ha=>decide_eq_false (by have:=hz a ha;omega)];simp)]at hP;simp only[go_sem,I,J,F,ab,ag,af,Xaa];refine⟨fun ρ H=>∃(k:Nat),k<=S.length/\ρ 1=int set/\ρ 2=.rp (aE x) 0/\ρ 5=.sl (S.map aQ)/\ρ 33=.sl (S.map aQ)/\ρ 34=int (S.length:Nat)/\ρ 35=int k/\(∀a∈S.take k,Mm x a=false),fun ρ _=>S.length-aU (ρ 35),⟨0,Xab _,by simp only[go_sem,I,J,F,ab,ag,af],by simp only[go_sem,I,J,F,ab,ag,af],by simp only[go_sem,I,J,F,ab,ag,af],by simp only[go_sem,I,J,F,ab,ag,af],by simp only[go_sem,Xaa,I,J,F,ab,ag,af],(by simp only[go_sem,I,J,F,ab,ag,af];rfl),by simp⟩,?_⟩;rintro ρ H ⟨k,hk,I,J,F,ac,ah,ae,hy⟩;simp only[go_sem,I,J,F,ac,ah,ae];refine aA (fun E=>?_) (fun M=>?_)
 ·have E:=ltB (by simpa using E);obtain⟨a,O⟩:=aO E;have b1:=inB E;obtain⟨A,rfl⟩:=av a (Xac O);have hA:=hz _ (Xac O);have ai:A<x.orders.length:=by omega
  obtain⟨o,ho⟩:=aO ai;have b2:=inB ai;have ap:Mm x (A:Int)=o.off:=by unfold Mm;rw[Xaz,ho]
  simp only[go_sem,I,J,F,ac,ah,ae,aC O,b1,aC ho,b2];refine aA (fun hc=>?_) (fun hc=>?_)
  ·rw[if_pos (Az (p:=Mm x) O (ap.trans hc))]at hP;simp only[go_sem];rw[hP];exact .refl _
  ·simp only[go_sem,I,J,F,ac,ah,ae,aT k];exact⟨⟨k+1,E,rfl,aR (p:=fun a=>Mm x a=false) O (ap.trans hc) hy⟩,by simp only[aF];omega⟩
 have M:=geB hk (by simpa using M);subst M;rw[Xad]at hy;rw[if_neg (by rw[wH hy];simp)]at hP;simp only[go_sem,I,J,F,ac,ah,ae,Xaa];refine⟨fun ρ H=>∃(k:Nat),k<=x.apart.length/\ρ 1=int set/\ρ 2=.rp (aE x) 0/\ρ 5=.sl (S.map aQ)/\ρ 47=.sl (x.apart.map dL)/\ρ 48=int (x.apart.length:Nat)/\ρ 49=int k/\(∀q∈x.apart.take k,(dC set q.a&&dC set q.b)=false),fun ρ _=>x.apart.length-aU (ρ 49),⟨0,Xab _,by simp only[go_sem,I,J,F,ac,ah,ae],by simp only[go_sem,I,J,F,ac,ah,ae],by simp only[go_sem,I,J,F,ac,ah,ae],by simp only[go_sem,I,J,F,ac,ah,ae],by simp only[go_sem,Xaa,I,J,F,ac,ah,ae],(by simp only[go_sem,I,J,F,ac,ah,ae];rfl),by simp⟩,?_⟩;rintro ρ H ⟨k,hk,I,J,F,T,U,X,hv⟩;simp only[go_sem,I,J,F,T,U,X];refine aA (fun E=>?_) (fun M=>?_)
 ·have E:=ltB (by simpa using E);obtain⟨q,hq⟩:=aO E;have b1:=inB E;simp only[go_sem,I,J,F,T,U,X,aC hq,b1];refine aJ fun i11 aj=>?_
  simp only[go_sem,I,J,F,T,U,X];refine bH aj (by simp[jV]) fun aq (ax:aq i11=some (⟨87,2,[dL q]⟩)) N=>?_
  clear N aj;simp only[go_sem,I,J,F,T,U,X,ax];refine⟨by decide,PC.use (rC set q.a) ?_⟩;simp only[go_sem,I,J,F,T,U,X,ax];refine⟨fun _=>by decide,_,fun _=>(rC set q.b).q rfl,?_⟩;simp only[go_sem,I,J,F,T,U,X];refine aA (fun hc=>?_) (fun hc=>?_)
  ·rw[if_pos (Az (p:=fun q:Pair=>dC set q.a&&dC set q.b) hq hc)]at hP;simp only[go_sem];rw[hP];exact .refl _
  ·simp only[go_sem,I,J,F,T,U,X,aT k];exact⟨⟨k+1,E,rfl,aR (p:=fun q:Pair=>(dC set q.a&&dC set q.b)=false) hq hc hv⟩,by simp only[aF];omega⟩
 have M:=geB hk (by simpa using M);subst M;rw[Xad]at hv;rw[if_neg (by rw[wH hv];simp)]at hP;simp only[go_sem,I,J,F,T,U,X,Xaa];refine⟨fun ρ H=>∃(k:Nat),k<=x.before.length/\ρ 1=int set/\ρ 2=.rp (aE x) 0/\ρ 5=.sl (S.map aQ)/\ρ 65=.sl (x.before.map dL)/\ρ 66=int (x.before.length:Nat)/\ρ 67=int k/\(∀q∈x.before.take k,(dC set q.b&& !dC set q.a)=false),fun ρ _=>x.before.length-aU (ρ 67),⟨0,Xab _,by simp only[go_sem,I,J,F,T,U,X],by simp only[go_sem,I,J,F,T,U,X],by simp only[go_sem,I,J,F,T,U,X],by simp only[go_sem,I,J,F,T,U,X],by simp only[go_sem,Xaa,I,J,F,T,U,X],(by simp only[go_sem,I,J,F,T,U,X];rfl),by simp⟩,?_⟩;rintro ρ H ⟨k,hk,I,J,F,Y,Z,aa,hw⟩;simp only[go_sem,I,J,F,Y,Z,aa];refine aA (fun E=>?_) (fun M=>?_)
 ·have E:=ltB (by simpa using E);obtain⟨q,hq⟩:=aO E;have b1:=inB E;simp only[go_sem,I,J,F,Y,Z,aa,aC hq,b1];refine aJ fun ay ak=>?_
  simp only[go_sem,I,J,F,Y,Z,aa];refine bH ak (by simp[jV]) fun ar (au:ar ay=some (⟨87,2,[dL q]⟩)) N=>?_
  clear N ak;simp only[go_sem,I,J,F,Y,Z,aa,au];refine⟨by decide,PC.use (rC set q.b) ?_⟩;simp only[go_sem,I,J,F,Y,Z,aa,au];refine⟨fun _=>by decide,_,fun _=>(rC set q.a).q rfl,?_⟩;simp only[go_sem,I,J,F,Y,Z,aa];refine aA (fun hc=>?_) (fun hc=>?_)
  ·rw[if_pos (Az (p:=fun q:Pair=>dC set q.b&& !dC set q.a) hq hc)]at hP;simp only[go_sem];rw[hP];exact .refl _
  ·simp only[go_sem,I,J,F,Y,Z,aa,aT k];exact⟨⟨k+1,E,rfl,aR (p:=fun q:Pair=>(dC set q.b&& !dC set q.a)=false) hq hc hw⟩,by simp only[aF];omega⟩
 have M:=geB hk (by simpa using M);subst M;rw[Xad]at hw;rw[if_neg (by rw[wH hw];simp)]at hP;simp only[go_sem,I,J,F,Y,Z,aa,Xaa];have hL:=L2 x.orders.length x.before;refine aP (T1 x.orders.length x.before hx hb) ?_;generalize xB x.orders.length x.before=CH at *;simp only[go_sem,I,J,F,Y,Z,aa,Xaa];refine⟨fun ρ H=>∃(k:Nat),k<=S.length/\ρ 14=.sl (CH.map fun n:Nat=>[int (n:Nat)])/\ρ 89=.sl (S.map aQ)/\ρ 90=int (S.length:Nat)/\ρ 91=int k/\(∀a∈S.take k,dC ((CH.getD a.toNat 0:Nat):Int) a=false),fun ρ _=>S.length-aU (ρ 91),⟨0,Xab _,by simp only[go_sem,I,J,F,Y,Z,aa],by simp only[go_sem,I,J,F,Y,Z,aa],by simp only[go_sem,Xaa,I,J,F,Y,Z,aa],(by simp only[go_sem,I,J,F,Y,Z,aa];rfl),by simp⟩,?_⟩;rintro ρ H ⟨k,hk,an,al,ao,am,hu⟩;simp only[go_sem,an,al,ao,am];refine aA (fun E=>?_) (fun M=>?_)
 ·have E:=ltB (by simpa using E);obtain⟨a,O⟩:=aO E;have b1:=inB E;obtain⟨A,rfl⟩:=av a (Xac O);have hA:=hz _ (Xac O);have ai:A<CH.length:=by omega
  obtain⟨o,ho⟩:=aO ai;have b2:=inB ai;have aw:dC ((CH.getD ((A:Int)).toNat 0:Nat):Int) (A:Int)=dC (o:Nat) (A:Nat):=by rw[Xaz,ZG ho]
  have g1:=aC (f:=fun n:Nat=>[int (n:Nat)]) ho;simp only[go_sem,an,al,ao,am,aC O,b1,g1,b2];refine aP (rC (o:Nat) (A:Nat)) ?_;simp only[go_sem,an,al,ao,am];refine aA (fun hc=>?_) (fun hc=>?_)
  ·rw[if_pos (Az (p:=fun a=>dC ((CH.getD a.toNat 0:Nat):Int) a) O (aw.trans hc))]at hP;simp only[go_sem];rw[hP];exact .refl _
  ·simp only[go_sem,an,al,ao,am,aT k];exact⟨⟨k+1,E,rfl,aR (p:=fun a=>dC ((CH.getD a.toNat 0:Nat):Int) a=false) O (aw.trans hc) hu⟩,by simp only[aF];omega⟩
 have M:=geB hk (by simpa using M);subst M;rw[Xad]at hu;rw[if_neg (by rw[wH hu];simp)]at hP;simp only[go_sem];rw[hP];exact .refl _
end Sq
namespace Nu.Ps
open Go.Aw Go.Aw.D Go.Proofs Ty Go.Nu Go.So
structure Priced where
 column:Column
 reduced:ByteArray
abbrev Io(gf:Nat):AV:=.v (.func (.func gf) #[] #[])
abbrev TB:=Priced×Nat
def fs(L:List TB):List Priced:=L.map Prod.fst
end Nu.Ps
namespace Nu.Ps
open Go.Aw Go.Aw.D Go.Proofs Ty Go.Nu Go.So
section
variable{gf:Nat}{lt:Priced->Priced->Bool}{ok:Priced->Prop}
end
end Nu.Ps
namespace Nu.Ps
open Go.Aw Go.Aw.D Go.Proofs Ty Go.Nu Go.So
section
variable{gf:Nat}{lt:Priced->Priced->Bool}{ok:Priced->Prop}
end
end Nu.Ps
namespace Nu.Ps
open Go.Aw Go.Aw.D Go.Proofs Go.Nu Go.So
end Nu.Ps
namespace Ve
open Go.Proofs.Tryz
open Go.Aw Go.Aw.D Go.Proofs Ty Go.Ve Dec
open Go.Proofs.YtkjdacijpeiphaaGreatDoor.Nu
abbrev PQ(l:List Int):Row:=⟨3,1,l.map aQ⟩
abbrev kJ(l:List TNode):Bool:=iR TNode.leaf TNode.yes TNode.no l
abbrev kI(l:List TNode)(k:Int):Nat:=cnt TNode.leaf TNode.yes TNode.no l k
abbrev wM(a:TNode):List Int:=jK TNode.leaf TNode.yes TNode.no a
abbrev BIn(l:List TNode)(V q:List Nat):Prop:=BInv TNode.leaf TNode.yes TNode.no TNode.choice rN l V q
abbrev Bh(l:List TNode)(k:Nat)(d:List Decision):Prop:=WayT TNode.leaf TNode.yes TNode.no TNode.choice rN l k d
def nV(l:List TNode):Prop:=1<=l.length/\l.length<=1024/\kJ l=true/\kD TNode.leaf TNode.yes TNode.no l=true/\∀k,k<l.length->∃d,Bh l k d
def gG(n:Nat)(l:List TNode):List Int:=(List.range n).map fun i:Nat=>(kI l (i:Int):Int)
def wB(L:List Int)(v:Int):List Int:=L.set v.toNat (L.getD v.toNat 0+1)
def rO(n:Nat)(l:List TNode):(gG n l).length=n:=by simp[gG]
def AM(l:List TNode)(a:TNode)(k:Int):kI (l++[a]) k=kI l k+(wM a).count k:=by unfold kI cnt;rw[List.flatMap_append,List.count_append];simp
def MU{n:Nat}{l:List TNode}{a:TNode}(h:a.leaf=true):gG n (l++[a])=gG n l:=by
 unfold gG;refine List.map_congr_left fun i _=>?_
 rw[AM];simp[jK,h]
def Jx{n:Nat}{l:List TNode}{a:TNode}(h:a.leaf=false)(U:inT n a.yes=true)(T:inT n a.no=true):gG n (l++[a])=wB (wB (gG n l) a.yes) a.no:=by
 simp only[inT,Xap,decide_eq_true_eq]at U T;obtain⟨y,F⟩:=Int.eq_ofNat_of_zero_le U.1;obtain⟨m,A⟩:=Int.eq_ofNat_of_zero_le T.1;unfold wB;rw[F,A];refine List.ext_getElem? fun i=>?_
 have O:(gG n l).length=n:=rO n l;simp only[Xaz];by_cases E:i<n
 ·have M:(gG n (l++[a]))[i]?=some (kI (l++[a]) (i:Int):Int):=by simp[gG,E]
  have J:(gG n l)[i]?=some (kI l (i:Int):Int):=by simp[gG,E]
  have Y:(gG n l)[y]?=some (kI l (y:Int):Int):=by unfold gG;rw[List.getElem?_map,List.getElem?_range (by omega)];rfl
  have X:(gG n l)[m]?=some (kI l (m:Int):Int):=by unfold gG;rw[List.getElem?_map,List.getElem?_range (by omega)];rfl
  rw[M,AM];simp only[jK,h,Xar,if_false,F,A,List.count_cons,List.count_nil,List.getD,List.getElem?_set,Xaw,O];by_cases h1:m=i <;> by_cases I:y=i
  ·subst h1;subst I;simp[J,E];omega
  ·subst h1;simp[J,E,I,show ¬((y:Int)=(m:Int))by omega]
  ·subst I;simp[J,E,h1,show ¬((m:Int)=(y:Int))by omega]
  ·simp[J,h1,I,show ¬((m:Int)=(i:Int))by omega,show ¬((y:Int)=(i:Int))by omega]
 ·have M:(gG n (l++[a]))[i]?=none:=List.getElem?_eq_none (by rw[rO];omega);rw[M,List.getElem?_eq_none];simp only[Xaw,O];omega
def SD{l:List TNode}{k:Nat}{a:TNode}(A:l[k]?=some a)(E:a.leaf=false)(h:inT l.length a.yes=false\/inT l.length a.no=false):¬nV l:=fun F=>by have:=F.2.2.1;unfold kJ iR at this;rw[Xal]at this;have:=this a (Xac A);rcases h with h|h <;> simp[E,h]at this
def Pg{n:Nat}{v:Int}(h:(decide (v<0)||decide (v>=(n:Int)))=true):inT n v=false:=by simp only[Bool.or_eq_true,decide_eq_true_eq]at h;simp only[inT,Bool.and_eq_false_iff,decide_eq_false_iff_not];omega
def Zk{n:Nat}{v:Int}(h:(decide (v<0)||decide (v>=(n:Int)))=false):inT n v=true:=by simp only[Xaj,decide_eq_false_iff_not]at h;simp only[inT,Xap,decide_eq_true_eq];omega
def Oz{l:List TNode}(k:Int):kI l k<=2*l.length:=by
 induction l with
 | nil=>simp[cnt]
 | cons a r ih=>unfold kI cnt at ih |-;rw[List.flatMap_cons,List.count_append,Xae];have:(jK TNode.leaf TNode.yes TNode.no a).count k<=2:=Xag List.count_le_length (by unfold jK;split <;> simp);omega
def okN(l:List TNode)(a:TNode):Bool:=a.leaf||(inT l.length a.yes&&inT l.length a.no)
def Re{H:aG}{j:Nat}(l:List TNode):aI H j (some ⟨3,1,List.replicate l.length [int 0]⟩) j=some (PQ (gG l.length (l.take 0))):=by
 rw[aB];have:gG l.length (l.take 0)=List.replicate l.length 0:=by unfold gG;rw[List.eq_replicate_iff];simp[cnt]
 rw[this];simp[aQ]
def QR(L:List Int)(v:Int):(wB L v).length=L.length:=Xaw
def Rz{L:List Int}{v:Int}{B:Nat}(h:∀u∈L,0<=u/\u<=(B:Nat)):∀u∈wB L v,0<=u/\u<=((B+1:Nat):Int):=fun u A=>by
 unfold wB at A;rcases List.mem_or_eq_of_mem_set A with A|rfl
 ·have:=h u A;omega
 ·by_cases E:v.toNat<L.length
  ·have:=h (L.getD v.toNat 0) (by rw[List.getD,List.getElem?_eq_getElem E];exact List.getElem_mem E);omega
  ·rw[List.getD,List.getElem?_eq_none (by omega)];simp;omega
def F2(n:Nat)(l:List TNode):∀u∈gG n l,0<=u/\u<=((2*l.length:Nat):Int):=fun u A=>by unfold gG at A;obtain⟨i,_,rfl⟩:=Xau.1 A;have:=Oz (l:=l) (i:Int);omega
def G1(e:TypeId×Nat×Nat)(d:Option Tmp)(j a b:Nat)(x:AV)(ρ:Env)(H:aG)(K:Env->aG->Prop):Prop:=match H j with
 | some r => pM H x fun news => (r.e = e.1 /\ r.sz = e.2.1 /\ news ≠ [] /\ cA e.2.1 news /\ b = r.es.length /\ (r.es.length + news.length) * e.2.2 <= 140737488355328) /\
       ∀(k':Nat) (pre:List (List AV)),pre.length<=a->H k'=none->K (upd ρ d (.oz k' pre.length (pre.length+(b-a)+news.length))) (aI (aI H j none) k' (some ⟨e.1,e.2.1,pre++(r.es.drop a++news)⟩))
 | none=>False
def Pz{P:Program}{d:Option Tmp}{t:TypeId}{j a b:Nat}{x:AV}{ρ:Env}{H:aG}{K:Env->aG->Prop}:DZ P d t (.oz j a b) x ρ H K=bD (bN P t) (fun e=>G1 e d j a b x ρ H K):=by
 unfold DZ oC G1;cases bN P t with
 | none=>rfl
 | some e=>obtain⟨a,b,c⟩:=e;rfl
@[congr] theorem wappZ_c {e d j a b x x' ρ H K} (h':x=x'):G1 e d j a b x ρ H K=G1 e d j a b x' ρ H K:=h'▸rfl
def C6{e:TypeId×Nat×Nat}{d:Option Tmp}{j a b:Nat}{news:List (List AV)}{ρ:Env}{H:aG}{K:Env->aG->Prop}{r:Row}(E:H j=some r)
  (h1:r.e=e.1/\r.sz=e.2.1) (h0:news≠[]) (F:cA e.2.1 news) (J:b=r.es.length) (I:(r.es.length+news.length)*e.2.2<=140737488355328)
  (h:∀(j':Nat) (A:List (List AV)),A.length<=a->H j'=none->K (upd ρ d (.oz j' A.length (A.length+(b-a)+news.length))) (aI (aI H j none) j' (some ⟨e.1,e.2.1,A++(r.es.drop a++news)⟩))):G1 e d j a b (.sl news) ρ H K:=by
 unfold G1;simp only[E];exact⟨⟨h1.1,h1.2,h0,F,J,I⟩,h⟩
attribute [go_sem ↓] Pz
attribute [go_sem] Pz
def U7(x:AV)(H:aG):Nat:=match x with
 | .oz _ a b=>b-a
 | .os j=>match H j with
   | some r=>r.es.length
   | none=>0
 | _=>0
def wE{l:List TNode}(A:kJ l=true){k:Nat}{a:TNode}(E:l[k]?=some a)(F:a.leaf=false):∃y n:Nat,a.yes=(y:Int)/\a.no=(n:Int):=by unfold kJ iR at A;rw[Xal]at A;have:=A a (Xac E);simp only[F,Bool.false_or,Xap,inT,decide_eq_true_eq]at this;exact⟨a.yes.toNat,a.no.toNat,by omega,by omega⟩
def qE(q:List Nat):List (List AV):=q.map fun i:Nat=>[int (i:Nat)]
def fP(q:List Nat):(qE q).length=q.length:=by simp[qE]
def Wa(l:List TNode)(b:Bool)(hb:b=true↔nV l)(hl:l.length<=1048576):PC prog 10 [.sl (l.map aY)] (boo b):=by
 refine pcb (fun t=>t == 78) func10 rfl rfl ?_;simp only[go_sem];refine aA (fun h0=>?_) (fun h0=>?_)
 ·simp only[go_sem];have:b=false:=by
   cases b
   ·rfl
   ·have:=hb.1 rfl;have h1:=this.1;have h2:=this.2.1;simp at h0;omega
  subst this;exact .refl _
 have az:1<=l.length:=by simp at h0;omega
 have bd:l.length<=1024:=by simp at h0;omega
 simp only[go_sem];refine⟨by omega,aJ fun j hj=>?_⟩;simp only[go_sem];refine⟨fun ρ H=>∃(k:Nat) (j:Nat),k<=l.length/\ρ 0=.sl (l.map aY)/\ρ 24=.sl (l.map aY)/\ρ 25=int (l.length:Nat)/\ρ 26=int k/\ρ 3=.os j/\H j=some (PQ (gG l.length (l.take k)))/\(∀a∈l.take k,okN l a=true),fun ρ _=>l.length-aU (ρ 26),⟨0,j,Xab _,by simp only[go_sem],by simp only[go_sem],by simp only[go_sem,Xaa],(by simp only[go_sem];rfl),by simp only[go_sem],Re l,by simp⟩,?_⟩;rintro ρ H ⟨k,j,hk,A,E,F,I,X,R,hz⟩;simp only[go_sem,A,E,F,I,X];refine aA (fun T=>?_) (fun ag=>?_)
 ·have T:=ltB (by simpa using T);obtain⟨a,ha⟩:=aO T;have b1:=inB T;have hs:=aZ ha;simp only[go_sem,A,E,F,I,X,aC ha,b1];refine aJ fun i5 av=>?_
  simp only[go_sem,A,E,F,I,X,aC ha,b1,R];refine bH av (by simp[fV]) fun a9 (R5:a9 i5=some (⟨35,10,[aY a]⟩)) N=>?_
  replace R:=N R;obtain⟨a5,R⟩:=R;clear N av;simp only[go_sem,A,E,F,I,X,aC ha,b1,R5,R];refine aA (fun hf=>?_) (fun hf=>?_)
  ·simp only[go_sem,A,E,F,I,X,aT k];refine⟨⟨k+1,j,T,rfl,rfl,?_,aR ha (by unfold okN;rw[hf];rfl) hz⟩,msr T⟩;rw[hs,MU hf];exact R
  ·simp only[go_sem,A,E,F,I,X,R5];have aq:=F2 l.length (l.take k);rw[show(l.take k).length=k by rw[Xah];omega]at aq;have bm:=rO l.length (l.take k);have be:inT l.length a.yes=true->inT l.length a.no=true->gG l.length (l.take (k+1))=wB (wB (gG l.length (l.take k)) a.yes) a.no:=fun h1 h2=>by rw[hs];exact Jx hf h1 h2
   generalize gG l.length (l.take k)=C at *;refine⟨fun ρ H=>∃(m:Nat) (L:List Int),m<=2/\ρ 0=.sl (l.map aY)/\ρ 3=.os j/\ρ 24=.sl (l.map aY)/\ρ 25=int l.length/\ρ 26=int k/\ρ 36=.agg [int a.yes,int a.no]/\ρ 37=int m/\H j=some (PQ L)/\L=([a.yes,a.no].take m).foldl wB C/\(∀u∈L,0<=u/\u<=(2*k+m:Nat))/\L.length=l.length/\∀v∈[a.yes,a.no].take m,inT l.length v=true,fun ρ _=>2-aU (ρ 37),⟨0,C,by omega,by simp only[go_sem,A,E,F,I,X],by simp only[go_sem,A,E,F,I,X],by simp only[go_sem,A,E,F,I,X],by simp only[go_sem,A,E,F,I,X],by simp only[go_sem,A,E,F,I,X],by simp only[go_sem,A,E,F,I,X],(by simp only[go_sem,A,E,F,I,X];rfl),R,rfl,aq,bm,by simp⟩,?_⟩;clear A E F I X R R5;rintro ρ H ⟨m,L,hm,A,X,E,F,I,ar,au,R,hL,hB,bh,hv⟩;simp only[go_sem,A,X,E,F,I,ar,au];refine aA (fun bp=>?_) (fun bf=>?_)
   ·have bc:m<2:=by simp at bp;omega
    obtain⟨v,hvm,hvi⟩:∃v,[a.yes,a.no][m]?=some v/\(v=a.yes\/v=a.no):=by
     obtain rfl|rfl:m=0\/m=1:=by omega
     ·exact⟨_,rfl,.inl rfl⟩
     ·exact⟨_,rfl,.inr rfl⟩
    have bj:[int a.yes,int a.no].getD m .any=int v:=by
     obtain rfl|rfl:m=0\/m=1:=by omega
     ·simp at hvm;subst hvm;rfl
     ·simp at hvm;subst hvm;rfl
    have a7:=aZ hvm;simp only[go_sem,A,X,E,F,I,ar,au,Nat.mul_one,bj];refine⟨by omega,by first|omega|(simp;omega),aA (fun an=>?_) (fun an=>?_)⟩
    ·simp only[go_sem];have ao:¬nV l:=SD ha hf (by
      rcases hvi with rfl|rfl
      ·exact .inl (Pg an)
      ·exact .inr (Pg an))
     have:b=false:=by
      cases b
      ·rfl
      ·exact absurd (hb.1 rfl) ao
     subst this;exact .refl _
    ·have bi:=Zk an;simp only[Xaj,decide_eq_false_iff_not]at an;obtain⟨u,hu⟩:=aO (show v.toNat<L.length by omega);have br:=hB u (Xac hu);simp only[go_sem,A,X,E,F,I,ar,au,R,aC hu,Xaa];refine⟨⟨by omega,by omega⟩,by omega,⟨by omega,by omega⟩,?_⟩;refine bO so3 R (by simp;omega) ?_;simp only[go_sem,A,X,E,F,I,ar,au,aT m];rw[bE (by omega)];refine⟨⟨m+1,wB L v,by omega,rfl,?_,?_,Rz (B:=2*k+m) hB,by rw[QR,bh],?_⟩,by simp only[aF];omega⟩
     ·simp[wB,List.getD,hu,List.map_set,aQ]
     ·rw[a7,List.foldl_append,<-hL];rfl
     ·rw[a7];intro w hw;rcases Xas.1 hw with hw|hw
      ·exact hv w hw
      ·rw[Xax.1 hw];exact bi
   ·have bc:m=2:=by simp at bf;omega
    subst bc;have hy:=hv a.yes (by simp);have hn:=hv a.no (by simp);simp only[go_sem,A,X,E,F,I,aT k];refine⟨⟨k+1,j,T,rfl,rfl,?_,aR ha (by unfold okN;rw[hy,hn];simp) hz⟩,msr T⟩;rw[be hy hn,R,hL];rfl
 have ag:=geB hk (by simpa using ag);subst ag;rw[Xad]at R hz;have M:kJ l=true:=by unfold kJ iR;rw[Xal];exact hz
 have aq:=F2 l.length l;have aj:=rO l.length l;have bb:∀i u,(gG l.length l)[i]?=some u->i<l.length/\u=(kI l (i:Int):Int):=fun i u hu=>by
  have hi:i<l.length:=by have:=(List.getElem?_eq_some_iff.1 hu).1;rw[rO]at this;exact this
  unfold gG at hu;rw[List.getElem?_map,List.getElem?_range hi]at hu;injection hu with hu;exact⟨hi,hu.symm⟩
 generalize gG l.length l=C at *;simp only[go_sem,A,E,F,I,X,R];refine⟨fun ρ H=>∃(k:Nat),k<=l.length/\ρ 0=.sl (l.map aY)/\ρ 56=.os j/\ρ 57=int (l.length:Nat)/\ρ 58=int k/\H j=some (PQ C)/\(∀i,i<k->(if i=0 then kI l 0 == 0 else kI l i == 1)=true),fun ρ _=>l.length-aU (ρ 58),⟨0,Xab _,by simp only[go_sem,A,R,aj],by simp only[go_sem,A,R,aj],by simp only[go_sem,Xaa,A,R,aj],(by simp only[go_sem,A,R,aj];rfl),R,(fun i hi=>absurd hi (Nat.not_lt_zero i))⟩,?_⟩;rintro ρ H ⟨k,hk,A,Z,ac,Y,R,hq⟩;simp only[go_sem,A,Z,ac,Y,R];refine aA (fun T=>?_) (fun ag=>?_)
 ·have T:=ltB (by simpa using T);obtain⟨c,hc⟩:=aO (show k<C.length by omega);have b1:=inB (show k<C.length by omega);obtain⟨_,bk⟩:=bb k c hc;have bt:=Oz (l:=l) (k:Int);simp only[go_sem,A,Z,ac,Y,R,aC hc,b1,Xaa];have a6:(if k=0 then kI l 0 == 0 else kI l k == 1)= !((k:Int) == 0&&c != 0||decide ((k:Int)>0)&&c != 1):=by
   subst bk;by_cases h:k=0
   ·subst h;exact Xao.2 (by simp)
   ·rw[if_neg h];exact Xao.2 (by simp[h];omega)
  refine⟨by omega,aA (fun ao=>?_) (fun bo=>?_)⟩
  ·simp only[go_sem];have:b=false:=by
    cases b
    ·rfl
    ·have:=(hb.1 rfl).2.2.2.1;unfold kD at this;rw[Xal]at this;have:=this k (Xba.2 T);rw[a6,ao]at this;cases this
   subst this;exact .refl _
  ·simp only[go_sem,A,Z,ac,Y,aT k];refine⟨⟨k+1,T,rfl,R,fun i hi=>?_⟩,msr T⟩;rcases Xay i k with h|h
   ·exact hq i h
   ·obtain rfl:i=k:=by omega
    rw[a6,bo];rfl
 have ag:=geB hk (by simpa using ag);subst ag;have ah:kD TNode.leaf TNode.yes TNode.no l=true:=by unfold kD;rw[Xal];exact fun i hi=>hq i (Xba.1 hi)
 have bn:l≠[]:=by rintro rfl;simp at az
 clear hq R aq aj bb;simp only[go_sem,A,Z,ac,Y];refine aJ fun i11 a8=>?_
 simp only[go_sem,A,Z,ac,Y];refine⟨fun ρ H=>∃(V q:List Nat) (j:Nat) (aa:List (List AV)),BIn l V q/\ρ 0=.sl (l.map aY)/\ρ 10=int ((V++q).length:Nat)/\((ρ 11=.os j/\aa=[])\/ρ 11=.oz j aa.length (aa.length+q.length))/\aa.length<=V.length/\H j=some ⟨3,1,aa++qE q⟩,fun ρ H=>l.length+U7 (ρ 11) H-aU (ρ 10),⟨[],[0],i11,[],BInv.start bn,by simp only[go_sem,A,Z,ac,Y],(by simp only[go_sem,A,Z,ac,Y];rfl),.inl ⟨by simp only[go_sem,A,Z,ac,Y],rfl⟩,Xab _,aB _ _ _⟩,?_⟩;clear A Z ac Y a8;rintro ρ H ⟨V,q,j,aa,hB,A,O,J,bq,R⟩;have am:=hB.len;rw[Xai]at am;have R0:=R;rcases J with⟨J,rfl⟩|J
 ·rw[Xbo]at R R0;simp only[go_sem,A,O,J,R,fP];refine aA (fun ay=>?_) (fun a0=>?_)
  ·cases q with
   | nil=>simp at ay
   | cons k q=>
    have ak:=hB.lt k (by simp);obtain⟨a,ha⟩:=aO ak;have b1:=inB ak;simp only[Xae]at am;simp only[go_sem,A,O,J,R,qE,Xat,Xae,List.getD_cons_zero,aC ha,b1];refine⟨by omega,by omega,?_⟩;refine aJ fun aw U=>?_
    simp only[go_sem,A,O,J,R];refine bH U (by simp[fV]) fun af (al:af aw=some (⟨35,10,[aY a]⟩)) N=>?_
    replace R:=N R;obtain⟨ai,R⟩:=R;clear N U;simp only[go_sem,A,O,J,al,R];refine⟨by simp[fP] <;> omega,aA (fun hf=>?_) (fun hf=>?_)⟩
    ·have ab:a.leaf=false:=by simpa using hf
     obtain⟨y,n,hy,hn⟩:=wE M ha ab;simp only[go_sem,A,O,J,R,al];refine C6 R ⟨rfl,rfl⟩ (by simp) ⟨rfl,rfl,trivial⟩ (by simp[fP]) (by simp[fP];omega) (fun j' ap a4 bg=>?_);simp only[go_sem,A,O,J];rw[bE (by simp;omega)];refine⟨⟨V++[k],q++[y,n],j',ap,hB.innerStep ah M ha ab hy hn,?_,.inr ?_,?_,?_⟩,?_⟩
     ·simp <;> omega
     ·simp[fP] <;> omega
     ·simp at a4 |-;omega
     ·simp[aB,qE,hy,hn]
     ·simp[U7,aU,R0,fP] <;> omega
    ·have ab:a.leaf=true:=by simpa using hf
     simp only[go_sem,A,O,J];refine⟨⟨V++[k],q,j,[[int (k:Nat)]],hB.leafStep ha ab,?_,.inr ?_,?_,?_⟩,?_⟩
     ·simp <;> omega
     ·simp[fP] <;> omega
     ·simp <;> omega
     ·rw[R];simp[qE]
     ·simp[U7,aU,R0,fP] <;> omega
  ·have ax : q = [] := by
    cases q with
    | nil=>rfl
    | cons k q=>simp at a0
   subst ax;have ae:=hB.full;simp only[go_sem,A,O,J];refine cK ?_;refine Xao.2 (Iff.trans ?_ hb.symm);simp only[beq_iff_eq,Int.ofNat_inj];rw[ae];exact⟨fun h=>⟨az,bd,M,ah,h⟩,fun h=>h.2.2.2.2⟩
 ·simp only[go_sem,A,O,J,R,fP,Nat.add_sub_cancel_left];refine aA (fun ay=>?_) (fun a0=>?_)
  ·cases q with
   | nil=>simp at ay
   | cons k q=>
    have ak:=hB.lt k (by simp);obtain⟨a,ha⟩:=aO ak;have b1:=inB ak;simp only[Xae]at am;have ba:(aa++qE (k::q)).getD aa.length []=[int (k:Nat)]:=by simp[qE]
    simp only[go_sem,A,O,J,R,Xai,fP,Xae,Nat.add_sub_cancel_left,Nat.add_zero,ba,aC ha,b1];refine⟨by omega,by omega,?_⟩;refine aJ fun aw U=>?_
    simp only[go_sem,A,O,J,R];refine bH U (by simp[fV]) fun af (al:af aw=some (⟨35,10,[aY a]⟩)) N=>?_
    replace R:=N R;obtain⟨ai,R⟩:=R;clear N U;simp only[go_sem,A,O,J,al,R];simp only[Nat.add_sub_cancel_left];refine⟨by omega,aA (fun hf=>?_) (fun hf=>?_)⟩
    ·have ab:a.leaf=false:=by simpa using hf
     obtain⟨y,n,hy,hn⟩:=wE M ha ab;simp only[go_sem,A,O,J,R,al];refine C6 R ⟨rfl,rfl⟩ (by simp) ⟨rfl,rfl,trivial⟩ (by simp[fP]) (by simp[fP];omega) (fun j' ap a4 bg=>?_);simp only[go_sem,A,O,J];rw[bE (by simp;omega)];refine⟨⟨V++[k],q++[y,n],j',ap,hB.innerStep ah M ha ab hy hn,?_,.inr ?_,?_,?_⟩,?_⟩
     ·simp <;> omega
     ·simp[fP] <;> omega
     ·simp at a4 |-;omega
     ·simp[aB,qE,hy,hn]
     ·simp[U7,aU,R0,fP] <;> omega
    ·have ab:a.leaf=true:=by simpa using hf
     simp only[go_sem,A,O,J];refine⟨⟨V++[k],q,j,aa++[[int (k:Nat)]],hB.leafStep ha ab,?_,.inr ?_,?_,?_⟩,?_⟩
     ·simp <;> omega
     ·simp[fP] <;> omega
     ·simp <;> omega
     ·rw[R];simp[qE]
     ·simp[U7,aU,R0,fP] <;> omega
  ·have ax : q = [] := by
    cases q with
    | nil=>rfl
    | cons k q=>simp at a0
   subst ax;have ae:=hB.full;simp only[go_sem,A,O,J];refine cK ?_;refine Xao.2 (Iff.trans ?_ hb.symm);simp only[beq_iff_eq,Int.ofNat_inj];rw[ae];exact⟨fun h=>⟨az,bd,M,ah,h⟩,fun h=>h.2.2.2.2⟩
end Ve
end Go.Proofs.YtkjdacijpeiphaaGreatDoor
section
namespace Go.Aw
open Go.RowKit
def Iy(r:Row):Bool:=r.es.flatten.all fun x=>(fv x).isSome
def FB{S I:Sg}{w F:World}:∀(l:List AV) (xs:List Value),(l.all fun x=>(fv x).isSome)=true->aW S w l xs->aW I F l xs
 | [],_,_,h=>h
 | x::r,xs,hf,h=>by simp only[List.all_cons,Bool.and_eq_true]at hf;simp only[aW]at h |-;obtain⟨u,t,rfl,h1,E⟩:=h;obtain⟨v,A⟩:=Option.isSome_iff_exists.1 hf.1;have:=IN A h1;subst this;exact⟨u,t,rfl,ML A h1,FB r t hf.2 E⟩
def NC.lent{P:Program}{f:FuncId}{args args':List AV}{H:aG}{K:AV->aG->Prop}{row:Row}(hc:ConvL H args args')(h:NC P f args' row .os)(hf:Iy row=true)(hK:∀k,H k=none->K (.os k) (aI H k (some row))):aX P f args H K:=by
 intro S w vals E ha
 let S0:Sg:={ S.froze H with fz:=fun k=>k<w.heap.size }
 have ac:(S.froze H).le S0:=⟨fun _ h=>h,Nat.le_refl _,fun _ _=>rfl,fun _ _=>rfl⟩;have an:St S0 w bG:=⟨fun k O=>by
  rcases O with O|⟨j,r,A,T⟩
  ·exact E.fz_lt k (E.ro_fz k O)
  ·exact(E.rows j r A).block_lt T,fun _ h=>h,fun k r O=>by simp[bG]at O,fun k r O=>by simp[bG]at O,fun k k' r r' O=>by simp[bG]at O,(E.tabs.keep (S.le_froze H) (eQ.refl S w)).keep ac (eQ.refl _ w)⟩
 refine(h S0 w vals an (fun _ h=>h) (cZ ac (eQ.refl _ w) _ _ (hc.rep E ha))).mono fun e w' ⟨v,x,H',S',he,⟨k,hx,O⟩,ak,hv,T,hn⟩=>?_
 subst hx;have ao:S.N<=k:=by
  rcases Nat.lt_or_ge k S.N with ai|aj
  ·rw[hn k ai rfl]at O;cases O
  ·exact aj
 have ag:H k=none:=by
  cases hH:H k with
  | none=>rfl
  | some r=>have:=(E.rows k r hH).lt;omega
 have hR:=ak.rows k row O;have al:=hv;simp only[rep]at al;obtain⟨_,rfl,a0,n0,c0,ae⟩:=al;obtain⟨xs,ho,hr,h1⟩:=hR.sl ae
 let S'':Sg:={ S with N:=S'.N,loc:=S'.loc,sz:=S'.sz }
 have Y:S.le S'':=⟨fun _ h=>h,T.le.N,T.le.loc,T.le.sz⟩;have J:∀k,k<w.heap.size->w'.heap[k]?=w.heap[k]?:=T.same;have U:eQ S w w':=fun j A=>J j (E.fz_lt j (E.ro_fz j A))
 have af:∀g,blk (S'.loc k)=some g->w.heap.size<=g:=fun g M=>by
  rcases Nat.lt_or_ge g w.heap.size with ai|aj
  ·exact absurd (T.fz g ai) (ak.free k row O g M)
  ·exact aj
 have F:∀j r,j≠k->aI H k (some row) j=some r->H j=some r:=fun j r A h=>by rwa [aD _ _ _ _ A]at h
 have ab:∀j r,H j=some r->S'.loc j=S.loc j:=fun j r A=>T.le.loc j (E.rows j r A).lt
 refine⟨_,.os k,aI H k (some row),S'',he,hK k ag,⟨E.ro_fz,fun j A=>Nat.lt_of_lt_of_le (E.fz_lt j A) T.size,?_,?_,?_,E.tabs.keep Y U⟩,?_,⟨Y,fun _ h=>h,T.os,T.tape,T.output,T.size,fun j A=>J j (E.fz_lt j A),fun _ h=>.inl h⟩,fun j A h0=>?_⟩
 ·intro j r A;by_cases e:j=k
  ·subst e;rw[aB]at A;injection A with A;subst A;exact⟨hR.lt,hR.sz,hR.pos,hR.len,.inl ⟨xs,ho,FB _ _ hf hr,h1⟩⟩
  ·have I:=F j r e A;exact(E.rows j r I).keep Y U fun g M=>J g ((E.rows j r I).block_lt M)
 ·intro j r A g M;by_cases e:j=k
  ·subst e;intro h2;have:=af g M;have:=E.fz_lt g h2;omega
  ·have I:=F j r e A;have e2:S''.loc j=S.loc j:=ab j r I;rw[e2]at M;exact E.free j r I g M
 ·intro j j' r r' A I am g aa X;by_cases e:j=k
  ·subst e;have Z:=F j' r' (Ne.symm am) I;have e2:S''.loc j'=S.loc j':=ab j' r' Z;rw[e2]at X;have:=af g aa;have:=(E.rows j' r' Z).block_lt X;omega
  ·have ah:=F j r e A;have e1:S''.loc j=S.loc j:=ab j r ah;rw[e1]at aa;by_cases e':j'=k
   ·subst e';have:=af g X;have:=(E.rows j r ah).block_lt aa;omega
   ·have Z:=F j' r' e' I;have e2:S''.loc j'=S.loc j':=ab j' r' Z;rw[e2]at X;exact E.disj j j' r r' ah Z am g aa X
 ·simp only[rep];exact⟨hR.lt,rfl,a0,n0,c0,ae⟩
 ·rw[aD _ _ _ _ (by omega)];exact h0
def xF(p:Nat->Prop)(h:∃m,p m):∃m,p m/\∀A,p A->m<=A:=by
 obtain⟨m,F⟩:=h;induction m using Nat.strongRecOn with
 | ind m ih=>
  by_cases h:∃A,A<m/\p A
  ·obtain⟨A,h1,E⟩:=h;exact ih A h1 E
  ·exact⟨m,F,fun A E=>Nat.le_of_not_lt fun h1=>h ⟨A,h1,E⟩⟩
def OD{W:(Ex->Env->aG->Prop)->Env->aG->Prop}{Q:Ex->Env->aG->Prop}{ρ:Env}{H:aG}(J:Nat->Env->aG->Prop)(m:Nat)(h0:J m ρ H)
  (h:∀m ρ H,J m ρ H->∀K:Env->aG->Prop,(∀I A H',I<m->J I A H'->K A H')->W (Ex.seq K Q) ρ H):KY W Q ρ H:=by
 classical
 let μ:Env->aG->Nat:=fun ρ H=>if h:∃m,J m ρ H then(xF _ h).choose else 0
 have E:∀ρ H m,J m ρ H->J (μ ρ H) ρ H/\μ ρ H<=m:=fun ρ H m X=>by have F:∃m,J m ρ H:=⟨m,X⟩;have e:μ ρ H=(xF _ F).choose:=dif_pos F;rw[e];exact⟨(xF _ F).choose_spec.1,(xF _ F).choose_spec.2 m X⟩
 refine⟨fun ρ H=>∃m,J m ρ H,μ,⟨m,h0⟩,fun A H' ⟨I,M⟩=>?_⟩;exact h _ A H' (E A H' I M).1 _ fun U O Z T Y=>⟨⟨U,Y⟩,Nat.lt_of_le_of_lt (E O Z U Y).2 T⟩
end Go.Aw
end
section
namespace Go.Proofs.YtkjdacijpeiphaaGreatDoor.Ve
open Go.Proofs.Tryz
open Go.Aw Go.Aw.D Go.Proofs Ty Go.Ve Dec
open Go.Proofs.YtkjdacijpeiphaaGreatDoor.Nu
def qG:∀l:List Decision,cA 4 (l.map aM)
 | []=>trivial
 | _::r=>⟨rfl,qG r⟩
abbrev dK(l:List Decision):Row:=⟨33,4,l.map aM⟩
def Ay(l:List Decision)(M:l.length<=1048576):NC prog 19 [.sl (l.map aM)] (dK l) .os:=by
 refine ncb (fun t=>t == 2||t == 5) func19 rfl rfl ?_;simp only[go_sem];refine aJ fun j J=>?_
 have R:=aB bG j (some (dK []));generalize aI bG j _=H at R |-;simp only[go_sem];refine⟨fun I=>?_,?_⟩
 ·refine aA (fun _=>?_) (fun A=>by simp at A);simp only[go_sem];refine aJ fun i F=>?_
  simp only[go_sem];refine⟨i,rfl,?_⟩;rw[aB,List.map_eq_nil_iff.1 I];rfl
 ·refine aA (fun A=>by simp at A) (fun _=>?_);simp only[go_sem];refine aJ fun i F=>?_
  simp only[go_sem];refine bT (aB _ _ _) ⟨rfl,rfl⟩ (qG _) (by simp only[Xaa,List.length_nil];omega) (fun j' E=>?_);simp only[go_sem];refine⟨j',rfl,?_⟩;exact aB _ _ _
structure PathsOf(l:List TNode)(D:List (List Decision)):Prop where
 len:D.length=l.length
 way:∀k d,D[k]?=some d->Bh l k d
 short:∀d∈D,d.length<l.length
def nG(d:List Decision):List AV:=[.sl (d.map aM)]
def Pl{l:List TNode}(A:kJ l=true){k:Nat}{a:TNode}(E:l[k]?=some a)(F:a.leaf=false):(0<=a.yes/\a.yes<(l.length:Int))/\(0<=a.no/\a.no<(l.length:Int)):=by unfold kJ iR at A;rw[Xal]at A;have:=A a (Xac E);simpa only[F,Bool.false_or,Xap,inT,decide_eq_true_eq]using this
def uQ(H:aG)(x:AV)(d:List Decision):Prop:=x=.sl (d.map aM)\/∃i,x=.os i/\H i=some (dK d)
abbrev tF(E:List AV):Row:=⟨59,1,E.map fun x=>[x]⟩
def nQ(D:List (List Decision))(S:List Nat)(H:aG)(E:List AV):Prop:=∀k∈S,∀d,D[k]?=some d->∃x,E[k]?=some x/\uQ H x d
def uQ.keep{H H':aG}{x:AV}{d:List Decision}(h:uQ H x d)(E:∀i d,H i=some (dK d)->H' i=some (dK d)):uQ H' x d:=by
 rcases h with h|⟨i,h1,A⟩
 ·exact .inl h
 ·exact .inr ⟨i,h1,E i d A⟩
def jD{H:aG}{i j:Nat}{d:List Decision}{r:Row}(h:H i=some (dK d))(A:H j=some r)(E:r.e≠33):i≠j:=fun e=>by subst e;rw[h]at A;injection A with A;subst A;exact E rfl
def nQ.keep{D:List (List Decision)}{S:List Nat}{H H':aG}{E:List AV}(h:nQ D S H E)(U:Sup H H'):nQ D S H' E:=fun k J d F=>by obtain⟨x,h1,A⟩:=h k J d F;exact⟨x,h1,A.keep fun i d I=>U i _ I⟩
def nQ.keepD{D:List (List Decision)}{S:List Nat}{H H':aG}{E:List AV}(h:nQ D S H E)(U:∀i d,H i=some (dK d)->H' i=some (dK d)):nQ D S H' E:=fun k I d F=>by obtain⟨x,h1,A⟩:=h k I d F;exact⟨x,h1,A.keep U⟩
def uQ.conv{H:aG}{x:AV}{d:List Decision}(h:uQ H x d):ConvL H [x] [.sl (d.map aM)]:=by
 rcases h with rfl|⟨i,rfl,A⟩
 ·exact ConvL.refl _
 ·exact .cons _ _ _ _ (.row _ _ _ A (ConvE.refl _)) .nil
def HS{E:List AV}{i y:Nat}{x:AV}(h:i=y):({ tF E with es:=(E.map fun x=>[x]).set i (x::List.drop 1 ((E.map fun x=>[x]).getD i [])) }:Row)=tF (E.set y x):=by
 subst h;unfold tF;by_cases A:i<E.length
 ·simp[List.map_set,List.getD,A]
 ·rw[List.set_eq_of_length_le (by simp;omega),List.set_eq_of_length_le (by omega)]
def XV{F:aG}{J E A:Nat}{X M r2:Row}(Z:F J=some X)(O:F E=none)(I:aI F E (some M) A=none):
  aI (aI (aI F E (some M)) E none) A (some r2) J=some X/\aI (aI (aI F E (some M)) E none) A (some r2) A=some r2/\A≠J/\∀i r,F i=some r->aI (aI (aI F E (some M)) E none) A (some r2) i=some r:=by
 have h:∀i r,F i=some r->i≠E/\i≠A:=fun i r T=>by
  have U:i≠E:=fun e=>by subst e;rw[T]at O;cases O
  refine⟨U,fun e=>?_⟩;subst e;rw[aD _ _ _ _ U,T]at I;cases I
 have Y:∀i r,F i=some r->aI (aI (aI F E (some M)) E none) A (some r2) i=some r:=fun i r T=>by obtain⟨U,e2⟩:=h i r T;rw[aD _ _ _ _ e2,aD _ _ _ _ U,aD _ _ _ _ U,T]
 exact⟨Y J X Z,aB _ _ _,(h J X Z).2.symm,Y⟩
def Yb{H Hr M J:aG}{E F A:Nat}{I r2:Row}(hr:∀k,k∉[E]->Hr k=H k)(GU:∀i r,Hr i=some r->M i=some r)(U:M A=some r2)(T:A≠F)(Z:F≠E)
  (h0:∀k,k∈[E]->aI M F (some I) k=none) (h1:∀k,k∈[E]->J k=H k) (O:∀k,k∉[E]->J k=aI M F (some I) k):
  J F=some I/\J A=some r2/\∀i r,H i=some r->i≠F->J i=some r:=by
 have Y:=h0 E (by simp);rw[aD _ _ _ _ Z.symm]at Y;have n7:A≠E:=fun e=>by subst e;rw[Y]at U;cases U
 refine⟨by rw[O F (by simpa using Z),aB],by rw[O A (by simpa using n7),aD _ _ _ _ T,U],fun i r hi X=>?_⟩;by_cases e:i=E
 ·subst e;rw[h1 i (by simp),hi]
 ·rw[O i (by simpa using e),aD _ _ _ _ X];exact GU i r ((hr i (by simpa using e)).trans hi)
def Ab(d:List Decision):Iy (dK d)=true:=by unfold Iy;rw[Xal];intro x A;obtain⟨l,E,A⟩:=List.mem_flatten.1 A;obtain⟨a,_,rfl⟩:=Xau.1 E;unfold aM at A;simp only[List.mem_cons,List.not_mem_nil,or_false]at A;rcases A with rfl|rfl|rfl|rfl <;> rfl
def Hl{H:aG}:∀{E:List AV} {D:List (List Decision)} {n:Nat},E.length=n->D.length=n->(∀(k:Nat) (d:List Decision),D[k]?=some d->∃x,E[k]?=some x/\uQ H x d)->ConvE H (E.map fun x=>[x]) (D.map nG)
 | [],[],_,_,_,_=>.nil
 | [],d::D,_,h1,h2,_=>by subst h1;simp at h2
 | x::E,[],_,h1,h2,_=>by subst h2;simp at h1
 | x::E,d::D,n,h1,h2,h=>by simp at h1 h2;obtain⟨J,A,F⟩:=h 0 d rfl;simp at A;subst A;exact .cons _ _ _ _ (uQ.conv F) (Hl (n:=n-1) (by omega) (by omega) fun k d I=>by simpa using h (k+1) d (by simpa using I))
def nQ.two{l:List TNode}{D:List (List Decision)}(M:PathsOf l D)(hr:kJ l=true)(hc:kD TNode.leaf TNode.yes TNode.no l=true){V q:List Nat}{k y n:Nat}{a:TNode}(ha:l[k]?=some a)(hf:a.leaf=false)(hy:a.yes=(y:Int))(hn:a.no=(n:Int))
  {H:aG} {E:List AV} {A:List Decision} (F:D[k]?=some A) (hF:nQ D (V++k::q) H E) (ab:y≠n) (ac:y<E.length) (X:n<E.length) {I J:Nat} (h1:H I=some (dK (A++[a.choice]))) (h2:H J=some (dK (A++[rN a.choice]))):
  nQ D (V++[k]++(q++[y,n])) H ((E.set y (.os I)).set n (.os J)):=fun m hm d Z=>by
 by_cases T:m=y
 ·subst T;have U:=pP hc hr (M.way m d Z) (.yes (M.way k A F) ha hf hy);subst U;exact⟨.os I,by rw[List.getElem?_set_ne (Ne.symm ab),List.getElem?_set_self ac],.inr ⟨I,rfl,h1⟩⟩
 by_cases Y:m=n
 ·subst Y;have U:=pP hc hr (M.way m d Z) (.no (M.way k A F) ha hf hn);subst U;exact⟨.os J,by rw[List.getElem?_set_self (by rw[Xaw];exact X)],.inr ⟨J,rfl,h2⟩⟩
 ·have O : m ∈ V ++ k :: q := by
   simp only[Xas,List.mem_cons,List.not_mem_nil,or_false]at hm |-;rcases hm with(h|h)|h|h|h
   ·exact .inl h
   ·exact .inr (.inl h)
   ·exact .inr (.inr h)
   ·exact absurd h T
   ·exact absurd h Y
  obtain⟨x,hx,aa⟩:=hF m O d Z;exact⟨x,by rw[List.getElem?_set_ne (fun e=>Y e.symm),List.getElem?_set_ne (fun e=>T e.symm)];exact hx,aa⟩
set_option maxHeartbeats 1000000 in
theorem PH (l:List TNode) (D:List (List Decision)) (ht:nV l) (hD:PathsOf l D):PC prog 11 [.sl (l.map aY)] (.sl (D.map nG)):=by
  obtain⟨b2,b6,F,ac,be⟩:=ht
  have bc:l≠[]:=by rintro rfl;simp at b2
  refine pcb (fun t=>t == 10) func11 rfl rfl ?_
  simp only[go_sem]
  refine⟨by omega,aJ fun j3 b0=>?_⟩
  simp only[go_sem]
  refine aJ fun j4 bv=>?_
  have bf:=bC (aB _ _ _) bv
  simp only[go_sem]
  refine OD (fun m ρ H=>∃(V q:List Nat) (j:Nat) (ab:List (List AV)) (j3:Nat) (E:List AV),m=l.length-V.length/\BIn l V q/\ρ 0=.sl (l.map aY)/\ρ 3=.os j3/\((ρ 4=.os j/\ab=[])\/ρ 4=.oz j ab.length (ab.length+q.length))/\ab.length<=V.length/\H j=some ⟨3,1,ab++qE q⟩/\H j3=some (tF E)/\E.length=l.length/\nQ D (V++q) H E) _ ⟨[],[0],j4,[],j3,List.replicate l.length (.sl []),rfl,BInv.start bc,by simp only[go_sem],by simp only[go_sem],.inl ⟨by simp only[go_sem],rfl⟩,Xab _,aB _ _ _,?_,by simp,?_⟩ ?_
  . rw[aD _ _ _ _ bf,aB];simp[tF]
  . intro k hk d hd
    simp at hk
    subst hk
    have:=JS ac (hD.way 0 d hd)
    subst this
    exact⟨.sl [],by rw[List.getElem?_replicate,if_pos (by omega)],.inl rfl⟩
  clear b0 bv bf
  rintro m ρ H ⟨V,q,j,ab,j3,E,rfl,hB,I,J,M,b4,R,R3,aw,hF⟩ K hK
  have a5:=hB.len
  rw[Xai]at a5
  have ax:j≠j3:=fun e=>by subst e;rw[R]at R3;cases R3
  rcases M with⟨M,rfl⟩|M
  . rw[Xbo]at R
    simp only[go_sem,I,J,M,R,fP]
    refine aA (fun bp=>?_) (fun br=>?_)
    . cases q with
      | nil=>simp at bp
      | cons k q=>
        have ak:=hB.lt k (by simp)
        obtain⟨a,ha⟩:=aO ak
        have b1:=inB ak
        simp only[Xae]at a5
        simp only[go_sem,I,J,M,R,qE,Xat,Xae,List.getD_cons_zero,aC ha,b1]
        refine⟨by omega,by omega,by omega,?_⟩
        generalize b5:[int (k:Nat)]::List.map (fun i:Nat=>[int (i:Nat)]) q=qr at *
        have U:=Sup.refl H
        refine aJ fun i6 aa=>?_
        have Y:j≠i6:=bC R aa
        have A:j3≠i6:=bC R3 aa
        simp only[go_sem,I,J,M,R,R3]
        refine aN (aB _ _ _) (by simp[fV]) ?_
        have aj:=U.none aa
        generalize X:aI (aI _ i6 _) i6 _=HGi6
        replace U:=Sup.eq ((U.upd aj _).upd aj _) X
        replace R:=kpR X Y Y R
        replace R3:=kpR X A A R3
        have R6:HGi6 i6=some (⟨35,10,[aY a]⟩):=by rw[<-X,aB];try rfl
        clear X aa
        simp only[go_sem,I,J,M,R6,R,R3]
        refine aA (fun hf=>?_) (fun hf=>?_)
        . simp only[go_sem,I,J,M]
          refine hK (l.length-(V++[k]).length) _ _ (by simp;omega) ⟨V++[k],q,j,[[int (k:Nat)]],j3,E,rfl,hB.leafStep ha hf,by simp only[go_sem,I],by simp only[go_sem,J],.inr (by simp only[go_sem];simp <;> omega),by simp <;> omega,by rw[R];simp[qE],R3,aw,by rw[Xbd];exact hF.keep U⟩
        . obtain⟨Z,au⟩:=aO (show k<D.length by rw[hD.len];exact ak)
          obtain⟨x,ao,aq⟩:=hF.keep U k (by simp) Z au
          have b3:=inB (show k<E.length by omega)
          have bd:Z.length<=1048576:=by have:=hD.short Z (Xac au);omega
          obtain⟨y,n,hy,hn⟩:=wE F ha hf
          obtain⟨a9,a7⟩:=Pl F ha hf
          rw[<-aw]at a9 a7
          have am:=hB.innerStep ac F ha hf hy hn
          have bz:n≠k:=fun e=>by
            have:=am.nd
            subst e
            rw[List.nodup_append]at this
            exact this.2.2 n (by simp) n (by simp) rfl
          have bg:y≠k:=fun e=>by
            have:=am.nd
            subst e
            rw[List.nodup_append]at this
            exact this.2.2 y (by simp) y (by simp) rfl
          have bt:y≠n:=fun e=>AS ac F ha hf (by rw[hy,hn,e])
          simp only[go_sem,I,J,M]
          refine jS [i6] (.q 0 (.q 1 (.q 2 (.q 3 (.q 4 (.q 8 (.q 9 (.a2 5 (.a2 6 (.a2 7 (.a1 10 (.a1 11 (.a1 12 (.a1 13 .nil)))) 10 (.a1 7 (.a1 11 (.a1 12 (.a1 13 .nil))))) 10 (.a1 6 (.a1 7 (.a1 11 (.a1 12 (.a1 13 .nil)))))) 10 (.a1 5 (.a1 6 (.a1 7 (.a1 11 (.a1 12 (.a1 13 .nil)))))))))))))) (fun O H'=>O 0=.sl (l.map aY)/\O 3=.os j3/\O 4=.oz j 1 (q.length+1)/\O 5=int (k:Nat)/\O 6=.op i6 0 0/\∃jA,H' j3=some (tF (E.set y (.os jA)))/\H' jA=some (dK (Z++[a.choice]))/\∀i r,HGi6 i=some r->i≠j3->H' i=some r) (by simp[R6]) (by kernel_rfl) (fun K' an Hp Hr hp hr _ bi=>?_) ?_
          . have P6:=(hp i6 (by simp)).trans R6
            have Q3:=(hr j3 (by simpa using A)).trans R3
            have ap:ConvL Hr [x] [.sl (Z.map aM)]:=uQ.conv (aq.keep fun i d T=>(hr i (by simpa using jD T R6 (by simp))).trans T)
            rcases aq with rfl|⟨i,rfl,T⟩
            all_goals
              simp only[go_sem,I,J,M,P6]
              repeat' (first
                | refine iB ?_ ?_
                | refine NC.lent ap (Ay Z bd) (Ab Z) (fun jn av=>?_)
                | (refine bT (r := dK Z) (aB _ _ _) ⟨rfl, rfl⟩ ⟨rfl, trivial⟩ (by simp; omega) (fun ae af => ?_)
                   obtain⟨G3,Gn,ar,GU⟩:=XV (r2:=⟨33,4,(Z.map aM)++[aM a.choice]⟩) Q3 av af
                   generalize aI (aI (aI Hr jn _) jn none) ae _=HG at *)
                | (refine bO T2 G3 (by simp;omega) ?_)
                | (refine⟨a9,?_⟩)
                | (refine⟨⟨by omega,rfl⟩,?_⟩)
                | (refine⟨⟨by omega,by omega⟩,?_⟩)
                | (refine⟨by omega,?_⟩)
                | simp only[go_sem,I,J,M,Q3,G3,aC ao,Xaa]
                | simp only[go_sem,I,J,M,Q3,aC ao,Xaa])
            all_goals
              refine dN (fun h0 Hm h1 h2=>?_)
              obtain⟨a1,a2,a3⟩:=Yb hr GU Gn ar A h0 h1 h2
              refine an _ _ ⟨by simp only[go_sem,I],by simp only[go_sem,J],by simp only[go_sem,M],by simp only[go_sem],by simp only[go_sem],ae,?_,?_,a3⟩
              . exact a1.trans (congrArg some (HS (by rw[hy];rfl)))
              . exact a2.trans (congrArg some (by simp[dK]))
          . rintro ρ H2 ⟨I,J,M,e5,e6,jA,A3,An,AU⟩
            have R':=AU j _ R ax
            have ag:=AU i6 _ R6 A.symm
            have hU:∀i d,HGi6 i=some (dK d)->H2 i=some (dK d):=fun i d T=>AU i _ T (jD T R3 (by simp))
            have ah:(E.set y (.os jA))[k]?=some x:=by rw[List.getElem?_set_ne bg];exact ao
            have ai:=aq.keep hU
            have bq:=(hF.keep U).keepD hU
            have a8:(E.set y (AV.os jA)).length=E.length:=Xaw
            have bh:y<E.length:=by omega
            have bn:n<E.length:=by omega
            have ay:0<=a.no/\a.no<((E.set y (AV.os jA)).length:Int):=by rw[a8];exact a7
            have bx:=inB (show k<(E.set y (AV.os jA)).length by omega)
            generalize bo:E.set y (AV.os jA)=E1 at *
            simp only[go_sem,I,J,M,e5,e6]
            refine jS [i6] (.q 0 (.q 1 (.q 2 (.q 3 (.q 4 (.q 8 (.q 9 (.a1 5 (.a1 6 (.a1 7 (.a1 10 (.a1 11 (.a1 12 (.a1 13 (.a1 14 .nil))))))))))))))) (fun O H'=>O 0=.sl (l.map aY)/\O 3=.os j3/\O 4=.oz j 1 (q.length+1)/\O 6=.op i6 0 0/\∃jB,H' j3=some (tF (E1.set n (.os jB)))/\H' jB=some (dK (Z++[rN a.choice]))/\∀i r,H2 i=some r->i≠j3->H' i=some r) (by simp[ag]) (by kernel_rfl) (fun K' an Hp Hr hp hr _ bi=>?_) ?_
            . have P6:=(hp i6 (by simp)).trans ag
              have Q3:=(hr j3 (by simpa using A)).trans A3
              have ap:ConvL Hr [x] [.sl (Z.map aM)]:=uQ.conv (ai.keep fun i d T=>(hr i (by simpa using jD T ag (by simp))).trans T)
              rcases ai with rfl|⟨i,rfl,T⟩
              all_goals
                simp only[go_sem,I,J,M,e5,e6,P6]
                repeat' (first
                  | refine aP (VM a.choice) ?_
                  | refine NC.lent ap (Ay Z bd) (Ab Z) (fun jn av=>?_)
                  | (refine bT (r := dK Z) (aB _ _ _) ⟨rfl, rfl⟩ ⟨rfl, trivial⟩ (by simp; omega) (fun ae af => ?_)
                     obtain⟨G3,Gn,ar,GU⟩:=XV (r2:=⟨33,4,(Z.map aM)++[aM (rN a.choice)]⟩) Q3 av af
                     generalize aI (aI (aI Hr jn _) jn none) ae _=HG at *)
                  | (refine bO T2 G3 (by simp;omega) ?_)
                  | (refine⟨ay,?_⟩)
                  | (refine⟨⟨by omega,rfl⟩,?_⟩)
                  | (refine⟨⟨by omega,by omega⟩,?_⟩)
                  | (refine⟨by omega,?_⟩)
                  | simp only[go_sem,I,J,M,e5,e6,Q3,G3,aC ah,Xaa]
                  | simp only[go_sem,I,J,M,e5,e6,Q3,aC ah,Xaa])
              all_goals
                refine dN (fun h0 Hm h1 h2=>?_)
                obtain⟨a1,a2,a3⟩:=Yb hr GU Gn ar A h0 h1 h2
                refine an _ _ ⟨by simp only[go_sem,I],by simp only[go_sem,J],by simp only[go_sem,M],by simp only[go_sem,e6],ae,?_,?_,a3⟩
                . exact a1.trans (congrArg some (HS (by rw[hn];rfl)))
                . exact a2.trans (congrArg some (by simp[dK]))
            . rintro ρ H3 ⟨I,J,M,e6,jB,B3,Bn,BU⟩
              have a0:=BU j _ R' ax
              have az:=BU i6 _ ag A.symm
              have bb:∀i d,H2 i=some (dK d)->H3 i=some (dK d):=fun i d T=>BU i _ T (jD T A3 (by simp))
              have bk:=bb _ _ An
              have bj:=nQ.two hD F ac ha hf hy hn au (bq.keepD bb) bt bh bn bk Bn
              simp only[go_sem,I,J,M,e6,az]
              refine C6 a0 ⟨rfl,rfl⟩ (by simp) ⟨rfl,rfl,trivial⟩ (by simp[fP]) (by simp[fP];omega) (fun j' ba bu a4=>?_)
              simp only[go_sem,I,J,M]
              have a6:∀i r,H3 i=some r->i≠j->∀rw,aI (aI H3 j none) j' (some rw) i=some r:=fun i r T bc rw=>by
                rw[aD _ _ _ _ (fun e=>by subst e;rw[T]at a4;cases a4),aD _ _ _ _ bc];exact T
              refine hK (l.length-(V++[k]).length) _ _ (by simp;omega) ⟨V++[k],q++[y,n],j',ba,j3,E1.set n (.os jB),rfl,am,by simp only[go_sem,I],by simp only[go_sem,J],.inr (by simp only[go_sem];simp[fP] <;> omega),by simp at bu |-;omega,?_,a6 j3 _ B3 ax.symm _,by rw[Xaw];omega,?_⟩
              . rw[aB];simp[qE,hy,hn]
              . rw[<-bo];exact bj.keepD fun i d T=>a6 i _ T (jD T a0 (by simp)) _
    . have bm : q = [] := by
        cases q with
        | nil=>rfl
        | cons k q=>simp at br
      subst bm
      have al:=hB.full.2 be
      simp only[go_sem,I,J,M]
      refine .row _ _ _ R3 (Hl aw hD.len fun k d hd=>?_)
      refine hF k ?_ d hd
      have:=Bf (by simpa using hB.nd) (by simpa using hB.lt) al k (by have:=(List.getElem?_eq_some_iff.1 hd).1;rw[hD.len]at this;exact this)
      simpa using this
  . simp only[go_sem,I,J,M,R,fP,Nat.add_sub_cancel_left]
    refine aA (fun bp=>?_) (fun br=>?_)
    . cases q with
      | nil=>simp at bp
      | cons k q=>
        have ak:=hB.lt k (by simp)
        obtain⟨a,ha⟩:=aO ak
        have b1:=inB ak
        simp only[Xae]at a5
        have bw:(ab++qE (k::q)).getD ab.length []=[int (k:Nat)]:=by simp[qE]
        simp only[go_sem,I,J,M,R,Xai,fP,Xae,Nat.add_sub_cancel_left,Nat.add_zero,bw,aC ha,b1]
        refine⟨by omega,by omega,by omega,?_⟩
        have U:=Sup.refl H
        refine aJ fun i6 aa=>?_
        have Y:j≠i6:=bC R aa
        have A:j3≠i6:=bC R3 aa
        simp only[go_sem,I,J,M,R,R3]
        refine aN (aB _ _ _) (by simp[fV]) ?_
        have aj:=U.none aa
        generalize X:aI (aI _ i6 _) i6 _=HGi6
        replace U:=Sup.eq ((U.upd aj _).upd aj _) X
        replace R:=kpR X Y Y R
        replace R3:=kpR X A A R3
        have R6:HGi6 i6=some (⟨35,10,[aY a]⟩):=by rw[<-X,aB];try rfl
        clear X aa
        simp only[go_sem,I,J,M,R6,R,R3]
        refine aA (fun hf=>?_) (fun hf=>?_)
        . simp only[go_sem,I,J,M]
          refine hK (l.length-(V++[k]).length) _ _ (by simp;omega) ⟨V++[k],q,j,(ab++[[int (k:Nat)]]),j3,E,rfl,hB.leafStep ha hf,by simp only[go_sem,I],by simp only[go_sem,J],.inr (by simp only[go_sem];simp <;> omega),by simp <;> omega,by rw[R];simp[qE],R3,aw,by rw[Xbd];exact hF.keep U⟩
        . obtain⟨Z,au⟩:=aO (show k<D.length by rw[hD.len];exact ak)
          obtain⟨x,ao,aq⟩:=hF.keep U k (by simp) Z au
          have b3:=inB (show k<E.length by omega)
          have bd:Z.length<=1048576:=by have:=hD.short Z (Xac au);omega
          obtain⟨y,n,hy,hn⟩:=wE F ha hf
          obtain⟨a9,a7⟩:=Pl F ha hf
          rw[<-aw]at a9 a7
          have am:=hB.innerStep ac F ha hf hy hn
          have bz:n≠k:=fun e=>by
            have:=am.nd
            subst e
            rw[List.nodup_append]at this
            exact this.2.2 n (by simp) n (by simp) rfl
          have bg:y≠k:=fun e=>by
            have:=am.nd
            subst e
            rw[List.nodup_append]at this
            exact this.2.2 y (by simp) y (by simp) rfl
          have bt:y≠n:=fun e=>AS ac F ha hf (by rw[hy,hn,e])
          simp only[go_sem,I,J,M]
          refine jS [i6] (.q 0 (.q 1 (.q 2 (.q 3 (.q 4 (.q 8 (.q 9 (.a2 5 (.a2 6 (.a2 7 (.a1 10 (.a1 11 (.a1 12 (.a1 13 .nil)))) 10 (.a1 7 (.a1 11 (.a1 12 (.a1 13 .nil))))) 10 (.a1 6 (.a1 7 (.a1 11 (.a1 12 (.a1 13 .nil)))))) 10 (.a1 5 (.a1 6 (.a1 7 (.a1 11 (.a1 12 (.a1 13 .nil)))))))))))))) (fun O H'=>O 0=.sl (l.map aY)/\O 3=.os j3/\O 4=.oz j (ab.length+1) (ab.length+(q.length+1))/\O 5=int (k:Nat)/\O 6=.op i6 0 0/\∃jA,H' j3=some (tF (E.set y (.os jA)))/\H' jA=some (dK (Z++[a.choice]))/\∀i r,HGi6 i=some r->i≠j3->H' i=some r) (by simp[R6]) (by kernel_rfl) (fun K' an Hp Hr hp hr _ bi=>?_) ?_
          . have P6:=(hp i6 (by simp)).trans R6
            have Q3:=(hr j3 (by simpa using A)).trans R3
            have ap:ConvL Hr [x] [.sl (Z.map aM)]:=uQ.conv (aq.keep fun i d T=>(hr i (by simpa using jD T R6 (by simp))).trans T)
            rcases aq with rfl|⟨i,rfl,T⟩
            all_goals
              simp only[go_sem,I,J,M,P6]
              repeat' (first
                | refine iB ?_ ?_
                | refine NC.lent ap (Ay Z bd) (Ab Z) (fun jn av=>?_)
                | (refine bT (r := dK Z) (aB _ _ _) ⟨rfl, rfl⟩ ⟨rfl, trivial⟩ (by simp; omega) (fun ae af => ?_)
                   obtain⟨G3,Gn,ar,GU⟩:=XV (r2:=⟨33,4,(Z.map aM)++[aM a.choice]⟩) Q3 av af
                   generalize aI (aI (aI Hr jn _) jn none) ae _=HG at *)
                | (refine bO T2 G3 (by simp;omega) ?_)
                | (refine⟨a9,?_⟩)
                | (refine⟨⟨by omega,rfl⟩,?_⟩)
                | (refine⟨⟨by omega,by omega⟩,?_⟩)
                | (refine⟨by omega,?_⟩)
                | simp only[go_sem,I,J,M,Q3,G3,aC ao,Xaa]
                | simp only[go_sem,I,J,M,Q3,aC ao,Xaa])
            all_goals
              refine dN (fun h0 Hm h1 h2=>?_)
              obtain⟨a1,a2,a3⟩:=Yb hr GU Gn ar A h0 h1 h2
              refine an _ _ ⟨by simp only[go_sem,I],by simp only[go_sem,J],by simp only[go_sem,M],by simp only[go_sem],by simp only[go_sem],ae,?_,?_,a3⟩
              . exact a1.trans (congrArg some (HS (by rw[hy];rfl)))
              . exact a2.trans (congrArg some (by simp[dK]))
          . rintro ρ H2 ⟨I,J,M,e5,e6,jA,A3,An,AU⟩
            have R':=AU j _ R ax
            have ag:=AU i6 _ R6 A.symm
            have hU:∀i d,HGi6 i=some (dK d)->H2 i=some (dK d):=fun i d T=>AU i _ T (jD T R3 (by simp))
            have ah:(E.set y (.os jA))[k]?=some x:=by rw[List.getElem?_set_ne bg];exact ao
            have ai:=aq.keep hU
            have bq:=(hF.keep U).keepD hU
            have a8:(E.set y (AV.os jA)).length=E.length:=Xaw
            have bh:y<E.length:=by omega
            have bn:n<E.length:=by omega
            have ay:0<=a.no/\a.no<((E.set y (AV.os jA)).length:Int):=by rw[a8];exact a7
            have bx:=inB (show k<(E.set y (AV.os jA)).length by omega)
            generalize bo:E.set y (AV.os jA)=E1 at *
            simp only[go_sem,I,J,M,e5,e6]
            refine jS [i6] (.q 0 (.q 1 (.q 2 (.q 3 (.q 4 (.q 8 (.q 9 (.a1 5 (.a1 6 (.a1 7 (.a1 10 (.a1 11 (.a1 12 (.a1 13 (.a1 14 .nil))))))))))))))) (fun O H'=>O 0=.sl (l.map aY)/\O 3=.os j3/\O 4=.oz j (ab.length+1) (ab.length+(q.length+1))/\O 6=.op i6 0 0/\∃jB,H' j3=some (tF (E1.set n (.os jB)))/\H' jB=some (dK (Z++[rN a.choice]))/\∀i r,H2 i=some r->i≠j3->H' i=some r) (by simp[ag]) (by kernel_rfl) (fun K' an Hp Hr hp hr _ bi=>?_) ?_
            . have P6:=(hp i6 (by simp)).trans ag
              have Q3:=(hr j3 (by simpa using A)).trans A3
              have ap:ConvL Hr [x] [.sl (Z.map aM)]:=uQ.conv (ai.keep fun i d T=>(hr i (by simpa using jD T ag (by simp))).trans T)
              rcases ai with rfl|⟨i,rfl,T⟩
              all_goals
                simp only[go_sem,I,J,M,e5,e6,P6]
                repeat' (first
                  | refine aP (VM a.choice) ?_
                  | refine NC.lent ap (Ay Z bd) (Ab Z) (fun jn av=>?_)
                  | (refine bT (r := dK Z) (aB _ _ _) ⟨rfl, rfl⟩ ⟨rfl, trivial⟩ (by simp; omega) (fun ae af => ?_)
                     obtain⟨G3,Gn,ar,GU⟩:=XV (r2:=⟨33,4,(Z.map aM)++[aM (rN a.choice)]⟩) Q3 av af
                     generalize aI (aI (aI Hr jn _) jn none) ae _=HG at *)
                  | (refine bO T2 G3 (by simp;omega) ?_)
                  | (refine⟨ay,?_⟩)
                  | (refine⟨⟨by omega,rfl⟩,?_⟩)
                  | (refine⟨⟨by omega,by omega⟩,?_⟩)
                  | (refine⟨by omega,?_⟩)
                  | simp only[go_sem,I,J,M,e5,e6,Q3,G3,aC ah,Xaa]
                  | simp only[go_sem,I,J,M,e5,e6,Q3,aC ah,Xaa])
              all_goals
                refine dN (fun h0 Hm h1 h2=>?_)
                obtain⟨a1,a2,a3⟩:=Yb hr GU Gn ar A h0 h1 h2
                refine an _ _ ⟨by simp only[go_sem,I],by simp only[go_sem,J],by simp only[go_sem,M],by simp only[go_sem,e6],ae,?_,?_,a3⟩
                . exact a1.trans (congrArg some (HS (by rw[hn];rfl)))
                . exact a2.trans (congrArg some (by simp[dK]))
            . rintro ρ H3 ⟨I,J,M,e6,jB,B3,Bn,BU⟩
              have a0:=BU j _ R' ax
              have az:=BU i6 _ ag A.symm
              have bb:∀i d,H2 i=some (dK d)->H3 i=some (dK d):=fun i d T=>BU i _ T (jD T A3 (by simp))
              have bk:=bb _ _ An
              have bj:=nQ.two hD F ac ha hf hy hn au (bq.keepD bb) bt bh bn bk Bn
              simp only[go_sem,I,J,M,e6,az]
              refine C6 a0 ⟨rfl,rfl⟩ (by simp) ⟨rfl,rfl,trivial⟩ (by simp[fP]) (by simp[fP];omega) (fun j' ba bu a4=>?_)
              simp only[go_sem,I,J,M]
              have a6:∀i r,H3 i=some r->i≠j->∀rw,aI (aI H3 j none) j' (some rw) i=some r:=fun i r T bc rw=>by
                rw[aD _ _ _ _ (fun e=>by subst e;rw[T]at a4;cases a4),aD _ _ _ _ bc];exact T
              refine hK (l.length-(V++[k]).length) _ _ (by simp;omega) ⟨V++[k],q++[y,n],j',ba,j3,E1.set n (.os jB),rfl,am,by simp only[go_sem,I],by simp only[go_sem,J],.inr (by simp only[go_sem];simp[fP] <;> omega),by simp at bu |-;omega,?_,a6 j3 _ B3 ax.symm _,by rw[Xaw];omega,?_⟩
              . rw[aB];simp[qE,hy,hn]
              . rw[<-bo];exact bj.keepD fun i d T=>a6 i _ T (jD T a0 (by simp)) _
    . have bm : q = [] := by
        cases q with
        | nil=>rfl
        | cons k q=>simp at br
      subst bm
      have al:=hB.full.2 be
      simp only[go_sem,I,J,M]
      refine .row _ _ _ R3 (Hl aw hD.len fun k d hd=>?_)
      refine hF k ?_ d hd
      have:=Bf (by simpa using hB.nd) (by simpa using hB.lt) al k (by have:=(List.getElem?_eq_some_iff.1 hd).1;rw[hD.len]at this;exact this)
      simpa using this
def Da{l:List TNode}(A:kJ l=true)(E:kD TNode.leaf TNode.yes TNode.no l=true):∀(m:Nat) (V q:List Nat),l.length-V.length<=m->BIn l V q->∃M,BIn l M []
 | m,V,[],_,h=>⟨V,h⟩
 | 0,V,k::q,hm,h=>by have:=h.len;simp at this;omega
 | m+1,V,k::q,hm,h=>by
  have O:=h.lt k (by simp);obtain⟨a,F⟩:=aO O;cases I:a.leaf with
  | true=>exact Da A E m _ _ (by simp;omega) (h.leafStep F I)
  | false=>obtain⟨y,n,J,T⟩:=wE A F I;exact Da A E m _ _ (by simp;omega) (h.innerStep E A F I J T)
def JN{l:List TNode}(h:nV l):∃D,PathsOf l D:=by
 obtain⟨I,aa,Y,hc,F⟩:=h;have J:l≠[]:=by rintro rfl;simp at I
 obtain⟨V,X⟩:=Da Y hc _ [] [0] (Xaf _) (BInv.start J);have hw:∀k,k<l.length->∃d,Bh l k d/\d.length<l.length:=fun k T=>by obtain⟨d,E⟩:=F k T;exact X.short E
 have:∀n,n<=l.length->∃D:List (List Decision),D.length=n/\∀k d,D[k]?=some d->Bh l k d/\d.length<l.length:=by
  intro n;induction n with
  | zero=>exact fun _=>⟨[],rfl,fun k d h=>by simp at h⟩
  | succ n ih=>
   intro hn;obtain⟨D,M,E⟩:=ih (by omega);obtain⟨d,U,O⟩:=hw n (by omega);refine⟨D++[d],by simp[M],fun k e A=>?_⟩;rw[List.getElem?_append]at A;split at A
   ·exact E k e A
   ·rename_i Z;rw[List.getElem?_singleton]at A;split at A
    ·injection A with A;subst A;have:k=n:=by omega
     subst this;exact⟨U,O⟩
    ·cases A
 obtain⟨D,M,E⟩:=this l.length (Xaf _);exact⟨D,M,fun k d h=>(E k d h).1,fun d h=>by obtain⟨k,T⟩:=List.getElem?_of_mem h;exact(E k d T).2⟩
def eY:List TNode->List (List Decision)->List (List Decision)
 | a::l,d::D=>if a.leaf=true then d::eY l D else eY l D
 | _,_=>[]
def AT{l:List TNode}{D:List (List Decision)}:∀{k:Nat} {a:TNode} {d:List Decision},l[k]?=some a->D[k]?=some d->eY (l.take (k+1)) (D.take (k+1))=eY (l.take k) (D.take k)++(if a.leaf=true then[d]else[]):=by
 intro k;induction k generalizing l D with
 | zero=>intro a d E A;cases l <;> cases D <;> simp at E A;subst E;subst A;simp[eY]
 | succ k ih=>
  intro a d E A;cases l with
  | nil=>simp at E
  | cons b l=>
   cases D with
   | nil=>simp at A
   | cons e D=>
    simp at E A;have:=ih E A;simp only[List.take_succ_cons,eY];split
    ·rw[this];rfl
    ·exact this
def nB:∀(l:List TNode) (D:List (List Decision)),(eY l D).length<=l.length
 | [],_=>by simp[eY]
 | _::_,[]=>by simp[eY]
 | a::l,d::D=>by have:=nB l D;unfold eY;split <;> simp <;> omega
abbrev wS(L:List (List Decision)):Row:=⟨59,1,L.map nG⟩
def C5(p:Proof)(b:Bool)(hb:b=true↔nV p.nodes)(D:List (List Decision))(hD:b=true->PathsOf p.nodes D)(hl:p.nodes.length<=1048576):
  PC prog 5 [.agg (cY p)] (.tup [.sl ((if b=true then eY p.nodes D else[]).map nG),int (if b=true then 0 else 29)]):=by
 refine pcb (fun t=>t == 4) func5 rfl rfl ?_;simp only[go_sem];refine aP (Wa p.nodes b hb hl) ?_;simp only[go_sem];cases b with
 | false=>refine aA (fun h=>?_) (fun h=>by cases h);simp only[go_sem];exact .refl _
 | true=>
  have ht:=hb.1 rfl;have J:=hD rfl;refine aA (fun h=>by cases h) (fun h=>?_);refine dV fun j Z Y (R:Z j=some (wS [])) N=>?_
  clear N Y;simp only[go_sem,R];refine aP (PH p.nodes D ht J) ?_;simp only[go_sem];refine⟨fun ρ H=>∃(k:Nat) (j:Nat),k<=p.nodes.length/\ρ 1=.rp (cY p) 0/\ρ 13=.sl (D.map nG)/\ρ 14=int (p.nodes.length:Nat)/\ρ 15=int k/\ρ 4=.os j/\H j=some (wS (eY (p.nodes.take k) (D.take k))),fun ρ _=>p.nodes.length-aU (ρ 15),⟨0,j,Xab _,by simp only[go_sem,J.len],by simp only[go_sem,J.len],by simp only[go_sem,Xaa,J.len],(by simp only[go_sem,J.len];rfl),by simp only[go_sem],R⟩,?_⟩;rintro ρ H ⟨k,j,hk,O,E,F,I,M,R⟩;simp only[go_sem,O,E,F,I,M];refine aA (fun A=>?_) (fun T=>?_)
  ·have A:=ltB (by simpa using A);obtain⟨a,ha⟩:=aO A;obtain⟨d,hd⟩:=aO (show k<D.length by rw[J.len];exact A);have b1:=inB A;have b2:=inB (show k<D.length by rw[J.len];exact A);have U:=AT ha hd;have X:=nB (p.nodes.take k) (D.take k);rw[Xah]at X;generalize ab:eY (p.nodes.take k) (D.take k)=PL at *;simp only[go_sem,O,E,F,I,M,aC ha,aC hd,b1,b2,Xaa];have aa:nG d=[.sl (d.map aM)]:=rfl;rw[aa];simp only[go_sem,O,E,F,I,M,aC ha,b1];refine aA (fun hf=>?_) (fun hf=>?_)
   ·rw[if_pos hf]at U;simp only[go_sem,O,E,F,I,M];refine bT R ⟨rfl,rfl⟩ ⟨rfl,trivial⟩ (by simp only[Xaa,Xae,List.length_nil];omega) (fun j' ac=>?_);simp only[go_sem,O,E,F,I,M,aT k];refine⟨⟨k+1,j',A,rfl,rfl,?_⟩,msr A⟩;rw[U,aB];simp[wS,nG]
   ·rw[if_neg (by rw[hf];simp),Xbn]at U;simp only[go_sem,O,E,F,I,M,aT k];refine⟨⟨k+1,j,A,rfl,rfl,?_⟩,msr A⟩;rw[U];exact R
  have T:=geB hk (by simpa using T);subst T;rw[Xad,Xam (by rw[J.len];exact Xaf _)]at R;simp only[go_sem,O,E,F,I,M,if_true];exact .tup _ _ (.cons _ _ _ _ (.row _ _ _ R (ConvE.refl _)) (.cons _ _ _ _ (.refl _) .nil))
end Go.Proofs.YtkjdacijpeiphaaGreatDoor.Ve
end
