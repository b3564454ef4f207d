import Derived.Lib.LaidIn
import Derived.MakeChecks
import Derived.Stop.LaidErr
import Derived.Test.YthephioccidfgaaGreatDoorVs10
set_option linter.unusedSimpArgs false
set_option linter.unusedVariables false
set_option linter.defProp false
set_option maxRecDepth 100000
namespace Go.Proofs.YthephioccidfgaaGreatDoor
open Go.Aw Go.Aw.D Go.Proofs Ty
namespace Rx
open Go.Nu Go.So
open Sq (W eN dX cR NetOk uX nQ lO qS)
open Nu (ltB geB GD)
open Mv (bZ cL aR)
end Rx
namespace Rx
open Go.Nu Go.So
open Sq (W eN dX cR NetOk)
open Nu (ltB geB)
open Mv (bZ cL aR)
def mG(s i:Nat):Bool:=s/2^i%2 == 1
def UG(o:Order):List Int:=(if decide (o.pick.place>=0)=true then[o.pick.place]else[])++(if decide (o.drop.place>=0)=true then[o.drop.place]else[])
def eY(near:List Int)(m o:Nat)(s i:Nat):Nat:=if(i == o||(mG m i&&mG (near.getD o 0).toNat i))=true then s+2^i else s
def d32A(p q:Int)(out:Int)(w:Arc):Int:=if((w.src == p&&w.dst == q)||(w.src == q&&w.dst == p))=true then azZ out w.miles else out
def d32Q(arcs:List Arc)(p:Int)(out q:Int):Int:=arcs.foldl (d32A p q) (if(p == q)=true then 0 else out)
def d32P(arcs:List Arc)(Q:List Int)(out p:Int):Int:=Q.foldl (d32Q arcs p) out
def akM(x:Instance)(a b:Nat):Int:=(UG (cT x a)).foldl (d32P x.net.arcs (UG (cT x b))) 10001
def jX(x:Instance)(a set:Nat)(best:Int)(b:Nat):Int:=if(!mG set b&&(decide (best<0)||decide (akM x a b<akM x a best.toNat)))=true then(b:Int)else best
def aiB(x:Instance)(a set k:Nat):Int:=(List.range k).foldl (jX x a set) (-1)
def Tl(x:Instance)(a set:Nat):Nat:=if aiB x a set x.orders.length>=0 then set+2^(aiB x a set x.orders.length).toNat else set
end Rx
namespace Rx
open Go.Nu Go.So
open Sq (W eN dX cR NetOk fB)
open Nu (ltB geB)
open Mv (bZ cL aR)
structure Mom where
 time:Int
 driven:Int
structure RP where
 place:Int
 visits:Nat
 miles:Int
 moms:List Mom
 memory:Nat
 board:Nat
 load:List Int
 moved:Int
 other:Int
 dual:ByteArray
structure Rs where
 x:Instance
 t:VType
 kind:Nat
 near:List Int
 dual:List ByteArray
 most:Nat
 count:Int
 limited:Bool
 found:Bool
 least:ByteArray
section
variable(p:RP)
end
section
variable(w:Rs)
end
def aBq(t:VType)(m:Mom):Mom:=⟨W (m.time+t.rest),0⟩
def awD(t:VType)(l:List Mom):List Mom:=l.flatMap fun m=>[m,aBq t m]
def arrM(n:Network)(t:VType)(place goal close:Int)(s:List Mom×Int)(m:Mom):List Mom×Int:=
 (if(((fB n t.profile place goal m.time).2.2 == 0&&decide ((fB n t.profile place goal m.time).1<=close))&&decide (W (W (m.driven+(fB n t.profile place goal m.time).1)-m.time)<=t.drive))=true
  then s.1++[⟨(fB n t.profile place goal m.time).1,W (W (m.driven+(fB n t.profile place goal m.time).1)-m.time)⟩]else s.1,(fB n t.profile place goal m.time).2.1)
def LN(n:Network)(t:VType)(place goal close:Int)(l:List Mom):List Mom×Int:=l.foldl (arrM n t place goal close) ([],0)
end Rx
end Go.Proofs.YthephioccidfgaaGreatDoor
section
namespace Go.Aw
open Go.RowKit
section
variable{P:Program}{f:FuncId}{args:List AV}{H H1:aG}{K:AV->aG->Prop}{r:AV}
def MC(P:Program)(f:FuncId)(args:List AV)(H H1:aG)(r:AV):Prop:=∀K:AV->aG->Prop,K r H1->bK P f args H K
def MC.use(h:MC P f args H H1 r)(A:K r H1):bK P f args H K:=h K A
def bK.dataM(U:∀k,H k=none->H1 k=none)(h:bK P f args H (Qg H1 r))(Z:K r H1):bK P f args H K:=by
 intro S w vals hS X;refine(h S w vals hS X).mono fun e w' ⟨v,x,H',S',he,⟨hm,l,Y,T⟩,F,hv,O,hn⟩=>?_
 obtain⟨h1,J,h3⟩:=F.frz l;refine⟨v,r,H1,S'.froze _,he,Z,h1.drop (fun k row E=>?_),T.rep h3 hv,O.trans J,fun k _ h0=>U k h0⟩;have A:¬k∈l:=fun A=>by rw[Y k A]at E;cases E
 show(if k∈l then none else H' k)=some row;rw[if_neg A];exact hm k row E
def MC.body{fn:Func}{c:Code}(mt:Nat->Bool)(F:∀k,H k=none->H1 k=none)(J:P.follows .mixedOrders=true)(T:P.funcs[f]?=some fn)(E:fn.body=some c)(A:Dz fn c args.length=true)
 (h:awp P (bK P) (dS P) mt c (Lp P fn.results.toList (Qg H1 r)) (Ip args) H):MC P f args H H1 r:=fun K O=>bK.dataM F (bK.body mt J T E A h) O
theorem UI{H:aG}{j:Nat}{a:Row}(h:H j=some a):aH H j (some a)=H:=funext fun k=>by
 by_cases e:k=j
 ·subst e;rw[aB,h]
 ·rw[aD _ _ _ _ e]
def adG(H:aG)(j:Nat)(a b:Option Row):aH (aH H j a) j b=aH H j b:=funext fun k=>by
 by_cases e:k=j
 ·subst e;rw[aB,aB]
 ·rw[aD _ _ _ _ e,aD _ _ _ _ e,aD _ _ _ _ e]
def Sup.set{H H':aG}(h:Sup H H')(j:Nat)(a:Option Row):Sup (aH H j a) (aH H' j a):=fun k row A=>by
 by_cases e:k=j
 ·subst e;rw[aB]at A |-;exact A
 ·rw[aD _ _ _ _ e]at A |-;exact h k row A
def Sup.set2{H H':aG}{j:Nat}{b:Option Row}(h:Sup (aH H j b) H')(a:Option Row):Sup (aH H j a) (aH H' j a):=by
 have:=Sup.set h j a
 rwa [adG]at this
def Ye{H:aG}{j:Nat}{a:Option Row}{b:Row}(h:H j=some b):∀k,H k=none->aH H j a k=none:=fun k A=>by
 by_cases e:k=j
 ·subst e;rw[h]at A;cases A
 ·rw[aD _ _ _ _ e,A]
def nK{P:Program}{C:mM}{PC:FuncId->List AV->aG->AV->Prop}{mt:Nat->Bool}{ops:List Oper}{K:Env->aG->Prop}{m:Nat}{ρ:Env}{H:aG}(l:List Nat)(t:Mx)(J:Env->aG->Prop)(F:∀k,k∈l->(H k).isSome=true)(T:G9 ops.toArray t=true)
 (h:∀K':Env->aG->Prop,(∀A H',J A H'->K' A H')->∀Hp E:aG,(∀k,k∈l->Hp k=H k)->(∀k,k∉l->E k=H k)->(∀k,k∉l->Hp k=none)->(∀k,k∈l->E k=none)->nO P C PC mt ops.toArray (sN l H K') Hp t ρ E)
 (O:∀A H',J A H'->K A H'):wW P C PC mt ops.toArray K m ρ H:=C3 l t F T (h K O)
end
end Go.Aw
namespace Go.Proofs.YthephioccidfgaaGreatDoor.Rx
open Go.Aw Go.Aw.D Go.Proofs Ty Go.Nu Go.So
open Sq (W eN dX cR NetOk fB)
open Nu (ltB geB)
open Mv (bZ cL aR)
def Dk(s:Rs)(v:ByteArray):Rs:=
 if(!s.found||decide (DW v s.least<0))=true then { s with count:=W (s.count+1),found:=true,least:=v }else { s with count:=W (s.count+1) }
end Go.Proofs.YthephioccidfgaaGreatDoor.Rx
end
namespace Go.Proofs.YthephioccidfgaaGreatDoor
namespace Sq
open Go.Proofs.Tryz
open Go.Aw Go.Aw.D Go.Proofs Ty
open Go.Proofs.YthephioccidfgaaGreatDoor.Nu (ltB geB)
open Mv (bZ cL aR)
def BY(M:List Nat)(q:Pair):List Nat:=
 if(((decide (q.a<0)||decide (q.b<0))||decide (q.a>=(M.length:Int)))||decide (q.b>=(M.length:Int)))=true then M
 else M.set q.b.toNat (M.getD q.b.toNat 0 ||| M.getD q.a.toNat 0 ||| 2^q.a.toNat)
def DN(l:List Pair)(M:List Nat):List Nat:=l.foldl BY M
def Ux(l:List Pair):Nat->List Nat->List Nat
 | 0,M=>M
 | f+1,M=>if DN l M=M then M else Ux l f (DN l M)
def uZ(n:Nat)(l:List Pair):List Nat:=Ux l (LG (List.replicate n 0)+1) (List.replicate n 0)
theorem akY{α:Type}{M:List α}{i:Nat}{u:α}(h:M[i]?=some u):M.set i u=M:=by grind[List.set_getElem_self]
def aqO{M:List Nat}{i u:Nat}(h:M[i]?=some u):M.getD i 0=u:=by grind
def XP(l:List Pair):∀(f:Nat) (M:List Nat),(Ux l f M).length=M.length:=by
 have h1:∀(l:List Pair) (M:List Nat),(l.foldl BY M).length=M.length:=fun l=>by induction l<;>grind[BY]
 intro f;induction f with
 | zero=>exact fun M=>rfl
 | succ f ih=>
  intro M;unfold Ux;split
  ·rfl
  ·exact(ih _).trans (h1 l M)
def Ii(n:Nat)(l:List Pair):(uZ n l).length=n:=(XP l _ _).trans Xbw
def aoU(n:Nat)(l:List Pair)(hn:n<=60)(hl:l.length<=1048576):PC prog 180 [int (n:Nat),.sl (l.map cZ)] (.sl ((uZ n l).map fun n:Nat=>[int (n:Nat)])):=by
 refine pcd func180 rfl rfl ?_;simp only[go_sem];have ao:eF (n:Int) 0=(n:Nat):=by rfl
 rw[ao];refine⟨by omega,?_⟩;rw[Xao];generalize hR:uZ n l=RR;refine fR fun j ai aw (R:ai j=some ((⟨3,1,List.replicate n [int 0]⟩:Row))) N=>?_
 simp only[go_sem];have R:ai j=some (II (List.replicate n 0)):=by simp_all
 refine⟨fun ρ H=>∃(j:Nat) (L:List Nat) (b:Bool),ρ 1=.sl (l.map cZ)/\ρ 5=.os j/\ρ 6=boo b/\H j=some (II L)/\L.length=n/\(∀a∈L,a<2^62)/\(b=true->∃f,LG L<f/\Ux l f L=RR)/\(b=false->L=RR),fun ρ H=>asC (ρ 5) (ρ 6) H,⟨j,_,true,rfl,rfl,rfl,R,Xbw,fun a ha=>by grind,fun _=>⟨_,Nat.lt_succ_self _,hR⟩,fun h=>(by cases h)⟩,?_⟩;rintro ρ H ⟨j,L,b,e1,J,e6,R,hL,hB,hT,hF⟩;simp only[go_sem,J,e6];refine aA (fun hb=>?_) (fun hb=>?_)
 case refine_2=>simp only[go_sem,J];rw[<-hF hb];exact .row _ _ _ R (ConvE.refl _)
 have hb:b=true:=hb;subst hb;obtain⟨f,ax,Y⟩:=hT rfl;obtain⟨f,rfl⟩:∃f',f=f'+1:=⟨f-1,by omega⟩;have Y:(if DN l L=L then L else Ux l f (DN l L))=RR:=Y;simp only[go_sem,e1,Xaa];rw[ajM R];refine⟨fun ρ H=>∃(k:Nat) (j:Nat) (M:List Nat) (b:Bool),k<=l.length/\ρ 1=.sl (l.map cZ)/\ρ 5=.os j/\ρ 6=boo b/\ρ 16=.sl (l.map cZ)/\ρ 17=int l.length/\ρ 18=int (k:Nat)/\H j=some (II M)/\M.length=n/\(∀a∈M,a<2^62)/\LG M<=LG L/\(b=true->LG M<LG L)/\(b=false->M=L)/\M=(l.take k).foldl BY L,fun ρ _=>l.length-aU (ρ 18),⟨0,j,L,false,Xab _,e1,J,rfl,rfl,rfl,by rfl,R,hL,hB,Xae _,(fun h=>(by cases h)),fun _=>rfl,rfl⟩,?_⟩;rintro ρ H ⟨k,j,M,b,hk,e1,J,e6,O,U,E,R,hL,hB,aj,ab,T,ag⟩;simp only[go_sem,U,E];refine aA (fun F=>?_) (fun am=>?_)
 case refine_2=>
  have am:=geB hk (by omega);simp only[go_sem,e1,J,e6];rw[Xbb (by omega)]at ag;refine⟨⟨j,M,b,rfl,rfl,R,hL,hB,fun hb=>⟨f,by grind,?_⟩,fun hb=>?_⟩,?_⟩
  ·have aq:DN l L≠L:=fun e=>by grind[DN]
   rw[if_neg aq]at Y;rw[ag];exact Y
  ·simp_all[DN]
  cases b<;>grind[ajM,ayS]
 have F:=ltB (by omega);obtain⟨q,hq⟩:=aI F;have b1:=inB F;have ac:=nL (f:=BY) (b:=L) hq;rw[<-ag]at ac;simp only[go_sem,O,E,aC hq,b1];refine aJ fun i8 an=>?_
 simp only[go_sem,e1,J,e6,O,U,E,R];refine bP an (by simp[nU]) fun X (R8:X i8=some (⟨92,2,[cZ q]⟩)) N=>?_
 replace R:=N R;obtain⟨ak,R⟩:=R;simp only[go_sem,];refine jI [i8] [(0,true),(1,true),(2,true),(3,true),(4,true),(5,true)] (by grind) (by kernel_rfl) fun Hp Hr hp hr _ ap=>?_
 have al:=(hp i8 (by simp)).trans R8;simp only[go_sem,al];refine⟨by decide,by decide,qF hr ?_⟩;simp only[go_sem,J,R,Xaa];refine aA (fun hc=>?_) (fun hc=>?_)
 ·simp only[go_sem,e1,J,e6,O,U,E,aW k];exact⟨⟨k+1,j,M,b,F,rfl,rfl,rfl,R,hL,hB,aj,ab,T,by simp_all[BY]⟩,by grind[aN]⟩
 have aa:BY M q=M.set q.b.toNat (M.getD q.b.toNat 0 ||| M.getD q.a.toNat 0 ||| 2^q.a.toNat):=by simp_all[BY,if_neg]
 simp only[Xam,decide_eq_false_iff_not]at hc;obtain⟨⟨⟨c1,c2⟩,c3⟩,c4⟩:=hc;obtain⟨A,hA⟩:=Int.eq_ofNat_of_zero_le (show 0<=q.a by omega);obtain⟨B,af⟩:=Int.eq_ofNat_of_zero_le (show 0<=q.b by omega);rw[hA]at c3;rw[af]at c4;have ae:A<M.length:=by omega
 have Z:B<M.length:=by omega
 obtain⟨u,hu⟩:=aI Z;obtain⟨w,hw⟩:=aI ae;rw[hA,af,Xao,Xao,aqO hu,aqO hw]at aa;rw[aa]at ac;have g1:=aC (f:=fun n:Nat=>[int (n:Nat)]) hu;have g2:=aC (f:=fun n:Nat=>[int (n:Nat)]) hw;have d1:=inB Z;have d2:=inB ae;have bu:=hB u (Xac hu);have bw:=hB w (Xac hw);have b2:2^A<2^62:=Xci (by decide) (by omega);have o1:u ||| w<2^62:=Xcc bu bw;have o2:u ||| w ||| 2^A<2^62:=Xcc o1 b2;have v1:sI .or .i64 (u:Int) (w:Int)=((u ||| w:Nat):Int):=B8 (by omega) (by omega);have v2:sI .or .i64 ((u ||| w:Nat):Int) ((2^A:Nat):Int)=((u ||| w ||| 2^A:Nat):Int):=B8 (by omega) (by omega);have v3:shV .shl .i64 1 (A:Int)=((2^A:Nat):Int):=Lc (by omega);have am:u<=u ||| w ||| 2^A:=Xal Nat.left_le_or Nat.left_le_or;simp only[go_sem,];refine jI [j] [(0,true),(1,true),(2,true),(3,true),(4,true),(5,true),(6,true),(7,true),(8,true),(9,true),(10,true),(11,true),(12,true)] (by simp[R]) (by kernel_rfl) fun Hp Hr hp hr _ ap=>?_
 have ar:=(hp j (by simp)).trans R;simp only[go_sem,J,hA,af,g1,g2,d1,d2,Xaa,v1,v2,v3,ar];refine⟨Z,ae,?_⟩;refine qF hr ?_;simp only[go_sem,J,R,g1,d1,Xaa,];refine⟨Z,aA (fun hd=>?_) (fun hd=>?_)⟩
 ·have hd:u<u ||| w ||| 2^A:=by grind
  simp only[go_sem,J,R,d1,Xaa];generalize au:u ||| w ||| 2^A=v at *;refine cC so3 R (by grind) ?_;have ah:(M.map fun n:Nat=>[int (n:Nat)]).set B (oY ((M.map fun n:Nat=>[int (n:Nat)]).getD B []) 0 [int (v:Nat)])=(M.set B v).map fun n:Nat=>[int (n:Nat)]:=by rw[g1,List.map_set];rfl
  have R3:aH X j (some (⟨3,1,(M.map fun n:Nat=>[int (n:Nat)]).set B (oY ((M.map fun n:Nat=>[int (n:Nat)]).getD B []) 0 [int (v:Nat)])⟩:Row)) j=some (II (M.set B v)):=by rw[aB,ah]
  generalize aH X j _=H3 at R3 |-;have av:=TX hu hd (Nat.le_of_lt o2);simp only[go_sem,e1,J,O,U,E,aW k];exact⟨⟨k+1,j,M.set B v,true,F,rfl,rfl,rfl,R3,by grind,fun a ha=>by grind,by omega,(fun _=>by omega),(fun h=>by cases h),ac.symm⟩,by grind[aN]⟩
 ·simp only[go_sem,e1,J,e6,O,U,E,aW k];have ay:u ||| w ||| 2^A=u:=by grind
  exact⟨⟨k+1,j,M,b,F,rfl,rfl,rfl,R,hL,hB,aj,ab,T,by grind[akY]⟩,by grind[aN]⟩
def Sh(x:Instance)(i:Int):Bool:=match x.orders[i.toNat]? with|some o=>o.off|none=>false
def yU(x:Instance)(set:Int):Int:=
 if set<0 then 2
 else if((eY set).any fun a=>decide (a>=(x.orders.length:Int)))=true then 2
 else if((eY set).any (Sh x))=true then 9
 else if(x.apart.any fun q=>cR set q.a&&cR set q.b)=true then 20
 else if(x.before.any fun q=>cR set q.b&& !cR set q.a)=true then 21
 else if((eY set).any fun a=>cR (((uZ x.orders.length x.before).getD a.toNat 0:Nat):Int) a)=true then 21
 else 0
def Ff{α:Type}{p:α->Bool}{l:List α}{k:Nat}{a:α}(h:l[k]?=some a)(A:p a=true):l.any p=true:=Xak.2 ⟨a,Xac h,A⟩
def B9{α:Type}{p:α->Bool}{l:List α}(h:∀a∈l,p a=false):l.any p=false:=Xap.2 fun a A=>by grind
def F0(x:Instance)(set:Int)(hx:x.orders.length<=60)(ha:x.apart.length<=1048576)(hb:x.before.length<=1048576):PC prog 141 [.agg (aE x),int set] (int (yU x set)):=by
 refine pcd func141 rfl rfl ?_;simp only[go_sem];have O:yU x set=(if set<0 then 2
  else if((eY set).any fun a=>decide (a>=(x.orders.length:Int)))=true then 2
  else if((eY set).any (Sh x))=true then 9
  else if(x.apart.any fun q=>cR set q.a&&cR set q.b)=true then 20
  else if(x.before.any fun q=>cR set q.b&& !cR set q.a)=true then 21
  else if((eY set).any fun a=>cR (((uZ x.orders.length x.before).getD a.toNat 0:Nat):Int) a)=true then 21
  else 0):=rfl
 generalize yU x set=RP at *;apply aA <;> intro T
 ·rw[if_pos (of_decide_eq_true T)]at O;simp only[go_sem];rw[O];exact .refl _
 rw[if_neg (of_decide_eq_false T)]at O;simp only[go_sem];refine aO (lL set) ?_;have a6:=ajV set;have ay:=fun a=>@amS set a
 generalize eY set=S at *;simp only[go_sem,Xaa];refine⟨fun ρ H=>∃(k:Nat),k<=S.length/\ρ 1=int set/\ρ 2=.rp (aE x) 0/\ρ 5=.sl (S.map aQ)/\ρ 21=.sl (S.map aQ)/\ρ 22=int (S.length:Nat)/\ρ 23=int k/\(∀a∈S.take k,a<(x.orders.length:Int)),fun ρ _=>S.length-aU (ρ 23),⟨0,Xab _,rfl,rfl,rfl,rfl,rfl,(by rfl),by simp⟩,?_⟩;rintro ρ H ⟨k,hk,X,U,Y,ar,aw,ao,hz⟩;simp only[go_sem,aw,ao];refine aA (fun E=>?_) (fun J=>?_)
 ·have E:=ltB (by omega);obtain⟨a,F⟩:=aI E;have b1:=inB E;simp only[go_sem,U,ar,ao,aC F,b1,Xaa];apply aA <;> intro T
  ·rw[if_pos (Ff F T)]at O;simp only[go_sem];rw[O];exact .refl _
  ·have T:¬a>=(x.orders.length:Int):=of_decide_eq_false T;simp only[go_sem,X,U,Y,ar,aw,ao,aW k];exact⟨⟨k+1,E,rfl,aR (p:=fun a:Int=>a<(x.orders.length:Int)) F (by omega) hz⟩,msr E⟩
 have J:=geB hk (by omega);subst J;rw[Xad]at hz;rw[if_neg (by grind)]at O;simp only[go_sem,Y,Xaa];refine⟨fun ρ H=>∃(k:Nat),k<=S.length/\ρ 1=int set/\ρ 2=.rp (aE x) 0/\ρ 5=.sl (S.map aQ)/\ρ 33=.sl (S.map aQ)/\ρ 34=int (S.length:Nat)/\ρ 35=int k/\(∀a∈S.take k,Sh x a=false),fun ρ _=>S.length-aU (ρ 35),⟨0,Xab _,by simp only[go_sem,X,],by simp only[go_sem,U,],by simp only[go_sem,Y,],by rfl,by rfl,(by rfl),by simp⟩,?_⟩;rintro ρ H ⟨k,hk,X,U,Y,av,az,ag,hy⟩;simp only[go_sem,az,ag];refine aA (fun E=>?_) (fun J=>?_)
 ·have E:=ltB (by omega);obtain⟨a,F⟩:=aI E;have b1:=inB E;obtain⟨A,rfl⟩:=ay a (Xac F);have hA:=hz _ (Xac F);have ab:A<x.orders.length:=by omega
  obtain⟨o,ho⟩:=aI ab;have b2:=inB ab;have af:Sh x (A:Int)=o.off:=by grind[Sh]
  simp only[go_sem,U,av,ag,aC F,b1,aC ho,b2];apply aA <;> intro T
  ·rw[if_pos (Ff (p:=Sh x) F (af.trans T))]at O;simp only[go_sem];rw[O];exact .refl _
  ·simp only[go_sem,X,U,Y,av,az,ag,aW k];exact⟨⟨k+1,E,rfl,aR (p:=fun a=>Sh x a=false) F (af.trans T) hy⟩,msr E⟩
 have J:=geB hk (by omega);subst J;rw[Xad]at hy;rw[if_neg (by grind)]at O;simp only[go_sem,U,Xaa];refine⟨fun ρ H=>∃(k:Nat),k<=x.apart.length/\ρ 1=int set/\ρ 2=.rp (aE x) 0/\ρ 5=.sl (S.map aQ)/\ρ 47=.sl (x.apart.map cZ)/\ρ 48=int (x.apart.length:Nat)/\ρ 49=int k/\(∀q∈x.apart.take k,(cR set q.a&&cR set q.b)=false),fun ρ _=>x.apart.length-aU (ρ 49),⟨0,Xab _,by simp only[go_sem,X,],by simp only[go_sem,U,],by simp only[go_sem,Y,],by rfl,by rfl,(by rfl),by simp⟩,?_⟩;rintro ρ H ⟨k,hk,X,U,Y,al,ah,ac,hv⟩;simp only[go_sem,ah,ac];refine aA (fun E=>?_) (fun J=>?_)
 ·have E:=ltB (by omega);obtain⟨q,hq⟩:=aI E;have b1:=inB E;simp only[go_sem,al,ac,aC hq,b1];refine aJ fun i11 Z=>?_
  simp only[go_sem,X,U,Y,al,ah,ac];refine bP Z (by simp[nU]) fun am (ax:am i11=some (⟨92,2,[cZ q]⟩)) N=>?_
  clear N Z;simp only[go_sem,X,ax];refine⟨by decide,PC.use (yH set q.a) ?_⟩;simp only[go_sem,X,ax];refine⟨fun _=>by decide,_,fun _=>(yH set q.b).q rfl,?_⟩;simp only[go_sem];apply aA <;> intro T
  ·rw[if_pos (Ff (p:=fun q:Pair=>cR set q.a&&cR set q.b) hq T)]at O;simp only[go_sem];rw[O];exact .refl _
  ·simp only[go_sem,X,U,Y,al,ah,ac,aW k];exact⟨⟨k+1,E,rfl,aR (p:=fun q:Pair=>(cR set q.a&&cR set q.b)=false) hq T hv⟩,msr E⟩
 have J:=geB hk (by omega);subst J;rw[Xad]at hv;rw[if_neg (by grind)]at O;simp only[go_sem,U,Xaa];refine⟨fun ρ H=>∃(k:Nat),k<=x.before.length/\ρ 1=int set/\ρ 2=.rp (aE x) 0/\ρ 5=.sl (S.map aQ)/\ρ 65=.sl (x.before.map cZ)/\ρ 66=int (x.before.length:Nat)/\ρ 67=int k/\(∀q∈x.before.take k,(cR set q.b&& !cR set q.a)=false),fun ρ _=>x.before.length-aU (ρ 67),⟨0,Xab _,by simp only[go_sem,X,],by simp only[go_sem,U,],by simp only[go_sem,Y,],by rfl,by rfl,(by rfl),by simp⟩,?_⟩;rintro ρ H ⟨k,hk,X,U,Y,ai,aj,ae,hw⟩;simp only[go_sem,aj,ae];refine aA (fun E=>?_) (fun J=>?_)
 ·have E:=ltB (by omega);obtain⟨q,hq⟩:=aI E;have b1:=inB E;simp only[go_sem,ai,ae,aC hq,b1];refine aJ fun a5 aa=>?_
  simp only[go_sem,X,U,Y,ai,aj,ae];refine bP aa (by simp[nU]) fun ak (ap:ak a5=some (⟨92,2,[cZ q]⟩)) N=>?_
  clear N aa;simp only[go_sem,X,ap];refine⟨by decide,PC.use (yH set q.b) ?_⟩;simp only[go_sem,X,ap];refine⟨fun _=>by decide,_,fun _=>(yH set q.a).q rfl,?_⟩;simp only[go_sem];apply aA <;> intro T
  ·rw[if_pos (Ff (p:=fun q:Pair=>cR set q.b&& !cR set q.a) hq T)]at O;simp only[go_sem];rw[O];exact .refl _
  ·simp only[go_sem,X,U,Y,ai,aj,ae,aW k];exact⟨⟨k+1,E,rfl,aR (p:=fun q:Pair=>(cR set q.b&& !cR set q.a)=false) hq T hw⟩,msr E⟩
 have J:=geB hk (by omega);subst J;rw[Xad]at hw;rw[if_neg (by grind)]at O;simp only[go_sem,U,Xaa];have hL:=Ii x.orders.length x.before;refine aO (aoU x.orders.length x.before hx hb) ?_;generalize uZ x.orders.length x.before=CH at *;simp only[go_sem,Y,Xaa];refine⟨fun ρ H=>∃(k:Nat),k<=S.length/\ρ 14=.sl (CH.map fun n:Nat=>[int (n:Nat)])/\ρ 89=.sl (S.map aQ)/\ρ 90=int (S.length:Nat)/\ρ 91=int k/\(∀a∈S.take k,cR ((CH.getD a.toNat 0:Nat):Int) a=false),fun ρ _=>S.length-aU (ρ 91),⟨0,Xab _,by rfl,by rfl,by rfl,(by rfl),by simp⟩,?_⟩;rintro ρ H ⟨k,hk,a4,a0,aq,an,hu⟩;simp only[go_sem,aq,an];refine aA (fun E=>?_) (fun J=>?_)
 ·have E:=ltB (by omega);obtain⟨a,F⟩:=aI E;have b1:=inB E;obtain⟨A,rfl⟩:=ay a (Xac F);have hA:=hz _ (Xac F);have ab:A<CH.length:=by omega
  obtain⟨o,ho⟩:=aI ab;have b2:=inB ab;have au:cR ((CH.getD ((A:Int)).toNat 0:Nat):Int) (A:Int)=cR (o:Nat) (A:Nat):=by grind
  have g1:=aC (f:=fun n:Nat=>[int (n:Nat)]) ho;simp only[go_sem,a4,a0,an,aC F,b1,g1,b2];refine aO (yH (o:Nat) (A:Nat)) ?_;simp only[go_sem];apply aA <;> intro T
  ·rw[if_pos (Ff (p:=fun a=>cR ((CH.getD a.toNat 0:Nat):Int) a) F (au.trans T))]at O;simp only[go_sem];rw[O];exact .refl _
  ·simp only[go_sem,a4,a0,aq,an,aW k];exact⟨⟨k+1,E,rfl,aR (p:=fun a=>cR ((CH.getD a.toNat 0:Nat):Int) a=false) F (au.trans T) hu⟩,msr E⟩
 have J:=geB hk (by omega);subst J;rw[Xad]at hu;rw[if_neg (by grind)]at O;simp only[go_sem];rw[O];exact .refl _
end Sq
namespace Nu.Ps
open Go.Aw Go.Aw.D Go.Proofs Ty Go.Nu Go.So
structure Priced where
 column:Column
 reduced:ByteArray
abbrev O5(gf:Nat):AV:=.v (.func (.func gf) #[] #[])
abbrev TB:=Priced×Nat
def fs(L:List TB):List Priced:=L.map Prod.fst
end Nu.Ps
namespace Nu.Ps
open Go.Aw Go.Aw.D Go.Proofs Ty Go.Nu Go.So
section
variable{gf:Nat}{lt:Priced->Priced->Bool}{ok:Priced->Prop}
end
end Nu.Ps
namespace Nu.Ps
open Go.Aw Go.Aw.D Go.Proofs Ty Go.Nu Go.So
section
variable{gf:Nat}{lt:Priced->Priced->Bool}{ok:Priced->Prop}
end
end Nu.Ps
namespace Nu.Ps
open Go.Aw Go.Aw.D Go.Proofs Go.Nu Go.So
end Nu.Ps
namespace Ve
open Go.Proofs.Tryz
open Go.Aw Go.Aw.D Go.Proofs Ty Go.Ve Dec
open Go.Proofs.YthephioccidfgaaGreatDoor.Nu
abbrev YE(l:List Int):Row:=⟨3,1,l.map aQ⟩
abbrev tY(l:List TNode):Bool:=nC TNode.leaf TNode.yes TNode.no l
abbrev DJ(l:List TNode)(k:Int):Nat:=cnt TNode.leaf TNode.yes TNode.no l k
abbrev aA5(a:TNode):List Int:=qQ TNode.leaf TNode.yes TNode.no a
abbrev BIn(l:List TNode)(V q:List Nat):Prop:=BInv TNode.leaf TNode.yes TNode.no TNode.choice oV l V q
abbrev F7(l:List TNode)(k:Nat)(d:List Decision):Prop:=WayT TNode.leaf TNode.yes TNode.no TNode.choice oV l k d
def rX(l:List TNode):Prop:=1<=l.length/\l.length<=1024/\tY l=true/\qX TNode.leaf TNode.yes TNode.no l=true/\∀k,k<l.length->∃d,F7 l k d
def kL(n:Nat)(l:List TNode):List Int:=(List.range n).map fun i:Nat=>(DJ l (i:Int):Int)
def Co(L:List Int)(v:Int):List Int:=L.set v.toNat (L.getD v.toNat 0+1)
def zZ(n:Nat)(l:List TNode):(kL n l).length=n:=by simp[kL]
def Us(l:List TNode)(a:TNode)(k:Int):DJ (l++[a]) k=DJ l k+(aA5 a).count k:=by unfold DJ cnt;rw[List.flatMap_append,List.count_append];simp
def UW{n:Nat}{l:List TNode}{a:TNode}(h:a.leaf=true):kL n (l++[a])=kL n l:=by
 unfold kL;refine List.map_congr_left fun i _=>?_
 rw[Us];simp[qQ,h]
def RF{n:Nat}{l:List TNode}{a:TNode}(h:a.leaf=false)(Y:inT n a.yes=true)(X:inT n a.no=true):kL n (l++[a])=Co (Co (kL n l) a.yes) a.no:=by
 simp only[inT,Xah,decide_eq_true_eq]at Y X;obtain⟨y,E⟩:=Int.eq_ofNat_of_zero_le Y.1;obtain⟨m,A⟩:=Int.eq_ofNat_of_zero_le X.1;unfold Co;rw[E,A];refine List.ext_getElem? fun i=>?_
 have U:(kL n l).length=n:=zZ n l;simp only[Xao];by_cases F:i<n
 ·have T:(kL n (l++[a]))[i]?=some (DJ (l++[a]) (i:Int):Int):=by simp[kL,F]
  have O:(kL n l)[i]?=some (DJ l (i:Int):Int):=by simp[kL,F]
  have e3:(kL n l)[y]?=some (DJ l (y:Int):Int):=by unfold kL;rw[List.getElem?_map,List.getElem?_range (by omega)];rfl
  have Z:(kL n l)[m]?=some (DJ l (m:Int):Int):=by unfold kL;rw[List.getElem?_map,List.getElem?_range (by omega)];rfl
  rw[T,Us];simp only[qQ,h,Xbi,if_false,E,A,List.count_cons,List.count_nil,List.getD,List.getElem?_set,Xbm,U];by_cases h1:m=i <;> by_cases J:y=i
  ·subst h1;subst J;simp[O,F];omega
  ·subst h1;simp[O,F,J,show ¬((y:Int)=(m:Int))by omega]
  ·subst J;simp[O,F,h1,show ¬((m:Int)=(y:Int))by omega]
  ·simp[O,h1,J,show ¬((m:Int)=(i:Int))by omega,show ¬((y:Int)=(i:Int))by omega]
 ·have T:(kL n (l++[a]))[i]?=none:=List.getElem?_eq_none (by rw[zZ];omega);rw[T,List.getElem?_eq_none];simp only[Xbm,U];omega
def adH{l:List TNode}{k:Nat}{a:TNode}(A:l[k]?=some a)(E:a.leaf=false)(h:inT l.length a.yes=false\/inT l.length a.no=false):¬rX l:=fun F=>by have:=F.2.2.1;unfold tY nC at this;rw[Xaj]at this;have:=this a (Xac A);rcases h with h|h <;> simp[E,h]at this
def Zc{n:Nat}{v:Int}(h:(decide (v<0)||decide (v>=(n:Int)))=true):inT n v=false:=by simp only[Xax,decide_eq_true_eq]at h;simp only[inT,Bool.and_eq_false_iff,decide_eq_false_iff_not];omega
def ayW{n:Nat}{v:Int}(h:(decide (v<0)||decide (v>=(n:Int)))=false):inT n v=true:=by simp only[Xam,decide_eq_false_iff_not]at h;simp only[inT,Xah,decide_eq_true_eq];omega
def ajT{l:List TNode}(k:Int):DJ l k<=2*l.length:=by
 induction l with
 | nil=>simp[cnt]
 | cons a r ih=>unfold DJ cnt at ih |-;rw[List.flatMap_cons,List.count_append,Xag];have:(qQ TNode.leaf TNode.yes TNode.no a).count k<=2:=Xal List.count_le_length (by unfold qQ;split <;> simp);omega
def okN(l:List TNode)(a:TNode):Bool:=a.leaf||(inT l.length a.yes&&inT l.length a.no)
def acX{H:aG}{j:Nat}(l:List TNode):aH H j (some ⟨3,1,List.replicate l.length [int 0]⟩) j=some (YE (kL l.length (l.take 0))):=by
 rw[aB];have:kL l.length (l.take 0)=List.replicate l.length 0:=by unfold kL;rw[List.eq_replicate_iff];simp[cnt]
 rw[this];simp[aQ]
def adS(L:List Int)(v:Int):(Co L v).length=L.length:=Xbm
def acN{L:List Int}{v:Int}{B:Nat}(h:∀u∈L,0<=u/\u<=(B:Nat)):∀u∈Co L v,0<=u/\u<=((B+1:Nat):Int):=fun u A=>by
 unfold Co at A;rcases List.mem_or_eq_of_mem_set A with A|rfl
 ·have:=h u A;omega
 ·by_cases E:v.toNat<L.length
  ·have:=h (L.getD v.toNat 0) (by rw[List.getD,List.getElem?_eq_getElem E];exact List.getElem_mem E);omega
  ·rw[List.getD,List.getElem?_eq_none (by omega)];simp;omega
def MU(n:Nat)(l:List TNode):∀u∈kL n l,0<=u/\u<=((2*l.length:Nat):Int):=fun u A=>by unfold kL at A;obtain⟨i,_,rfl⟩:=Xan.1 A;have:=ajT (l:=l) (i:Int);omega
def NL(e:TypeId×Nat×Nat)(d:Option Tmp)(j a b:Nat)(x:AV)(ρ:Env)(H:aG)(K:Env->aG->Prop):Prop:=match H j with
 | some r => yE H x fun news => (r.e = e.1 /\ r.sz = e.2.1 /\ news ≠ [] /\ cQ e.2.1 news /\ b = r.es.length /\ (r.es.length + news.length) * e.2.2 <= 140737488355328) /\
       ∀(k':Nat) (pre:List (List AV)),pre.length<=a->H k'=none->K (upd ρ d (.oz k' pre.length (pre.length+(b-a)+news.length))) (aH (aH H j none) k' (some ⟨e.1,e.2.1,pre++(r.es.drop a++news)⟩))
 | none=>False
def Y0{P:Program}{d:Option Tmp}{t:TypeId}{j a b:Nat}{x:AV}{ρ:Env}{H:aG}{K:Env->aG->Prop}:KX P d t (.oz j a b) x ρ H K=bV (cA P t) (fun e=>NL e d j a b x ρ H K):=by
 unfold KX uV NL;cases cA P t with
 | none=>rfl
 | some e=>obtain⟨a,b,c⟩:=e;rfl
@[congr] theorem wappZ_c {e d j a b x x' ρ H K} (h':x=x'):NL e d j a b x ρ H K=NL e d j a b x' ρ H K:=h'▸rfl
def IV{e:TypeId×Nat×Nat}{d:Option Tmp}{j a b:Nat}{news:List (List AV)}{ρ:Env}{H:aG}{K:Env->aG->Prop}{r:Row}(J:H j=some r)
  (h1:r.e=e.1/\r.sz=e.2.1) (h0:news≠[]) (E:cQ e.2.1 news) (F:b=r.es.length) (h3:(r.es.length+news.length)*e.2.2<=140737488355328)
  (h:∀(j':Nat) (A:List (List AV)),A.length<=a->H j'=none->K (upd ρ d (.oz j' A.length (A.length+(b-a)+news.length))) (aH (aH H j none) j' (some ⟨e.1,e.2.1,A++(r.es.drop a++news)⟩))):NL e d j a b (.sl news) ρ H K:=by
 unfold NL;simp only[J];exact⟨⟨h1.1,h1.2,h0,E,F,h3⟩,h⟩
attribute [go_sem ↓] Y0
attribute [go_sem] Y0
def aiO(x:AV)(H:aG):Nat:=match x with
 | .oz _ a b=>b-a
 | .os j=>match H j with
   | some r=>r.es.length
   | none=>0
 | _=>0
def zW{l:List TNode}(A:tY l=true){k:Nat}{a:TNode}(E:l[k]?=some a)(F:a.leaf=false):∃y n:Nat,a.yes=(y:Int)/\a.no=(n:Int):=by unfold tY nC at A;rw[Xaj]at A;have:=A a (Xac E);simp only[F,Xbt,Xah,inT,decide_eq_true_eq]at this;exact⟨a.yes.toNat,a.no.toNat,by omega,by omega⟩
def qE(q:List Nat):List (List AV):=q.map fun i:Nat=>[int (i:Nat)]
def iX(q:List Nat):(qE q).length=q.length:=by simp[qE]
def amA(l:List TNode)(b:Bool)(hb:b=true↔rX l)(hl:l.length<=1048576):PC prog 12 [.sl (l.map bR)] (boo b):=by
 refine pcb (fun t=>t == 78) func12 rfl rfl ?_;simp only[go_sem];refine aA (fun h0=>?_) (fun h0=>?_)
 ·simp only[go_sem];have:b=false:=by
   cases b
   ·rfl
   ·have:=hb.1 rfl;have h1:=this.1;have h2:=this.2.1;simp at h0;omega
  subst this;exact .refl _
 have a0:1<=l.length:=by simp at h0;omega
 have bb:l.length<=1024:=by simp at h0;omega
 simp only[go_sem];refine⟨by omega,aJ fun j hj=>?_⟩;simp only[go_sem];refine⟨fun ρ H=>∃(k:Nat) (j:Nat),k<=l.length/\ρ 0=.sl (l.map bR)/\ρ 24=.sl (l.map bR)/\ρ 25=int (l.length:Nat)/\ρ 26=int k/\ρ 3=.os j/\H j=some (YE (kL l.length (l.take k)))/\(∀a∈l.take k,okN l a=true),fun ρ _=>l.length-aU (ρ 26),⟨0,j,Xab _,by simp only[go_sem],by simp only[go_sem],by simp only[go_sem,Xaa],(by simp only[go_sem];rfl),by simp only[go_sem],acX l,by simp⟩,?_⟩;rintro ρ H ⟨k,j,hk,A,F,J,E,Z,R,hz⟩;simp only[go_sem,A,F,J,E,Z];refine aA (fun X=>?_) (fun ai=>?_)
 ·have X:=ltB (by simpa using X);obtain⟨a,ha⟩:=aI X;have b1:=inB X;have hs:=aZ ha;simp only[go_sem,A,F,J,E,Z,aC ha,b1];refine aJ fun i5 ax=>?_
  simp only[go_sem,A,F,J,E,Z,aC ha,b1,R];refine bP ax (by simp[jG]) fun ba (R5:ba i5=some (⟨54,10,[bR a]⟩)) N=>?_
  replace R:=N R;obtain⟨a8,R⟩:=R;clear N ax;simp only[go_sem,A,F,J,E,Z,aC ha,b1,R5,R];refine aA (fun hf=>?_) (fun hf=>?_)
  ·simp only[go_sem,A,F,J,E,Z,aW k];refine⟨⟨k+1,j,X,rfl,rfl,?_,aR ha (by unfold okN;rw[hf];rfl) hz⟩,msr X⟩;rw[hs,UW hf];exact R
  ·simp only[go_sem,A,F,J,E,Z,R5];have av:=MU l.length (l.take k);rw[show(l.take k).length=k by rw[Xav];omega]at av;have bj:=zZ l.length (l.take k);have bk:inT l.length a.yes=true->inT l.length a.no=true->kL l.length (l.take (k+1))=Co (Co (kL l.length (l.take k)) a.yes) a.no:=fun h1 h2=>by rw[hs];exact RF hf h1 h2
   generalize kL l.length (l.take k)=C at *;refine⟨fun ρ H=>∃(m:Nat) (L:List Int),m<=2/\ρ 0=.sl (l.map bR)/\ρ 3=.os j/\ρ 24=.sl (l.map bR)/\ρ 25=int l.length/\ρ 26=int k/\ρ 36=.agg [int a.yes,int a.no]/\ρ 37=int m/\H j=some (YE L)/\L=([a.yes,a.no].take m).foldl Co C/\(∀u∈L,0<=u/\u<=(2*k+m:Nat))/\L.length=l.length/\∀v∈[a.yes,a.no].take m,inT l.length v=true,fun ρ _=>2-aU (ρ 37),⟨0,C,by omega,by simp only[go_sem,A,F,J,E,Z],by simp only[go_sem,A,F,J,E,Z],by simp only[go_sem,A,F,J,E,Z],by simp only[go_sem,A,F,J,E,Z],by simp only[go_sem,A,F,J,E,Z],by simp only[go_sem,A,F,J,E,Z],(by simp only[go_sem,A,F,J,E,Z];rfl),R,rfl,av,bj,by simp⟩,?_⟩;clear A F J E Z R R5;rintro ρ H ⟨m,L,hm,A,Z,F,J,E,aw,au,R,hL,hB,bm,hv⟩;simp only[go_sem,A,Z,F,J,E,aw,au];refine aA (fun bq=>?_) (fun bp=>?_)
   ·have bd:m<2:=by simp at bq;omega
    obtain⟨v,hvm,hvi⟩:∃v,[a.yes,a.no][m]?=some v/\(v=a.yes\/v=a.no):=by
     obtain rfl|rfl:m=0\/m=1:=by omega
     ·exact⟨_,rfl,.inl rfl⟩
     ·exact⟨_,rfl,.inr rfl⟩
    have bo:[int a.yes,int a.no].getD m .any=int v:=by
     obtain rfl|rfl:m=0\/m=1:=by omega
     ·simp at hvm;subst hvm;rfl
     ·simp at hvm;subst hvm;rfl
    have bc:=aZ hvm;simp only[go_sem,A,Z,F,J,E,aw,au,Nat.mul_one,bo];refine⟨by omega,by first|omega|(simp;omega),aA (fun ap=>?_) (fun ap=>?_)⟩
    ·simp only[go_sem];have aq:¬rX l:=adH ha hf (by
      rcases hvi with rfl|rfl
      ·exact .inl (Zc ap)
      ·exact .inr (Zc ap))
     have:b=false:=by
      cases b
      ·rfl
      ·exact absurd (hb.1 rfl) aq
     subst this;exact .refl _
    ·have bg:=ayW ap;simp only[Xam,decide_eq_false_iff_not]at ap;obtain⟨u,hu⟩:=aI (show v.toNat<L.length by omega);have bv:=hB u (Xac hu);simp only[go_sem,A,Z,F,J,E,aw,au,R,aC hu,Xaa];refine⟨⟨by omega,by omega⟩,by omega,⟨by omega,by omega⟩,?_⟩;refine cC so3 R (by simp;omega) ?_;simp only[go_sem,A,Z,F,J,E,aw,au,aW m];rw[bD (by omega)];refine⟨⟨m+1,Co L v,by omega,rfl,?_,?_,acN (B:=2*k+m) hB,by rw[adS,bm],?_⟩,by simp only[aN];omega⟩
     ·simp[Co,List.getD,hu,List.map_set,aQ]
     ·rw[bc,Xbq,<-hL];rfl
     ·rw[bc];intro w hw;rcases Xat.1 hw with hw|hw
      ·exact hv w hw
      ·rw[Xbs.1 hw];exact bg
   ·have bd:m=2:=by simp at bp;omega
    subst bd;have hy:=hv a.yes (by simp);have hn:=hv a.no (by simp);simp only[go_sem,A,Z,F,J,E,aW k];refine⟨⟨k+1,j,X,rfl,rfl,?_,aR ha (by unfold okN;rw[hy,hn];simp) hz⟩,msr X⟩;rw[bk hy hn,R,hL];rfl
 have ai:=geB hk (by simpa using ai);subst ai;rw[Xad]at R hz;have T:tY l=true:=by unfold tY nC;rw[Xaj];exact hz
 have av:=MU l.length l;have ao:=zZ l.length l;have be:∀i u,(kL l.length l)[i]?=some u->i<l.length/\u=(DJ l (i:Int):Int):=fun i u hu=>by
  have hi:i<l.length:=by have:=(List.getElem?_eq_some_iff.1 hu).1;rw[zZ]at this;exact this
  unfold kL at hu;rw[List.getElem?_map,List.getElem?_range hi]at hu;injection hu with hu;exact⟨hi,hu.symm⟩
 generalize kL l.length l=C at *;simp only[go_sem,A,F,J,E,Z,R];refine⟨fun ρ H=>∃(k:Nat),k<=l.length/\ρ 0=.sl (l.map bR)/\ρ 56=.os j/\ρ 57=int (l.length:Nat)/\ρ 58=int k/\H j=some (YE C)/\(∀i,i<k->(if i=0 then DJ l 0 == 0 else DJ l i == 1)=true),fun ρ _=>l.length-aU (ρ 58),⟨0,Xab _,by simp only[go_sem,A,R,ao],by simp only[go_sem,A,R,ao],by simp only[go_sem,Xaa,A,R,ao],(by simp only[go_sem,A,R,ao];rfl),R,(fun i hi=>absurd hi (Nat.not_lt_zero i))⟩,?_⟩;rintro ρ H ⟨k,hk,A,ac,ab,aa,R,hq⟩;simp only[go_sem,A,ac,ab,aa,R];refine aA (fun X=>?_) (fun ai=>?_)
 ·have X:=ltB (by simpa using X);obtain⟨c,hc⟩:=aI (show k<C.length by omega);have b1:=inB (show k<C.length by omega);obtain⟨_,br⟩:=be k c hc;have bt:=ajT (l:=l) (k:Int);simp only[go_sem,A,ac,ab,aa,R,aC hc,b1,Xaa];have a9:(if k=0 then DJ l 0 == 0 else DJ l k == 1)= !((k:Int) == 0&&c != 0||decide ((k:Int)>0)&&c != 1):=by
   subst br;by_cases h:k=0
   ·subst h;exact Xar.2 (by simp)
   ·rw[if_neg h];exact Xar.2 (by simp[h];omega)
  refine⟨by omega,aA (fun aq=>?_) (fun bi=>?_)⟩
  ·simp only[go_sem];have:b=false:=by
    cases b
    ·rfl
    ·have:=(hb.1 rfl).2.2.2.1;unfold qX at this;rw[Xaj]at this;have:=this k (Xai.2 X);rw[a9,aq]at this;cases this
   subst this;exact .refl _
  ·simp only[go_sem,A,ac,ab,aa,aW k];refine⟨⟨k+1,X,rfl,R,fun i hi=>?_⟩,msr X⟩;rcases Xcb i k with h|h
   ·exact hq i h
   ·obtain rfl:i=k:=by omega
    rw[a9,bi];rfl
 have ai:=geB hk (by simpa using ai);subst ai;have aj:qX TNode.leaf TNode.yes TNode.no l=true:=by unfold qX;rw[Xaj];exact fun i hi=>hq i (Xai.1 hi)
 have bh:l≠[]:=by rintro rfl;simp at a0
 clear hq R av ao be;simp only[go_sem,A,ac,ab,aa];refine aJ fun i11 a7=>?_
 simp only[go_sem,A,ac,ab,aa];refine⟨fun ρ H=>∃(V q:List Nat) (j:Nat) (af:List (List AV)),BIn l V q/\ρ 0=.sl (l.map bR)/\ρ 10=int ((V++q).length:Nat)/\((ρ 11=.os j/\af=[])\/ρ 11=.oz j af.length (af.length+q.length))/\af.length<=V.length/\H j=some ⟨3,1,af++qE q⟩,fun ρ H=>l.length+aiO (ρ 11) H-aU (ρ 10),⟨[],[0],i11,[],BInv.start bh,by simp only[go_sem,A,ac,ab,aa],(by simp only[go_sem,A,ac,ab,aa];rfl),.inl ⟨by simp only[go_sem,A,ac,ab,aa],rfl⟩,Xab _,aB _ _ _⟩,?_⟩;clear A ac ab aa a7;rintro ρ H ⟨V,q,j,af,hB,A,U,O,bu,R⟩;have an:=hB.len;rw[Xaf]at an;have R0:=R;rcases O with⟨O,rfl⟩|O
 ·rw[Xbn]at R R0;simp only[go_sem,A,U,O,R,iX];refine aA (fun a6=>?_) (fun az=>?_)
  ·cases q with
   | nil=>simp at a6
   | cons k q=>
    have am:=hB.lt k (by simp);obtain⟨a,ha⟩:=aI am;have b1:=inB am;simp only[Xag]at an;simp only[go_sem,A,U,O,R,qE,Xaq,Xag,List.getD_cons_zero,aC ha,b1];refine⟨by omega,by omega,?_⟩;refine aJ fun a5 Y=>?_
    simp only[go_sem,A,U,O,R];refine bP Y (by simp[jG]) fun ah (ar:ah a5=some (⟨54,10,[bR a]⟩)) N=>?_
    replace R:=N R;obtain⟨ak,R⟩:=R;clear N Y;simp only[go_sem,A,U,O,ar,R];refine⟨by simp[iX] <;> omega,aA (fun hf=>?_) (fun hf=>?_)⟩
    ·have ae:a.leaf=false:=by simpa using hf
     obtain⟨y,n,hy,hn⟩:=zW T ha ae;simp only[go_sem,A,U,O,R,ar];refine IV R ⟨rfl,rfl⟩ (by simp) ⟨rfl,rfl,trivial⟩ (by simp[iX]) (by simp[iX];omega) (fun j' al ay bn=>?_);simp only[go_sem,A,U,O];rw[bD (by simp;omega)];refine⟨⟨V++[k],q++[y,n],j',al,hB.innerStep aj T ha ae hy hn,?_,.inr ?_,?_,?_⟩,?_⟩
     ·simp <;> omega
     ·simp[iX] <;> omega
     ·simp at ay |-;omega
     ·simp[aB,qE,hy,hn]
     ·simp[aiO,aU,R0,iX] <;> omega
    ·have ae:a.leaf=true:=by simpa using hf
     simp only[go_sem,A,U,O];refine⟨⟨V++[k],q,j,[[int (k:Nat)]],hB.leafStep ha ae,?_,.inr ?_,?_,?_⟩,?_⟩
     ·simp <;> omega
     ·simp[iX] <;> omega
     ·simp <;> omega
     ·rw[R];simp[qE]
     ·simp[aiO,aU,R0,iX] <;> omega
  ·have a4 : q = [] := by
    cases q with
    | nil=>rfl
    | cons k q=>simp at az
   subst a4;have ag:=hB.full;simp only[go_sem,A,U,O];refine cL ?_;refine Xar.2 (Iff.trans ?_ hb.symm);simp only[Xay,Int.ofNat_inj];rw[ag];exact⟨fun h=>⟨a0,bb,T,aj,h⟩,fun h=>h.2.2.2.2⟩
 ·simp only[go_sem,A,U,O,R,iX,Nat.add_sub_cancel_left];refine aA (fun a6=>?_) (fun az=>?_)
  ·cases q with
   | nil=>simp at a6
   | cons k q=>
    have am:=hB.lt k (by simp);obtain⟨a,ha⟩:=aI am;have b1:=inB am;simp only[Xag]at an;have bf:(af++qE (k::q)).getD af.length []=[int (k:Nat)]:=by simp[qE]
    simp only[go_sem,A,U,O,R,Xaf,iX,Xag,Nat.add_sub_cancel_left,Nat.add_zero,bf,aC ha,b1];refine⟨by omega,by omega,?_⟩;refine aJ fun a5 Y=>?_
    simp only[go_sem,A,U,O,R];refine bP Y (by simp[jG]) fun ah (ar:ah a5=some (⟨54,10,[bR a]⟩)) N=>?_
    replace R:=N R;obtain⟨ak,R⟩:=R;clear N Y;simp only[go_sem,A,U,O,ar,R];simp only[Nat.add_sub_cancel_left];refine⟨by omega,aA (fun hf=>?_) (fun hf=>?_)⟩
    ·have ae:a.leaf=false:=by simpa using hf
     obtain⟨y,n,hy,hn⟩:=zW T ha ae;simp only[go_sem,A,U,O,R,ar];refine IV R ⟨rfl,rfl⟩ (by simp) ⟨rfl,rfl,trivial⟩ (by simp[iX]) (by simp[iX];omega) (fun j' al ay bn=>?_);simp only[go_sem,A,U,O];rw[bD (by simp;omega)];refine⟨⟨V++[k],q++[y,n],j',al,hB.innerStep aj T ha ae hy hn,?_,.inr ?_,?_,?_⟩,?_⟩
     ·simp <;> omega
     ·simp[iX] <;> omega
     ·simp at ay |-;omega
     ·simp[aB,qE,hy,hn]
     ·simp[aiO,aU,R0,iX] <;> omega
    ·have ae:a.leaf=true:=by simpa using hf
     simp only[go_sem,A,U,O];refine⟨⟨V++[k],q,j,af++[[int (k:Nat)]],hB.leafStep ha ae,?_,.inr ?_,?_,?_⟩,?_⟩
     ·simp <;> omega
     ·simp[iX] <;> omega
     ·simp <;> omega
     ·rw[R];simp[qE]
     ·simp[aiO,aU,R0,iX] <;> omega
  ·have a4 : q = [] := by
    cases q with
    | nil=>rfl
    | cons k q=>simp at az
   subst a4;have ag:=hB.full;simp only[go_sem,A,U,O];refine cL ?_;refine Xar.2 (Iff.trans ?_ hb.symm);simp only[Xay,Int.ofNat_inj];rw[ag];exact⟨fun h=>⟨a0,bb,T,aj,h⟩,fun h=>h.2.2.2.2⟩
end Ve
end Go.Proofs.YthephioccidfgaaGreatDoor
section
namespace Go.Aw
open Go.RowKit
def Qx(r:Row):Bool:=r.es.flatten.all fun x=>(fv x).isSome
def L6{S J:Sg}{w E:World}:∀(l:List AV) (xs:List Value),(l.all fun x=>(fv x).isSome)=true->bJ S w l xs->bJ J E l xs
 | [],_,_,h=>h
 | x::r,xs,hf,h=>by simp only[List.all_cons,Bool.and_eq_true]at hf;simp only[bJ]at h |-;obtain⟨u,t,rfl,h1,F⟩:=h;obtain⟨v,A⟩:=Option.isSome_iff_exists.1 hf.1;have:=Qa A h1;subst this;exact⟨u,t,rfl,Vr A h1,L6 r t hf.2 F⟩
def NC.lent{P:Program}{f:FuncId}{args args':List AV}{H:aG}{K:AV->aG->Prop}{row:Row}(hc:ConvL H args args')(h:NC P f args' row .os)(hf:Qx row=true)(hK:∀k,H k=none->K (.os k) (aH H k (some row))):bK P f args H K:=by
 intro S w vals E ha
 let S0:Sg:={ S.froze H with fz:=fun k=>k<w.heap.size }
 have ag:(S.froze H).le S0:=⟨fun _ h=>h,Nat.le_refl _,fun _ _=>rfl,fun _ _=>rfl⟩;have ap:St S0 w bY:=⟨fun k U=>by
  rcases U with U|⟨j,r,A,X⟩
  ·exact E.fz_lt k (E.ro_fz k U)
  ·exact(E.rows j r A).block_lt X,fun _ h=>h,fun k r U=>by simp[bY]at U,fun k r U=>by simp[bY]at U,fun k k' r r' U=>by simp[bY]at U,(E.tabs.keep (S.le_froze H) (gZ.refl S w)).keep ag (gZ.refl _ w)⟩
 refine(h S0 w vals ap (fun _ h=>h) (eG ag (gZ.refl _ w) _ _ (hc.rep E ha))).mono fun e w' ⟨v,x,H',S',he,⟨k,hx,U⟩,an,hv,X,hn⟩=>?_
 subst hx;have aq:S.N<=k:=by
  rcases Nat.lt_or_ge k S.N with ak|aj
  ·rw[hn k ak rfl]at U;cases U
  ·exact aj
 have ah:H k=none:=by
  cases hH:H k with
  | none=>rfl
  | some r=>have:=(E.rows k r hH).lt;omega
 have hR:=an.rows k row U;have ao:=hv;simp only[rep]at ao;obtain⟨_,rfl,a0,n0,c0,af⟩:=ao;obtain⟨xs,ho,hr,h1⟩:=hR.sl af
 let S'':Sg:={ S with N:=S'.N,loc:=S'.loc,sz:=S'.sz }
 have Y:S.le S'':=⟨fun _ h=>h,X.le.N,X.le.loc,X.le.sz⟩;have O:∀k,k<w.heap.size->w'.heap[k]?=w.heap[k]?:=X.same;have ab:gZ S w w':=fun j A=>O j (E.fz_lt j (E.ro_fz j A))
 have ai:∀g,blk (S'.loc k)=some g->w.heap.size<=g:=fun g T=>by
  rcases Nat.lt_or_ge g w.heap.size with ak|aj
  ·exact absurd (X.fz g ak) (an.free k row U g T)
  ·exact aj
 have F:∀j r,j≠k->aH H k (some row) j=some r->H j=some r:=fun j r A h=>by rwa [aD _ _ _ _ A]at h
 have ae:∀j r,H j=some r->S'.loc j=S.loc j:=fun j r A=>X.le.loc j (E.rows j r A).lt
 refine⟨_,.os k,aH H k (some row),S'',he,hK k ah,⟨E.ro_fz,fun j A=>Nat.lt_of_lt_of_le (E.fz_lt j A) X.size,?_,?_,?_,E.tabs.keep Y ab⟩,?_,⟨Y,fun _ h=>h,X.os,X.tape,X.output,X.size,fun j A=>O j (E.fz_lt j A),fun _ h=>.inl h⟩,fun j A h0=>?_⟩
 ·intro j r A;by_cases e:j=k
  ·subst e;rw[aB]at A;injection A with A;subst A;exact⟨hR.lt,hR.sz,hR.pos,hR.len,.inl ⟨xs,ho,L6 _ _ hf hr,h1⟩⟩
  ·have J:=F j r e A;exact(E.rows j r J).keep Y ab fun g T=>O g ((E.rows j r J).block_lt T)
 ·intro j r A g T;by_cases e:j=k
  ·subst e;intro h2;have:=ai g T;have:=E.fz_lt g h2;omega
  ·have J:=F j r e A;have e2:S''.loc j=S.loc j:=ae j r J;rw[e2]at T;exact E.free j r J g T
 ·intro j j' r r' A J am g ac aa;by_cases e:j=k
  ·subst e;have Z:=F j' r' (Ne.symm am) J;have e2:S''.loc j'=S.loc j':=ae j' r' Z;rw[e2]at aa;have:=ai g ac;have:=(E.rows j' r' Z).block_lt aa;omega
  ·have al:=F j r e A;have e1:S''.loc j=S.loc j:=ae j r al;rw[e1]at ac;by_cases e':j'=k
   ·subst e';have:=ai g aa;have:=(E.rows j r al).block_lt ac;omega
   ·have Z:=F j' r' e' J;have e2:S''.loc j'=S.loc j':=ae j' r' Z;rw[e2]at aa;exact E.disj j j' r r' al Z am g ac aa
 ·simp only[rep];exact⟨hR.lt,rfl,a0,n0,c0,af⟩
 ·rw[aD _ _ _ _ (by omega)];exact h0
def CR(p:Nat->Prop)(h:∃m,p m):∃m,p m/\∀A,p A->m<=A:=by
 obtain⟨m,F⟩:=h;induction m using Nat.strongRecOn with
 | ind m ih=>
  by_cases h:∃A,A<m/\p A
  ·obtain⟨A,h1,E⟩:=h;exact ih A h1 E
  ·exact⟨m,F,fun A E=>Nat.le_of_not_lt fun h1=>h ⟨A,h1,E⟩⟩
def We{W:(Ex->Env->aG->Prop)->Env->aG->Prop}{Q:Ex->Env->aG->Prop}{ρ:Env}{H:aG}(J:Nat->Env->aG->Prop)(m:Nat)(h0:J m ρ H)
  (h:∀m ρ H,J m ρ H->∀K:Env->aG->Prop,(∀F A H',F<m->J F A H'->K A H')->W (Ex.seq K Q) ρ H):SR W Q ρ H:=by
 classical
 let μ:Env->aG->Nat:=fun ρ H=>if h:∃m,J m ρ H then(CR _ h).choose else 0
 have E:∀ρ H m,J m ρ H->J (μ ρ H) ρ H/\μ ρ H<=m:=fun ρ H m hm=>by have O:∃m,J m ρ H:=⟨m,hm⟩;have e:μ ρ H=(CR _ O).choose:=dif_pos O;rw[e];exact⟨(CR _ O).choose_spec.1,(CR _ O).choose_spec.2 m hm⟩
 refine⟨fun ρ H=>∃m,J m ρ H,μ,⟨m,h0⟩,fun A H' ⟨F,T⟩=>?_⟩;exact h _ A H' (E A H' F T).1 _ fun Y X H2 U Z=>⟨⟨Y,Z⟩,Nat.lt_of_le_of_lt (E X H2 Y Z).2 U⟩
end Go.Aw
end
namespace Go.Proofs.YthephioccidfgaaGreatDoor
open Go.Aw Go.Aw.D Go.Proofs Ty
namespace Ve
open Go.Proofs.Tryz
open Go.Ve Dec
open Go.Proofs.YthephioccidfgaaGreatDoor.Nu
theorem xO:∀l:List Decision,cQ 4 (l.map aP)
 | []=>trivial
 | _::r=>⟨rfl,xO r⟩
abbrev gA(l:List Decision):Row:=⟨52,4,l.map aP⟩
def FD(l:List Decision)(T:l.length<=1048576):NC prog 36 [.sl (l.map aP)] (gA l) .os:=by
 refine ncb (fun t=>t == 2||t == 5) func36 rfl rfl ?_;simp only[go_sem];refine aJ fun j O=>?_
 have R:=aB bY j (some (gA []));generalize aH bY j _=H at R |-;simp only[go_sem];refine⟨fun E=>?_,?_⟩
 ·refine aA (fun _=>?_) (fun A=>by simp at A);simp only[go_sem];refine aJ fun i J=>?_
  simp only[go_sem];refine⟨i,rfl,?_⟩;rw[aB,Xbx.1 E];rfl
 ·refine aA (fun A=>by simp at A) (fun _=>?_);simp only[go_sem];refine aJ fun i J=>?_
  simp only[go_sem];refine bC (aB _ _ _) ⟨rfl,rfl⟩ (xO _) (by simp only[Xaa,List.length_nil];omega) (fun j' F=>?_);simp only[go_sem];refine⟨j',rfl,?_⟩;exact aB _ _ _
structure PathsOf(l:List TNode)(D:List (List Decision)):Prop where
 len:D.length=l.length
 way:∀k d,D[k]?=some d->F7 l k d
 short:∀d∈D,d.length<l.length
def Dl(d:List Decision):List AV:=[.sl (d.map aP)]
def ZY{l:List TNode}(A:tY l=true){k:Nat}{a:TNode}(E:l[k]?=some a)(F:a.leaf=false):(0<=a.yes/\a.yes<(l.length:Int))/\(0<=a.no/\a.no<(l.length:Int)):=by unfold tY nC at A;rw[Xaj]at A;have:=A a (Xac E);simpa only[F,Xbt,Xah,inT,decide_eq_true_eq]using this
def Br(H:aG)(x:AV)(d:List Decision):Prop:=x=.sl (d.map aP)\/∃i,x=.os i/\H i=some (gA d)
abbrev AQ(E:List AV):Row:=⟨63,1,E.map fun x=>[x]⟩
def tW(D:List (List Decision))(S:List Nat)(H:aG)(E:List AV):Prop:=∀k∈S,∀d,D[k]?=some d->∃x,E[k]?=some x/\Br H x d
def Br.keep{H H':aG}{x:AV}{d:List Decision}(h:Br H x d)(E:∀i d,H i=some (gA d)->H' i=some (gA d)):Br H' x d:=by
 rcases h with h|⟨i,h1,A⟩
 ·exact .inl h
 ·exact .inr ⟨i,h1,E i d A⟩
def mR{H:aG}{i j:Nat}{d:List Decision}{r:Row}(h:H i=some (gA d))(A:H j=some r)(E:r.e≠52):i≠j:=fun e=>by subst e;rw[h]at A;injection A with A;subst A;exact E rfl
def tW.keep{D:List (List Decision)}{S:List Nat}{H H':aG}{E:List AV}(h:tW D S H E)(U:Sup H H'):tW D S H' E:=fun k O d F=>by obtain⟨x,h1,A⟩:=h k O d F;exact⟨x,h1,A.keep fun i d J=>U i _ J⟩
def tW.keepD{D:List (List Decision)}{S:List Nat}{H H':aG}{E:List AV}(h:tW D S H E)(U:∀i d,H i=some (gA d)->H' i=some (gA d)):tW D S H' E:=fun k J d F=>by obtain⟨x,h1,A⟩:=h k J d F;exact⟨x,h1,A.keep U⟩
def Br.conv{H:aG}{x:AV}{d:List Decision}(h:Br H x d):ConvL H [x] [.sl (d.map aP)]:=by
 rcases h with rfl|⟨i,rfl,A⟩
 ·exact ConvL.refl _
 ·exact .cons _ _ _ _ (.row _ _ _ A (ConvE.refl _)) .nil
def PV{E:List AV}{i y:Nat}{x:AV}(h:i=y):({ AQ E with es:=(E.map fun x=>[x]).set i (x::List.drop 1 ((E.map fun x=>[x]).getD i [])) }:Row)=AQ (E.set y x):=by
 subst h;unfold AQ;by_cases A:i<E.length
 ·simp[List.map_set,List.getD,A]
 ·rw[List.set_eq_of_length_le (by simp;omega),List.set_eq_of_length_le (by omega)]
def arU{F:aG}{O E A:Nat}{Z T r2:Row}(Q3:F O=some Z)(X:F E=none)(J:aH F E (some T) A=none):
  aH (aH (aH F E (some T)) E none) A (some r2) O=some Z/\aH (aH (aH F E (some T)) E none) A (some r2) A=some r2/\A≠O/\∀i r,F i=some r->aH (aH (aH F E (some T)) E none) A (some r2) i=some r:=by
 have h:∀i r,F i=some r->i≠E/\i≠A:=fun i r Y=>by
  have U:i≠E:=fun e=>by subst e;rw[Y]at X;cases X
  refine⟨U,fun e=>?_⟩;subst e;rw[aD _ _ _ _ U,Y]at J;cases J
 have h2:∀i r,F i=some r->aH (aH (aH F E (some T)) E none) A (some r2) i=some r:=fun i r Y=>by obtain⟨U,e2⟩:=h i r Y;rw[aD _ _ _ _ e2,aD _ _ _ _ U,aD _ _ _ _ U,Y]
 exact⟨h2 O Z Q3,aB _ _ _,(h O Z Q3).2.symm,h2⟩
def asY{H Hr T O:aG}{E J A:Nat}{F r2:Row}(hr:∀k,k∉[E]->Hr k=H k)(GU:∀i r,Hr i=some r->T i=some r)(X:T A=some r2)(Y:A≠J)(n6:J≠E)
  (h0:∀k,k∈[E]->aH T J (some F) k=none) (h1:∀k,k∈[E]->O k=H k) (U:∀k,k∉[E]->O k=aH T J (some F) k):
  O J=some F/\O A=some r2/\∀i r,H i=some r->i≠J->O i=some r:=by
 have e6:=h0 E (by simp);rw[aD _ _ _ _ n6.symm]at e6;have n7:A≠E:=fun e=>by subst e;rw[e6]at X;cases X
 refine⟨by rw[U J (by simpa using n6),aB],by rw[U A (by simpa using n7),aD _ _ _ _ Y,X],fun i r hi Z=>?_⟩;by_cases e:i=E
 ·subst e;rw[h1 i (by simp),hi]
 ·rw[U i (by simpa using e),aD _ _ _ _ Z];exact GU i r ((hr i (by simpa using e)).trans hi)
def FH(d:List Decision):Qx (gA d)=true:=by unfold Qx;rw[Xaj];intro x A;obtain⟨l,E,A⟩:=List.mem_flatten.1 A;obtain⟨a,_,rfl⟩:=Xan.1 E;unfold aP at A;simp only[Xba,List.not_mem_nil,or_false]at A;rcases A with rfl|rfl|rfl|rfl <;> rfl
def Pk{H:aG}:∀{E:List AV} {D:List (List Decision)} {n:Nat},E.length=n->D.length=n->(∀(k:Nat) (d:List Decision),D[k]?=some d->∃x,E[k]?=some x/\Br H x d)->ConvE H (E.map fun x=>[x]) (D.map Dl)
 | [],[],_,_,_,_=>.nil
 | [],d::D,_,h1,h2,_=>by subst h1;simp at h2
 | x::E,[],_,h1,h2,_=>by subst h2;simp at h1
 | x::E,d::D,n,h1,h2,h=>by simp at h1 h2;obtain⟨O,A,F⟩:=h 0 d rfl;simp at A;subst A;exact .cons _ _ _ _ (Br.conv F) (Pk (n:=n-1) (by omega) (by omega) fun k d J=>by simpa using h (k+1) d (by simpa using J))
def tW.two{l:List TNode}{D:List (List Decision)}(J:PathsOf l D)(hr:tY l=true)(hc:qX TNode.leaf TNode.yes TNode.no l=true){V q:List Nat}{k y n:Nat}{a:TNode}(ha:l[k]?=some a)(hf:a.leaf=false)(hy:a.yes=(y:Int))(hn:a.no=(n:Int))
  {H:aG} {E:List AV} {A:List Decision} (F:D[k]?=some A) (hF:tW D (V++k::q) H E) (ab:y≠n) (aa:y<E.length) (X:n<E.length) {O T:Nat} (h1:H O=some (gA (A++[a.choice]))) (h2:H T=some (gA (A++[oV a.choice]))):
  tW D (V++[k]++(q++[y,n])) H ((E.set y (.os O)).set n (.os T)):=fun m hm d hd=>by
 by_cases Z:m=y
 ·subst Z;have hw:=Ap hc hr (J.way m d hd) (.yes (J.way k A F) ha hf hy);subst hw;exact⟨.os O,by rw[List.getElem?_set_ne (Ne.symm ab),List.getElem?_set_self aa],.inr ⟨O,rfl,h1⟩⟩
 by_cases e2:m=n
 ·subst e2;have hw:=Ap hc hr (J.way m d hd) (.no (J.way k A F) ha hf hn);subst hw;exact⟨.os T,by rw[List.getElem?_set_self (by rw[Xbm];exact X)],.inr ⟨T,rfl,h2⟩⟩
 ·have U : m ∈ V ++ k :: q := by
   simp only[Xat,Xba,List.not_mem_nil,or_false]at hm |-;rcases hm with(h|h)|h|h|h
   ·exact .inl h
   ·exact .inr (.inl h)
   ·exact .inr (.inr h)
   ·exact absurd h Z
   ·exact absurd h e2
  obtain⟨x,hx,Y⟩:=hF m U d hd;exact⟨x,by rw[List.getElem?_set_ne (fun e=>e2 e.symm),List.getElem?_set_ne (fun e=>Z e.symm)];exact hx,Y⟩
set_option maxHeartbeats 1000000 in
theorem Z7 (l:List TNode) (D:List (List Decision)) (ht:rX l) (hD:PathsOf l D):PC prog 16 [.sl (l.map bR)] (.sl (D.map Dl)):=by
  obtain⟨b4,b7,F,af,bg⟩:=ht
  have a0:l≠[]:=by rintro rfl;simp at b4
  refine pcb (fun t=>t == 10) func16 rfl rfl ?_
  simp only[go_sem]
  refine⟨by omega,aJ fun j3 b0=>?_⟩
  simp only[go_sem]
  refine aJ fun j4 bw=>?_
  have bf:=aV (aB _ _ _) bw
  simp only[go_sem]
  refine We (fun m ρ H=>∃(V q:List Nat) (j:Nat) (ac:List (List AV)) (j3:Nat) (E:List AV),m=l.length-V.length/\BIn l V q/\ρ 0=.sl (l.map bR)/\ρ 3=.os j3/\((ρ 4=.os j/\ac=[])\/ρ 4=.oz j ac.length (ac.length+q.length))/\ac.length<=V.length/\H j=some ⟨3,1,ac++qE q⟩/\H j3=some (AQ E)/\E.length=l.length/\tW D (V++q) H E) _ ⟨[],[0],j4,[],j3,List.replicate l.length (.sl []),rfl,BInv.start a0,by simp only[go_sem],by simp only[go_sem],.inl ⟨by simp only[go_sem],rfl⟩,Xab _,aB _ _ _,?_,by simp,?_⟩ ?_
  . rw[aD _ _ _ _ bf,aB];simp[AQ]
  . intro k hk d hd
    simp at hk
    subst hk
    have:=SQ af (hD.way 0 d hd)
    subst this
    exact⟨.sl [],by rw[List.getElem?_replicate,if_pos (by omega)],.inl rfl⟩
  clear b0 bw bf
  rintro m ρ H ⟨V,q,j,ac,j3,E,rfl,hB,J,O,T,b5,R,R3,ay,hF⟩ K hK
  have a4:=hB.len
  rw[Xaf]at a4
  have ax:j≠j3:=fun e=>by subst e;rw[R]at R3;cases R3
  rcases T with⟨T,rfl⟩|T
  . rw[Xbn]at R
    simp only[go_sem,J,O,T,R,iX]
    refine aA (fun bv=>?_) (fun bq=>?_)
    . cases q with
      | nil=>simp at bv
      | cons k q=>
        have ap:=hB.lt k (by simp)
        obtain⟨a,ha⟩:=aI ap
        have b1:=inB ap
        simp only[Xag]at a4
        simp only[go_sem,J,O,T,R,qE,Xaq,Xag,List.getD_cons_zero,aC ha,b1]
        refine⟨by omega,by omega,by omega,?_⟩
        generalize b6:[int (k:Nat)]::List.map (fun i:Nat=>[int (i:Nat)]) q=qr at *
        have U:=Sup.refl H
        refine aJ fun i6 ab=>?_
        have aa:j≠i6:=aV R ab
        have A:j3≠i6:=aV R3 ab
        simp only[go_sem,J,O,T,R,R3]
        refine aM (aB _ _ _) (by simp[jG]) ?_
        have ai:=U.none ab
        generalize Z:aH (aH _ i6 _) i6 _=HGi6
        replace U:=Sup.eq ((U.upd ai _).upd ai _) Z
        replace R:=kpR Z aa aa R
        replace R3:=kpR Z A A R3
        have R6:HGi6 i6=some (⟨54,10,[bR a]⟩):=by rw[<-Z,aB];try rfl
        clear Z ab
        simp only[go_sem,J,O,T,R6,R,R3]
        refine aA (fun hf=>?_) (fun hf=>?_)
        . simp only[go_sem,J,O,T]
          refine hK (l.length-(V++[k]).length) _ _ (by simp;omega) ⟨V++[k],q,j,[[int (k:Nat)]],j3,E,rfl,hB.leafStep ha hf,by simp only[go_sem,J],by simp only[go_sem,O],.inr (by simp only[go_sem];simp <;> omega),by simp <;> omega,by rw[R];simp[qE],R3,ay,by rw[Xbk];exact hF.keep U⟩
        . obtain⟨dk,an⟩:=aI (show k<D.length by rw[hD.len];exact ap)
          obtain⟨x,au,ar⟩:=hF.keep U k (by simp) dk an
          have b3:=inB (show k<E.length by omega)
          have bd:dk.length<=1048576:=by have:=hD.short dk (Xac an);omega
          obtain⟨y,n,hy,hn⟩:=zW F ha hf
          obtain⟨a8,a5⟩:=ZY F ha hf
          rw[<-ay]at a8 a5
          have ao:=hB.innerStep af F ha hf hy hn
          have b2:n≠k:=fun e=>by
            have:=ao.nd
            subst e
            rw[List.nodup_append]at this
            exact this.2.2 n (by simp) n (by simp) rfl
          have br:y≠k:=fun e=>by
            have:=ao.nd
            subst e
            rw[List.nodup_append]at this
            exact this.2.2 y (by simp) y (by simp) rfl
          have bt:y≠n:=fun e=>Fx af F ha hf (by rw[hy,hn,e])
          simp only[go_sem,J,O,T]
          refine nK [i6] (.q 0 (.q 1 (.q 2 (.q 3 (.q 4 (.q 8 (.q 9 (.a2 5 (.a2 6 (.a2 7 (.a1 10 (.a1 11 (.a1 12 (.a1 13 .nil)))) 10 (.a1 7 (.a1 11 (.a1 12 (.a1 13 .nil))))) 10 (.a1 6 (.a1 7 (.a1 11 (.a1 12 (.a1 13 .nil)))))) 10 (.a1 5 (.a1 6 (.a1 7 (.a1 11 (.a1 12 (.a1 13 .nil)))))))))))))) (fun X H'=>X 0=.sl (l.map bR)/\X 3=.os j3/\X 4=.oz j 1 (q.length+1)/\X 5=int (k:Nat)/\X 6=.op i6 0 0/\∃jA,H' j3=some (AQ (E.set y (.os jA)))/\H' jA=some (gA (dk++[a.choice]))/\∀i r,HGi6 i=some r->i≠j3->H' i=some r) (by simp[R6]) (by kernel_rfl) (fun K' am Hp Hr hp hr _ bi=>?_) ?_
          . have P6:=(hp i6 (by simp)).trans R6
            have Q3:=(hr j3 (by simpa using A)).trans R3
            have aw:ConvL Hr [x] [.sl (dk.map aP)]:=Br.conv (ar.keep fun i d Y=>(hr i (by simpa using mR Y R6 (by simp))).trans Y)
            rcases ar with rfl|⟨i,rfl,Y⟩
            all_goals
              simp only[go_sem,J,O,T,P6]
              repeat' (first
                | refine lF ?_ ?_
                | refine NC.lent aw (FD dk bd) (FH dk) (fun jn aq=>?_)
                | (refine bC (r := gA dk) (aB _ _ _) ⟨rfl, rfl⟩ ⟨rfl, trivial⟩ (by simp; omega) (fun ae ag => ?_)
                   obtain⟨G3,Gn,av,GU⟩:=arU (r2:=⟨52,4,(dk.map aP)++[aP a.choice]⟩) Q3 aq ag
                   generalize aH (aH (aH Hr jn _) jn none) ae _=HG at *)
                | (refine cC alX G3 (by simp;omega) ?_)
                | (refine⟨a8,?_⟩)
                | (refine⟨⟨by omega,rfl⟩,?_⟩)
                | (refine⟨⟨by omega,by omega⟩,?_⟩)
                | (refine⟨by omega,?_⟩)
                | simp only[go_sem,J,O,T,Q3,G3,aC au,Xaa]
                | simp only[go_sem,J,O,T,Q3,aC au,Xaa])
            all_goals
              refine fF (fun h0 Hm h1 h2=>?_)
              obtain⟨a1,a2,a3⟩:=asY hr GU Gn av A h0 h1 h2
              refine am _ _ ⟨by simp only[go_sem,J],by simp only[go_sem,O],by simp only[go_sem,T],by simp only[go_sem],by simp only[go_sem],ae,?_,?_,a3⟩
              . exact a1.trans (congrArg some (PV (by rw[hy];rfl)))
              . exact a2.trans (congrArg some (by simp[gA]))
          . rintro ρ H2 ⟨J,O,T,e5,e6,jA,A3,An,AU⟩
            have R':=AU j _ R ax
            have ah:=AU i6 _ R6 A.symm
            have hU:∀i d,HGi6 i=some (gA d)->H2 i=some (gA d):=fun i d Y=>AU i _ Y (mR Y R3 (by simp))
            have aj:(E.set y (.os jA))[k]?=some x:=by rw[List.getElem?_set_ne br];exact au
            have ak:=ar.keep hU
            have bm:=(hF.keep U).keepD hU
            have a7:(E.set y (AV.os jA)).length=E.length:=Xbm
            have bj:y<E.length:=by omega
            have bh:n<E.length:=by omega
            have a6:0<=a.no/\a.no<((E.set y (AV.os jA)).length:Int):=by rw[a7];exact a5
            have bz:=inB (show k<(E.set y (AV.os jA)).length by omega)
            generalize bo:E.set y (AV.os jA)=E1 at *
            simp only[go_sem,J,O,T,e5,e6]
            refine nK [i6] (.q 0 (.q 1 (.q 2 (.q 3 (.q 4 (.q 8 (.q 9 (.a1 5 (.a1 6 (.a1 7 (.a1 10 (.a1 11 (.a1 12 (.a1 13 (.a1 14 .nil))))))))))))))) (fun X H'=>X 0=.sl (l.map bR)/\X 3=.os j3/\X 4=.oz j 1 (q.length+1)/\X 6=.op i6 0 0/\∃jB,H' j3=some (AQ (E1.set n (.os jB)))/\H' jB=some (gA (dk++[oV a.choice]))/\∀i r,H2 i=some r->i≠j3->H' i=some r) (by simp[ah]) (by kernel_rfl) (fun K' am Hp Hr hp hr _ bi=>?_) ?_
            . have P6:=(hp i6 (by simp)).trans ah
              have Q3:=(hr j3 (by simpa using A)).trans A3
              have aw:ConvL Hr [x] [.sl (dk.map aP)]:=Br.conv (ak.keep fun i d Y=>(hr i (by simpa using mR Y ah (by simp))).trans Y)
              rcases ak with rfl|⟨i,rfl,Y⟩
              all_goals
                simp only[go_sem,J,O,T,e5,e6,P6]
                repeat' (first
                  | refine aO (aiW a.choice) ?_
                  | refine NC.lent aw (FD dk bd) (FH dk) (fun jn aq=>?_)
                  | (refine bC (r := gA dk) (aB _ _ _) ⟨rfl, rfl⟩ ⟨rfl, trivial⟩ (by simp; omega) (fun ae ag => ?_)
                     obtain⟨G3,Gn,av,GU⟩:=arU (r2:=⟨52,4,(dk.map aP)++[aP (oV a.choice)]⟩) Q3 aq ag
                     generalize aH (aH (aH Hr jn _) jn none) ae _=HG at *)
                  | (refine cC alX G3 (by simp;omega) ?_)
                  | (refine⟨a6,?_⟩)
                  | (refine⟨⟨by omega,rfl⟩,?_⟩)
                  | (refine⟨⟨by omega,by omega⟩,?_⟩)
                  | (refine⟨by omega,?_⟩)
                  | simp only[go_sem,J,O,T,e5,e6,Q3,G3,aC aj,Xaa]
                  | simp only[go_sem,J,O,T,e5,e6,Q3,aC aj,Xaa])
              all_goals
                refine fF (fun h0 Hm h1 h2=>?_)
                obtain⟨a1,a2,a3⟩:=asY hr GU Gn av A h0 h1 h2
                refine am _ _ ⟨by simp only[go_sem,J],by simp only[go_sem,O],by simp only[go_sem,T],by simp only[go_sem,e6],ae,?_,?_,a3⟩
                . exact a1.trans (congrArg some (PV (by rw[hn];rfl)))
                . exact a2.trans (congrArg some (by simp[gA]))
            . rintro ρ H3 ⟨J,O,T,e6,jB,B3,Bn,BU⟩
              have bc:=BU j _ R' ax
              have ba:=BU i6 _ ah A.symm
              have bb:∀i d,H2 i=some (gA d)->H3 i=some (gA d):=fun i d Y=>BU i _ Y (mR Y A3 (by simp))
              have bk:=bb _ _ An
              have bn:=tW.two hD F af ha hf hy hn an (bm.keepD bb) bt bj bh bk Bn
              simp only[go_sem,J,O,T,e6,ba]
              refine IV bc ⟨rfl,rfl⟩ (by simp) ⟨rfl,rfl,trivial⟩ (by simp[iX]) (by simp[iX];omega) (fun j' az bp a9=>?_)
              simp only[go_sem,J,O,T]
              have be:∀i r,H3 i=some r->i≠j->∀rw,aH (aH H3 j none) j' (some rw) i=some r:=fun i r Y a0 rw=>by
                rw[aD _ _ _ _ (fun e=>by subst e;rw[Y]at a9;cases a9),aD _ _ _ _ a0];exact Y
              refine hK (l.length-(V++[k]).length) _ _ (by simp;omega) ⟨V++[k],q++[y,n],j',az,j3,E1.set n (.os jB),rfl,ao,by simp only[go_sem,J],by simp only[go_sem,O],.inr (by simp only[go_sem];simp[iX] <;> omega),by simp at bp |-;omega,?_,be j3 _ B3 ax.symm _,by rw[Xbm];omega,?_⟩
              . rw[aB];simp[qE,hy,hn]
              . rw[<-bo];exact bn.keepD fun i d Y=>be i _ Y (mR Y bc (by simp)) _
    . have bu : q = [] := by
        cases q with
        | nil=>rfl
        | cons k q=>simp at bq
      subst bu
      have al:=hB.full.2 bg
      simp only[go_sem,J,O,T]
      refine .row _ _ _ R3 (Pk ay hD.len fun k d hd=>?_)
      refine hF k ?_ d hd
      have:=FT (by simpa using hB.nd) (by simpa using hB.lt) al k (by have:=(List.getElem?_eq_some_iff.1 hd).1;rw[hD.len]at this;exact this)
      simpa using this
  . simp only[go_sem,J,O,T,R,iX,Nat.add_sub_cancel_left]
    refine aA (fun bv=>?_) (fun bq=>?_)
    . cases q with
      | nil=>simp at bv
      | cons k q=>
        have ap:=hB.lt k (by simp)
        obtain⟨a,ha⟩:=aI ap
        have b1:=inB ap
        simp only[Xag]at a4
        have bx:(ac++qE (k::q)).getD ac.length []=[int (k:Nat)]:=by simp[qE]
        simp only[go_sem,J,O,T,R,Xaf,iX,Xag,Nat.add_sub_cancel_left,Nat.add_zero,bx,aC ha,b1]
        refine⟨by omega,by omega,by omega,?_⟩
        have U:=Sup.refl H
        refine aJ fun i6 ab=>?_
        have aa:j≠i6:=aV R ab
        have A:j3≠i6:=aV R3 ab
        simp only[go_sem,J,O,T,R,R3]
        refine aM (aB _ _ _) (by simp[jG]) ?_
        have ai:=U.none ab
        generalize Z:aH (aH _ i6 _) i6 _=HGi6
        replace U:=Sup.eq ((U.upd ai _).upd ai _) Z
        replace R:=kpR Z aa aa R
        replace R3:=kpR Z A A R3
        have R6:HGi6 i6=some (⟨54,10,[bR a]⟩):=by rw[<-Z,aB];try rfl
        clear Z ab
        simp only[go_sem,J,O,T,R6,R,R3]
        refine aA (fun hf=>?_) (fun hf=>?_)
        . simp only[go_sem,J,O,T]
          refine hK (l.length-(V++[k]).length) _ _ (by simp;omega) ⟨V++[k],q,j,(ac++[[int (k:Nat)]]),j3,E,rfl,hB.leafStep ha hf,by simp only[go_sem,J],by simp only[go_sem,O],.inr (by simp only[go_sem];simp <;> omega),by simp <;> omega,by rw[R];simp[qE],R3,ay,by rw[Xbk];exact hF.keep U⟩
        . obtain⟨dk,an⟩:=aI (show k<D.length by rw[hD.len];exact ap)
          obtain⟨x,au,ar⟩:=hF.keep U k (by simp) dk an
          have b3:=inB (show k<E.length by omega)
          have bd:dk.length<=1048576:=by have:=hD.short dk (Xac an);omega
          obtain⟨y,n,hy,hn⟩:=zW F ha hf
          obtain⟨a8,a5⟩:=ZY F ha hf
          rw[<-ay]at a8 a5
          have ao:=hB.innerStep af F ha hf hy hn
          have b2:n≠k:=fun e=>by
            have:=ao.nd
            subst e
            rw[List.nodup_append]at this
            exact this.2.2 n (by simp) n (by simp) rfl
          have br:y≠k:=fun e=>by
            have:=ao.nd
            subst e
            rw[List.nodup_append]at this
            exact this.2.2 y (by simp) y (by simp) rfl
          have bt:y≠n:=fun e=>Fx af F ha hf (by rw[hy,hn,e])
          simp only[go_sem,J,O,T]
          refine nK [i6] (.q 0 (.q 1 (.q 2 (.q 3 (.q 4 (.q 8 (.q 9 (.a2 5 (.a2 6 (.a2 7 (.a1 10 (.a1 11 (.a1 12 (.a1 13 .nil)))) 10 (.a1 7 (.a1 11 (.a1 12 (.a1 13 .nil))))) 10 (.a1 6 (.a1 7 (.a1 11 (.a1 12 (.a1 13 .nil)))))) 10 (.a1 5 (.a1 6 (.a1 7 (.a1 11 (.a1 12 (.a1 13 .nil)))))))))))))) (fun X H'=>X 0=.sl (l.map bR)/\X 3=.os j3/\X 4=.oz j (ac.length+1) (ac.length+(q.length+1))/\X 5=int (k:Nat)/\X 6=.op i6 0 0/\∃jA,H' j3=some (AQ (E.set y (.os jA)))/\H' jA=some (gA (dk++[a.choice]))/\∀i r,HGi6 i=some r->i≠j3->H' i=some r) (by simp[R6]) (by kernel_rfl) (fun K' am Hp Hr hp hr _ bi=>?_) ?_
          . have P6:=(hp i6 (by simp)).trans R6
            have Q3:=(hr j3 (by simpa using A)).trans R3
            have aw:ConvL Hr [x] [.sl (dk.map aP)]:=Br.conv (ar.keep fun i d Y=>(hr i (by simpa using mR Y R6 (by simp))).trans Y)
            rcases ar with rfl|⟨i,rfl,Y⟩
            all_goals
              simp only[go_sem,J,O,T,P6]
              repeat' (first
                | refine lF ?_ ?_
                | refine NC.lent aw (FD dk bd) (FH dk) (fun jn aq=>?_)
                | (refine bC (r := gA dk) (aB _ _ _) ⟨rfl, rfl⟩ ⟨rfl, trivial⟩ (by simp; omega) (fun ae ag => ?_)
                   obtain⟨G3,Gn,av,GU⟩:=arU (r2:=⟨52,4,(dk.map aP)++[aP a.choice]⟩) Q3 aq ag
                   generalize aH (aH (aH Hr jn _) jn none) ae _=HG at *)
                | (refine cC alX G3 (by simp;omega) ?_)
                | (refine⟨a8,?_⟩)
                | (refine⟨⟨by omega,rfl⟩,?_⟩)
                | (refine⟨⟨by omega,by omega⟩,?_⟩)
                | (refine⟨by omega,?_⟩)
                | simp only[go_sem,J,O,T,Q3,G3,aC au,Xaa]
                | simp only[go_sem,J,O,T,Q3,aC au,Xaa])
            all_goals
              refine fF (fun h0 Hm h1 h2=>?_)
              obtain⟨a1,a2,a3⟩:=asY hr GU Gn av A h0 h1 h2
              refine am _ _ ⟨by simp only[go_sem,J],by simp only[go_sem,O],by simp only[go_sem,T],by simp only[go_sem],by simp only[go_sem],ae,?_,?_,a3⟩
              . exact a1.trans (congrArg some (PV (by rw[hy];rfl)))
              . exact a2.trans (congrArg some (by simp[gA]))
          . rintro ρ H2 ⟨J,O,T,e5,e6,jA,A3,An,AU⟩
            have R':=AU j _ R ax
            have ah:=AU i6 _ R6 A.symm
            have hU:∀i d,HGi6 i=some (gA d)->H2 i=some (gA d):=fun i d Y=>AU i _ Y (mR Y R3 (by simp))
            have aj:(E.set y (.os jA))[k]?=some x:=by rw[List.getElem?_set_ne br];exact au
            have ak:=ar.keep hU
            have bm:=(hF.keep U).keepD hU
            have a7:(E.set y (AV.os jA)).length=E.length:=Xbm
            have bj:y<E.length:=by omega
            have bh:n<E.length:=by omega
            have a6:0<=a.no/\a.no<((E.set y (AV.os jA)).length:Int):=by rw[a7];exact a5
            have bz:=inB (show k<(E.set y (AV.os jA)).length by omega)
            generalize bo:E.set y (AV.os jA)=E1 at *
            simp only[go_sem,J,O,T,e5,e6]
            refine nK [i6] (.q 0 (.q 1 (.q 2 (.q 3 (.q 4 (.q 8 (.q 9 (.a1 5 (.a1 6 (.a1 7 (.a1 10 (.a1 11 (.a1 12 (.a1 13 (.a1 14 .nil))))))))))))))) (fun X H'=>X 0=.sl (l.map bR)/\X 3=.os j3/\X 4=.oz j (ac.length+1) (ac.length+(q.length+1))/\X 6=.op i6 0 0/\∃jB,H' j3=some (AQ (E1.set n (.os jB)))/\H' jB=some (gA (dk++[oV a.choice]))/\∀i r,H2 i=some r->i≠j3->H' i=some r) (by simp[ah]) (by kernel_rfl) (fun K' am Hp Hr hp hr _ bi=>?_) ?_
            . have P6:=(hp i6 (by simp)).trans ah
              have Q3:=(hr j3 (by simpa using A)).trans A3
              have aw:ConvL Hr [x] [.sl (dk.map aP)]:=Br.conv (ak.keep fun i d Y=>(hr i (by simpa using mR Y ah (by simp))).trans Y)
              rcases ak with rfl|⟨i,rfl,Y⟩
              all_goals
                simp only[go_sem,J,O,T,e5,e6,P6]
                repeat' (first
                  | refine aO (aiW a.choice) ?_
                  | refine NC.lent aw (FD dk bd) (FH dk) (fun jn aq=>?_)
                  | (refine bC (r := gA dk) (aB _ _ _) ⟨rfl, rfl⟩ ⟨rfl, trivial⟩ (by simp; omega) (fun ae ag => ?_)
                     obtain⟨G3,Gn,av,GU⟩:=arU (r2:=⟨52,4,(dk.map aP)++[aP (oV a.choice)]⟩) Q3 aq ag
                     generalize aH (aH (aH Hr jn _) jn none) ae _=HG at *)
                  | (refine cC alX G3 (by simp;omega) ?_)
                  | (refine⟨a6,?_⟩)
                  | (refine⟨⟨by omega,rfl⟩,?_⟩)
                  | (refine⟨⟨by omega,by omega⟩,?_⟩)
                  | (refine⟨by omega,?_⟩)
                  | simp only[go_sem,J,O,T,e5,e6,Q3,G3,aC aj,Xaa]
                  | simp only[go_sem,J,O,T,e5,e6,Q3,aC aj,Xaa])
              all_goals
                refine fF (fun h0 Hm h1 h2=>?_)
                obtain⟨a1,a2,a3⟩:=asY hr GU Gn av A h0 h1 h2
                refine am _ _ ⟨by simp only[go_sem,J],by simp only[go_sem,O],by simp only[go_sem,T],by simp only[go_sem,e6],ae,?_,?_,a3⟩
                . exact a1.trans (congrArg some (PV (by rw[hn];rfl)))
                . exact a2.trans (congrArg some (by simp[gA]))
            . rintro ρ H3 ⟨J,O,T,e6,jB,B3,Bn,BU⟩
              have bc:=BU j _ R' ax
              have ba:=BU i6 _ ah A.symm
              have bb:∀i d,H2 i=some (gA d)->H3 i=some (gA d):=fun i d Y=>BU i _ Y (mR Y A3 (by simp))
              have bk:=bb _ _ An
              have bn:=tW.two hD F af ha hf hy hn an (bm.keepD bb) bt bj bh bk Bn
              simp only[go_sem,J,O,T,e6,ba]
              refine IV bc ⟨rfl,rfl⟩ (by simp) ⟨rfl,rfl,trivial⟩ (by simp[iX]) (by simp[iX];omega) (fun j' az bp a9=>?_)
              simp only[go_sem,J,O,T]
              have be:∀i r,H3 i=some r->i≠j->∀rw,aH (aH H3 j none) j' (some rw) i=some r:=fun i r Y a0 rw=>by
                rw[aD _ _ _ _ (fun e=>by subst e;rw[Y]at a9;cases a9),aD _ _ _ _ a0];exact Y
              refine hK (l.length-(V++[k]).length) _ _ (by simp;omega) ⟨V++[k],q++[y,n],j',az,j3,E1.set n (.os jB),rfl,ao,by simp only[go_sem,J],by simp only[go_sem,O],.inr (by simp only[go_sem];simp[iX] <;> omega),by simp at bp |-;omega,?_,be j3 _ B3 ax.symm _,by rw[Xbm];omega,?_⟩
              . rw[aB];simp[qE,hy,hn]
              . rw[<-bo];exact bn.keepD fun i d Y=>be i _ Y (mR Y bc (by simp)) _
    . have bu : q = [] := by
        cases q with
        | nil=>rfl
        | cons k q=>simp at bq
      subst bu
      have al:=hB.full.2 bg
      simp only[go_sem,J,O,T]
      refine .row _ _ _ R3 (Pk ay hD.len fun k d hd=>?_)
      refine hF k ?_ d hd
      have:=FT (by simpa using hB.nd) (by simpa using hB.lt) al k (by have:=(List.getElem?_eq_some_iff.1 hd).1;rw[hD.len]at this;exact this)
      simpa using this
def IP{l:List TNode}(A:tY l=true)(E:qX TNode.leaf TNode.yes TNode.no l=true):∀(m:Nat) (V q:List Nat),l.length-V.length<=m->BIn l V q->∃T,BIn l T []
 | m,V,[],_,h=>⟨V,h⟩
 | 0,V,k::q,hm,h=>by have:=h.len;simp at this;omega
 | m+1,V,k::q,hm,h=>by
  have X:=h.lt k (by simp);obtain⟨a,F⟩:=aI X;cases J:a.leaf with
  | true=>exact IP A E m _ _ (by simp;omega) (h.leafStep F J)
  | false=>obtain⟨y,n,U,O⟩:=zW A F J;exact IP A E m _ _ (by simp;omega) (h.innerStep E A F J U O)
def ahB{l:List TNode}(h:rX l):∃D,PathsOf l D:=by
 obtain⟨Y,aa,hr,hc,F⟩:=h;have X:l≠[]:=by rintro rfl;simp at Y
 obtain⟨V,Z⟩:=IP hr hc _ [] [0] (Xae _) (BInv.start X);have hw:∀k,k<l.length->∃d,F7 l k d/\d.length<l.length:=fun k U=>by obtain⟨d,E⟩:=F k U;exact Z.short E
 have:∀n,n<=l.length->∃D:List (List Decision),D.length=n/\∀k d,D[k]?=some d->F7 l k d/\d.length<l.length:=by
  intro n;induction n with
  | zero=>exact fun _=>⟨[],rfl,fun k d h=>by simp at h⟩
  | succ n ih=>
   intro hn;obtain⟨D,T,E⟩:=ih (by omega);obtain⟨d,O,J⟩:=hw n (by omega);refine⟨D++[d],by simp[T],fun k e A=>?_⟩;rw[List.getElem?_append]at A;split at A
   ·exact E k e A
   ·rename_i ab;rw[List.getElem?_singleton]at A;split at A
    ·injection A with A;subst A;have:k=n:=by omega
     subst this;exact⟨O,J⟩
    ·cases A
 obtain⟨D,T,E⟩:=this l.length (Xae _);exact⟨D,T,fun k d h=>(E k d h).1,fun d h=>by obtain⟨k,U⟩:=List.getElem?_of_mem h;exact(E k d U).2⟩
def fN:List TNode->List (List Decision)->List (List Decision)
 | a::l,d::D=>if a.leaf=true then d::fN l D else fN l D
 | _,_=>[]
def Qv{l:List TNode}{D:List (List Decision)}:∀{k:Nat} {a:TNode} {d:List Decision},l[k]?=some a->D[k]?=some d->fN (l.take (k+1)) (D.take (k+1))=fN (l.take k) (D.take k)++(if a.leaf=true then[d]else[]):=by
 intro k;induction k generalizing l D with
 | zero=>intro a d E A;cases l <;> cases D <;> simp at E A;subst E;subst A;simp[fN]
 | succ k ih=>
  intro a d E A;cases l with
  | nil=>simp at E
  | cons b l=>
   cases D with
   | nil=>simp at A
   | cons e D=>
    simp at E A;have:=ih E A;simp only[List.take_succ_cons,fN];split
    ·rw[this];rfl
    ·exact this
def HF:∀(l:List TNode) (D:List (List Decision)),(fN l D).length<=l.length
 | [],_=>by simp[fN]
 | _::_,[]=>by simp[fN]
 | a::l,d::D=>by have:=HF l D;unfold fN;split <;> simp <;> omega
abbrev OM(L:List (List Decision)):Row:=⟨63,1,L.map Dl⟩
def ZI(p:Proof)(b:Bool)(hb:b=true↔rX p.nodes)(D:List (List Decision))(hD:b=true->PathsOf p.nodes D)(hl:p.nodes.length<=1048576):
  PC prog 19 [.agg (dY p)] (.tup [.sl ((if b=true then fN p.nodes D else[]).map Dl),int (if b=true then 0 else 29)]):=by
 refine pcb (fun t=>t == 4) func19 rfl rfl ?_;simp only[go_sem];refine aO (amA p.nodes b hb hl) ?_;simp only[go_sem];cases b with
 | false=>refine aA (fun h=>?_) (fun h=>by cases h);simp only[go_sem];exact .refl _
 | true=>
  have ht:=hb.1 rfl;have O:=hD rfl;refine aA (fun h=>by cases h) (fun h=>?_);refine fR fun j aa Z (R:aa j=some (OM [])) N=>?_
  clear N Z;simp only[go_sem,R];refine aO (Z7 p.nodes D ht O) ?_;simp only[go_sem];refine⟨fun ρ H=>∃(k:Nat) (j:Nat),k<=p.nodes.length/\ρ 1=.rp (dY p) 0/\ρ 13=.sl (D.map Dl)/\ρ 14=int (p.nodes.length:Nat)/\ρ 15=int k/\ρ 4=.os j/\H j=some (OM (fN (p.nodes.take k) (D.take k))),fun ρ _=>p.nodes.length-aU (ρ 15),⟨0,j,Xab _,by simp only[go_sem,O.len],by simp only[go_sem,O.len],by simp only[go_sem,Xaa,O.len],(by simp only[go_sem,O.len];rfl),by simp only[go_sem],R⟩,?_⟩;rintro ρ H ⟨k,j,hk,X,F,J,E,T,R⟩;simp only[go_sem,X,F,J,E,T];refine aA (fun A=>?_) (fun U=>?_)
  ·have A:=ltB (by simpa using A);obtain⟨a,ha⟩:=aI A;obtain⟨d,hd⟩:=aI (show k<D.length by rw[O.len];exact A);have b1:=inB A;have b2:=inB (show k<D.length by rw[O.len];exact A);have Y:=Qv ha hd;have ac:=HF (p.nodes.take k) (D.take k);rw[Xav]at ac;generalize af:fN (p.nodes.take k) (D.take k)=PL at *;simp only[go_sem,X,F,J,E,T,aC ha,aC hd,b1,b2,Xaa];have ab:Dl d=[.sl (d.map aP)]:=rfl;rw[ab];simp only[go_sem,X,F,J,E,T,aC ha,b1];refine aA (fun hf=>?_) (fun hf=>?_)
   ·rw[if_pos hf]at Y;simp only[go_sem,X,F,J,E,T];refine bC R ⟨rfl,rfl⟩ ⟨rfl,trivial⟩ (by simp only[Xaa,Xag,List.length_nil];omega) (fun j' ae=>?_);simp only[go_sem,X,F,J,E,T,aW k];refine⟨⟨k+1,j',A,rfl,rfl,?_⟩,msr A⟩;rw[Y,aB];simp[OM,Dl]
   ·rw[if_neg (by rw[hf];simp),Xbl]at Y;simp only[go_sem,X,F,J,E,T,aW k];refine⟨⟨k+1,j,A,rfl,rfl,?_⟩,msr A⟩;rw[Y];exact R
  have U:=geB hk (by simpa using U);subst U;rw[Xad,Xbb (by rw[O.len];exact Xae _)]at R;simp only[go_sem,X,F,J,E,T,if_true];exact .tup _ _ (.cons _ _ _ _ (.row _ _ _ R (ConvE.refl _)) (.cons _ _ _ _ (.refl _) .nil))
end Ve
namespace Dec
open Sq (jF EK rQ iF okV)
def orN(rs:List Int):Int:=rs.foldl (sI .or .i64) 0
def O7(us:List Int)(a:Int):Int:=if(decide (a>=0)&&decide (a<(us.length:Int)))=true then us.getD a.toNat 0 else 0
def axR(d:Decision)(served:Bool)(n:Int):Bool:=if d.kind=5 then served else if d.kind=3 then decide (n<=d.n)else if d.kind=4 then decide (n>=d.n)else true
def O6(d:Decision)(rs us:List Int):Bool:=rs.all (cN d)&&axR d (cR (orN rs) d.a) (O7 us d.a)
abbrev iG(l:List Int):Row:=⟨3,1,l.map aQ⟩
def FK(l:List Route):List Int:=l.map fun r=>(iF r.visits).1
def Pt(us:List Int)(t:Int):List Int:=if(decide (t>=0)&&decide (t<(us.length:Int)))=true then us.set t.toNat (IntKind.i64.wrap (us.getD t.toNat 0+1))else us
def K0(n:Nat)(l:List Route):List Int:=l.foldl (fun us r=>Pt us r.type) (List.replicate n 0)
def JY(us:List Int)(t:Int):(Pt us t).length=us.length:=by unfold Pt;split <;> simp
def acK(n:Nat)(l:List Route):(K0 n l).length=n:=by
 suffices ∀(l:List Route) (us:List Int),(l.foldl (fun us r=>Pt us r.type) us).length=us.length from by have:=this l (List.replicate n 0);simpa[K0]using this
 intro l;induction l with
 | nil=>intro us;rfl
 | cons r l ih=>intro us;rw[Xbd,ih,JY]
def lM(x:Instance)(l:List Decision)(p:Plan):Bool:=l.all fun d=>O6 d (FK p.routes) (K0 x.types.length p.routes)
def Kn(s:Nat)(i:Int):mG (s:Int) i=s.testBit i.toNat:=by
 rw[Xcm];unfold mG;have:((s:Int)/2^i.toNat)=((s/2^i.toNat:Nat):Int):=by
  have h3:((2:Int)^i.toNat)=((2^i.toNat:Nat):Int):=by norm_cast
  rw[h3];rfl
 rw[this];generalize s/2^i.toNat=m;rw[Xar];simp only[Xay,decide_eq_true_eq];omega
def kF(r:Route):Prop:=∀v∈r.visits,0<=v.order/\v.order<=61
def adD{r:Route}(h:kF r):jF r.visits<2^62:=EK _ fun v A=>by have:=h v A;omega
def sP(l:List Route)(t:Int):Nat:=l.countP fun r=>r.type == t
def ayN(l:List Route):Nat:=l.foldl (fun s r=>s ||| jF r.visits) 0
def DK{x:Instance}{d:Decision}(h:dR x d=0):
  ((d.kind=1\/d.kind=2)/\(0<=d.a/\d.a<(x.orders.length:Int))/\(0<=d.b/\d.b<(x.orders.length:Int))/\d.a≠d.b) \/
  ((d.kind=5\/d.kind=6)/\(0<=d.a/\d.a<(x.orders.length:Int))) \/
  ((d.kind=3\/d.kind=4)/\(0<=d.a/\d.a<(x.types.length:Int))/\0<=d.n/\d.n<=10):=by
 unfold dR at h;split at h
 ·rename_i E;split at h
  ·rename_i A;left;simp only[BC,Xah,decide_eq_true_eq,bne_iff_ne,ne_eq]at A;exact⟨E,⟨A.1.1.1,A.1.1.2⟩,⟨A.1.2.1,A.1.2.2⟩,A.2⟩
  ·simp at h
 ·split at h
  ·rename_i E;split at h
   ·rename_i A;right;left;simp only[BC,Xah,decide_eq_true_eq]at A;exact⟨E,A.1,A.2⟩
   ·simp at h
  ·split at h
   ·rename_i E;split at h
    ·rename_i A;right;right;simp only[Xah,decide_eq_true_eq]at A;exact⟨E,⟨A.1.1.1,A.1.1.2⟩,A.1.2,A.2⟩
    ·simp at h
   ·simp at h
def MR{s i:Int}(h:0<=i/\i<=62):cR s i=mG s i:=by
 unfold cR mG;have h1:decide (i>=0)=true:=by simpa using h.1
 have A:decide (i<=62)=true:=by simpa using h.2
 rw[h1,A];rfl
def vG{α:Type}{p q:α->Bool}{l:List α}(h:∀x∈l,p x=q x):l.all p=l.all q:=by rw[Xar,Xaj,Xaj];exact⟨fun E x A=>(h x A)▸E x A,fun E x A=>(h x A).symm▸E x A⟩
def fE(r:Route)(i:Int):Bool:=r.visits.any fun v=>v.order == i
def OW{r:Route}(h:kF r){i:Int}(E:0<=i):mG (jF r.visits:Nat) i=fE r i:=by
 rw[Kn,rQ];unfold fE;rw[Xar,Xak,Xak];constructor
 ·rintro⟨v,A,e⟩;refine⟨v,A,?_⟩;have:=h v A;simp only[Xay]at e |-;omega
 ·rintro⟨v,A,e⟩;refine⟨v,A,?_⟩;simp only[Xay]at e |-;omega
def wO{r:Route}(h:kF r){i:Int}(A:0<=i/\i<=62):cR (jF r.visits:Nat) i=fE r i:=(MR A).trans (OW h A.1)
def E4{l:List Route}(h:∀r∈l,kF r):FK l=l.map fun r=>((jF r.visits:Nat):Int):=by
 unfold FK;refine List.map_congr_left fun r E=>?_
 unfold iF;rw[if_pos];rw[Xaj];intro v A;have:=h r E v A;simp[okV];omega
def awQ{l:List Route}(h:∀r∈l,kF r):orN (l.map fun r=>((jF r.visits:Nat):Int))=(ayN l:Nat):=by
 suffices ∀(l:List Route) (s:Nat),s<2^62->(∀r∈l,kF r)->(l.map fun r=>((jF r.visits:Nat):Int)).foldl (sI .or .i64) (s:Int)=((l.foldl (fun s r=>s ||| jF r.visits) s:Nat):Int)from this l 0 (by decide) h
 intro l;induction l with
 | nil=>intro s _ _;rfl
 | cons r l ih=>intro s E A;have h1:=adD (A r (by simp));rw[Xaq,Xbd,Xbd,B8 (by omega) (by omega)];exact ih _ (Xcc E h1) fun r F=>A r (by simp[F])
def amF(l:List Route)(i:Nat):(ayN l).testBit i=l.any fun r=>(jF r.visits).testBit i:=by
 suffices ∀(l:List Route) (s:Nat),(l.foldl (fun s r=>s ||| jF r.visits) s).testBit i=(s.testBit i||l.any fun r=>(jF r.visits).testBit i)from by have:=this l 0;simpa[ayN]using this
 intro l;induction l with
 | nil=>intro s;simp
 | cons r l ih=>intro s;rw[Xbd,ih,Nat.testBit_or,List.any_cons,Bool.or_assoc]
def oB{α:Type}{p q:α->Bool}{l:List α}(h:∀x∈l,p x=q x):l.any p=l.any q:=by rw[Xar,Xak,Xak];exact⟨fun⟨x,A,E⟩=>⟨x,A,(h x A)▸E⟩,fun⟨x,A,E⟩=>⟨x,A,(h x A).symm▸E⟩⟩
def aAA{l:List Route}(h:∀r∈l,kF r){i:Int}(A:0<=i/\i<=62):cR (orN (FK l)) i=l.any fun r=>fE r i:=by
 rw[E4 h,awQ h,MR A,Kn,amF];refine oB fun r E=>?_
 rw[<-OW (h r E) A.1,Kn]
def asJ(n:Nat)(l:List Route)(O:l.length<=1048576){a:Int}(T:0<=a/\a<(n:Int)):O7 (K0 n l) a=(sP l a:Nat):=by
 have J:=acK n l;have e:O7 (K0 n l) a=(K0 n l).getD a.toNat 0:=by unfold O7;rw[if_pos];simp;omega
 rw[e]
 suffices ∀(l:List Route) (us:List Int) (c:Nat),us.length=n->us.getD a.toNat 0=(c:Int)->c+l.length<=4000000->(l.foldl (fun us r=>Pt us r.type) us).getD a.toNat 0=((c+sP l a:Nat):Int)from by have:=this l (List.replicate n 0) 0 (by simp) (by simp[List.getD,List.getElem?_replicate];split <;> rfl) (by omega);rw[Xcj]at this;exact this
 intro l;induction l with
 | nil=>intro us c h1 A _;simpa[sP]using A
 | cons r l ih=>
  intro us c h1 A h3;rw[Xbd];have E:sP (r::l) a=sP l a+(if r.type == a then 1 else 0):=by simp[sP,List.countP_cons]
  rw[E];simp only[Xag]at h3;by_cases e:r.type=a
  ·have F : (Pt us r.type).getD a.toNat 0 = ((c + 1 : Nat) : Int) := by
    unfold Pt;rw[e,if_pos (by simp;omega),A];have:a.toNat<us.length:=by omega
    simp[List.getD,this];rw[bD (by omega)]
   rw[ih _ (c+1) (by rw[JY];exact h1) F (by omega)];simp[e];omega
  ·have F : (Pt us r.type).getD a.toNat 0 = (c : Int) := by
    unfold Pt;split
    ·rename_i E;simp only[Xah,decide_eq_true_eq]at E;have:r.type.toNat≠a.toNat:=by omega
     simpa[List.getD,List.getElem?_set,this]using A
    ·exact A
   rw[ih _ c (by rw[JY];exact h1) F (by omega)];simp[e]
def lW(d:Decision)(p:Plan):Bool:=
 if d.kind=1 then p.routes.all fun r=>fE r d.a == fE r d.b
 else if d.kind=2 then p.routes.all fun r=> !fE r d.a|| !fE r d.b
 else if d.kind=5 then p.routes.any fun r=>fE r d.a
 else if d.kind=6 then p.routes.all fun r=> !fE r d.a
 else if d.kind=3 then decide ((sP p.routes d.a:Int)<=d.n)
 else decide ((sP p.routes d.a:Int)>=d.n)
def yD{x:Instance}{d:Decision}{p:Plan}(Y:x.orders.length<=62)(h:dR x d=0)(E:∀r∈p.routes,kF r)(X:p.routes.length<=1048576):O6 d (FK p.routes) (K0 x.types.length p.routes)=lW d p:=by
 have J:(FK p.routes).all (cN d)=p.routes.all fun r=>cN d (jF r.visits:Nat):=by rw[E4 E,List.all_map];rfl
 have U:(p.routes.all fun _=>true)=true:=by simp
 unfold O6;rw[J];unfold lW axR cN;rcases DK h with⟨A,O,Z,_⟩|⟨A,O⟩|⟨A,O,_⟩
 ·rcases A with A|A
  ·simp only[A];simp;refine vG fun r F=>?_
   rw[wO (i:=d.a) (E r F) (by omega),wO (i:=d.b) (E r F) (by omega)]
  ·simp only[A];simp;refine vG fun r F=>?_
   rw[wO (i:=d.a) (E r F) (by omega),wO (i:=d.b) (E r F) (by omega)]
 ·rcases A with A|A
  ·simp only[A];simp;rw[U,Xbc];exact aAA (i:=d.a) E (by omega)
  ·simp only[A];simp;refine vG fun r F=>?_
   rw[wO (i:=d.a) (E r F) (by omega)]
 ·have T:=asJ x.types.length p.routes X O;rcases A with A|A
  ·simp only[A,T];simp
  ·simp only[A,T];simp
def YB{x:Instance}{d:Decision}{p:Plan}(ho:x.orders.length<=62)(h:dR x d=0)(h2:dR x (oV d)=0)(hs:∀r∈p.routes,kF r)(hl:p.routes.length<=1048576)
   (sg:∀(i j:Nat) (r s:Route),p.routes[i]?=some r->p.routes[j]?=some s->∀o:Int,0<=o->o<(x.orders.length:Int)->fE r o=true->fE s o=true->i=j):lM x [oV d] p=true\/lM x [d] p=true:=by
 have hd:lM x [d] p=lW d p:=by simp only[lM,List.all_cons,List.all_nil,Xbo];exact yD ho h hs hl
 have O:lM x [oV d] p=lW (oV d) p:=by simp only[lM,List.all_cons,List.all_nil,Xbo];exact yD ho h2 hs hl
 rw[hd,O,<-Xax];clear hd O;obtain⟨k,a,b,n⟩:=d
 -- a plan in which a and b are not always A has them never A
 have A:∀{a b:Int},0<=a/\a<(x.orders.length:Int)->0<=b/\b<(x.orders.length:Int)->(p.routes.all fun r=>fE r a == fE r b)=false->(p.routes.all fun r=> !fE r a|| !fE r b)=true:=by
   intro a b J Z Y;rw[List.all_eq_false]at Y;obtain⟨r,hr,F⟩:=Y;obtain⟨i,hi⟩:=List.mem_iff_getElem?.1 hr;rw[Xaj];intro s af;obtain⟨j,X⟩:=List.mem_iff_getElem?.1 af;cases ab:fE s a with
   | false=>rfl
   | true=>
     cases aa:fE s b with
     | false=>rfl
     | true=>
       exfalso;have e:i=j:=by
         cases ae:fE r a with
         | true=>exact sg i j r s hi X a J.1 J.2 ae ab
         | false=>
           cases ac:fE r b with
           | true=>exact sg i j r s hi X b Z.1 Z.2 ac aa
           | false=>rw[ae,ac]at F;simp at F
       subst e;rw[hi]at X;injection X with X;subst X;rw[ab,aa]at F;simp at F
 rcases DK h with⟨E,J,Z,F⟩|⟨E,J⟩|⟨E,J,h1,h2⟩
 . simp only at E J Z F;rcases E with E|E <;> subst E
   . have T:lW (oV ⟨1,a,b,n⟩) p=p.routes.all fun r=> !fE r a|| !fE r b:=rfl
     have U:lW ⟨1,a,b,n⟩ p=p.routes.all fun r=>fE r a == fE r b:=rfl
     rw[T,U];cases Y:p.routes.all fun r=>fE r a == fE r b with
     | true=>rw[Bool.or_true]
     | false=>rw[A J Z Y];rfl
   . have T:lW ⟨2,a,b,n⟩ p=p.routes.all fun r=> !fE r a|| !fE r b:=rfl
     have U:lW (oV ⟨2,a,b,n⟩) p=p.routes.all fun r=>fE r a == fE r b:=rfl
     rw[T,U];cases Y:p.routes.all fun r=>fE r a == fE r b with
     | true=>rfl
     | false=>rw[A J Z Y];rfl
 . simp only at E J;have nn:(p.routes.all fun r=> !fE r a)= !(p.routes.any fun r=>fE r a):=(List.not_any_eq_all_not ..).symm;rcases E with E|E <;> subst E
   . have T:lW ⟨5,a,b,n⟩ p=p.routes.any fun r=>fE r a:=rfl
     have U:lW (oV ⟨5,a,b,n⟩) p=p.routes.all fun r=> !fE r a:=rfl
     rw[T,U,nn];cases p.routes.any fun r=>fE r a <;> rfl
   . have T:lW (oV ⟨6,a,b,n⟩) p=p.routes.any fun r=>fE r a:=rfl
     have U:lW ⟨6,a,b,n⟩ p=p.routes.all fun r=> !fE r a:=rfl
     rw[T,U,nn];cases p.routes.any fun r=>fE r a <;> rfl
 . simp only at E J h1 h2;rcases E with E|E <;> subst E
   . simp only[oV,lW];simp;rw[bD (by omega)];omega
   . simp only[oV,lW];simp;rw[bD (by omega)];omega
end Dec
namespace Ve
open Go.Ve Dec
open Go.Proofs.YthephioccidfgaaGreatDoor.Nu
def adA{l:List TNode}(F:tY l=true)(E:qX TNode.leaf TNode.yes TNode.no l=true)(A:l≠[]){k:Nat}{d:List Decision}(h:F7 l k d):d.length<l.length:=by obtain⟨V,O⟩:=IP F E _ [] [0] (Xae _) (BInv.start A);obtain⟨T,h1,J⟩:=O.short h;rw[Ap E F h h1];exact J
end Ve
namespace Sq
open Go.Proofs.YthephioccidfgaaGreatDoor.Nu (ltB geB)
open Mv (bZ cL aR)
def xQ(x:Instance)(i:Int):List Visit:=match x.orders[i.toNat]? with|some o=>eK o i|none=>[]
def afV(x:Instance)(i:Int):(xQ x i).length<=2:=by
 unfold xQ;split
 ·unfold eK;rw[Xaf];split <;> split <;> simp
 ·exact Xab _
def apO(x:Instance)(o:Int)(l:List Visit)(q:Pair):Bool:=q.b == o&&((decide (q.a<0)||decide (q.a>=(x.orders.length:Int)))|| !nM l (xQ x q.a))
def EH(x:Instance)(o:Int)(l:List Visit):Bool:= !x.before.any (apO x o l)
def Nl(l V:List Visit)(k:Nat):List Visit:=match V[k]? with
 | some v=>if(decide (cD l v<0)&&((k:Int) == 0||decide (cD l (V.getD 0 ⟨0,false⟩)>=0)))=true then[v]else[]
 | none=>[]
def ayA(l V:List Visit)(m:Nat):List Visit:=(List.range m).flatMap (Nl l V)
def apK(x:Instance)(set:Int)(l:List Visit)(i:Nat):Bool:=(!BH set i||OJ x i)|| !EH x i l
def T3(x:Instance)(set:Int)(l:List Visit)(i:Nat):List Visit:=if apK x set l i=true then[]else ayA l (xQ x i) (xQ x i).length
def RL(x:Instance)(set:Int)(l:List Visit)(k:Nat):List Visit:=(List.range k).flatMap (T3 x set l)
def Ot(x:Instance)(set:Int)(l:List Visit):List Visit:=RL x set l x.orders.length
end Sq
namespace Rx
open Go.Nu Go.So
open Sq (W eN dX cR NetOk fB)
open Nu (ltB geB)
open Mv (bZ cL aR)
end Rx
end Go.Proofs.YthephioccidfgaaGreatDoor
section
namespace Go.Aw
end Go.Aw
namespace Go.Proofs.YthephioccidfgaaGreatDoor.Rx
open Go.Aw Go.Aw.D Go.Proofs Ty Go.Nu Go.So
open Sq (W eN dX cR NetOk fB)
open Nu (ltB geB)
open Mv (bZ cL aR)
def stR(o:Order)(d:Bool):Stop:=if d=true then o.drop else o.pick
end Go.Proofs.YthephioccidfgaaGreatDoor.Rx
end
namespace Go.Proofs.YthephioccidfgaaGreatDoor
open Go.Aw Go.Aw.D Go.Proofs Ty
namespace Rx
open Go.Nu Go.So
open Sq (W eN dX cR NetOk)
open Nu (ltB geB)
open Mv (bZ cL aR)
end Rx
namespace Rx
open Go.Nu Go.So
open Sq (W eN dX cR NetOk)
theorem tD{x:Instance}{o:Nat}(A:o<x.orders.length):eN x.orders (o:Nat)=Sq.fL (cT x o) (o:Nat):=by
 have E:bS ((o:Nat):Int) x.orders.length=false:=by unfold bS;simp;omega
 unfold eN;rw[if_neg (by rw[E];simp)];show(match x.orders[(((o:Nat):Int)).toNat]? with|some o_1=>_|none=>_)=_;rw[Xao,jQ A]
end Rx
namespace Rx
open Go.Nu Go.So
open Sq (W eN dX cR NetOk fB BZ)
open Nu (ltB geB)
open Mv (bZ cL aR)
end Rx
namespace Rx
open Go.Nu Go.So
open Sq (W eN dX cR NetOk)
open Nu (ltB geB)
open Mv (bZ cL aR)
end Rx
namespace Rx
open Go.Nu Go.So
open Sq (W eN dX cR NetOk fB BZ)
open Nu (ltB geB)
open Mv (bZ cL aR)
end Rx
namespace Rx
open Sq
def dimN(x:Instance):Nat:=(gX x.types).toNat
end Rx
namespace Rx
open Sq
def both(t:VType)(l:List Clk):List Clk:=l.flatMap fun c=>[c,axQ t c]
structure Cr(k:Nat)(cs:List Clk)(R:List Mom):Prop where
 sub:∀c∈cs,(⟨c.ready,c.since⟩:Mom)∈R
 dom:∀m∈R,∃c∈cs,c.ready=m.time/\c.since<=m.driven
 rng:∀m∈R,(0<=m.time/\m.time<=8192)/\ -(12288*(k:Int))<=m.driven/\m.driven<=4096
section
variable{n:Network}{t:VType}{place goal:Int}{k:Nat}{cs:List Clk}{R:List Mom}
end
end Rx
namespace Rx
open Sq
open Go.Nu (Bt)
structure Rel(x:Instance)(t:VType)(p:Part)(q:RP):Prop where
 place:p.place=q.place
 memory:p.memory=q.memory
 board:p.board=q.board
 visits:p.visits=q.visits
 load:p.load=q.load
 ll:q.load.length=dimN x
 mem:q.memory<2^x.orders.length
 clk:∃R,Cr p.visits p.clocks R/\q.moms=awD t R
section
variable{x:Instance}{k:Nat}{near:List Int}{du:Option (List ByteArray)}{dl:List ByteArray}{M:Nat}{cn:Int}{lim fnd:Bool}{le:ByteArray}{p:Part}{q:RP}{o:Nat}{d:Bool}
abbrev wOf(x:Instance)(k:Nat)(near:List Int)(du:Option (List ByteArray))(M:Nat):Wk:=⟨x,k,azY x k,near,du,M⟩
end
end Rx
namespace Rx
open Go.Nu
end Rx
namespace Rx
open Sq
open Go.Nu
def axA(w:Wk)(p:Part):List ByteArray:=if(atO w p).2.2=true then[azC w p (atO w p).1 (atO w p).2.1]else[]
def axM(w:Wk)(vs:List Visit):Nat->Part->List ByteArray
 | 0,p=>axA w p
 | f+1,p=>axA w p++vs.flatMap fun v=>if(YO w p v).2=true then axM w vs f (YO w p v).1 else[]
section
variable{x:Instance}{k:Nat}{near:List Int}{du:Option (List ByteArray)}{dl:List ByteArray}{M:Nat}{cn:Int}{lim fnd:Bool}{le:ByteArray}{p p':Part}{q q':RP}{o:Nat}{dr:Bool}{v d:Rat}{miles:Int}
end
end Rx
namespace Rx
open Sq
open Go.Nu
section
variable{x:Instance}{k:Nat}{near:List Int}{du:Option (List ByteArray)}{dl:List ByteArray}{M:Nat}{cn:Int}{lim fnd:Bool}{le:ByteArray}{p p':Part}{q q':RP}{o:Nat}{dr:Bool}{v d:Rat}{miles:Int}
def asX{O:Order}{i:Nat}{v:Visit}(h:v∈fL O (i:Nat)):∃d,v=⟨(i:Nat),d⟩/\(stR O d).place>=0:=by
 unfold fL at h;rcases Xat.1 h with h|h
 ·split at h
  ·next A=>exact⟨false,by simpa using h,by simpa[stR]using A⟩
  ·cases h
 ·split at h
  ·next A=>exact⟨true,by simpa using h,by simpa[stR]using A⟩
  ·cases h
end
end Rx
namespace Rx
open Sq
open Go.Nu
end Rx
namespace Rx
open Sq
open Go.Nu
section
variable{x:Instance}{k:Nat}{near:List Int}{du:Option (List ByteArray)}{dl:List ByteArray}{M:Nat}{cn:Int}{lim fnd:Bool}{le:ByteArray}{p p':Part}{q q':RP}{o:Nat}{dr:Bool}{v d:Rat}{miles:Int}
def Vis(x:Instance)(v:Visit):Prop:=∃i d,v=⟨(i:Nat),d⟩/\i<x.orders.length/\(stR (cT x i) d).place>=0/\(cT x i).off=false
end
end Rx
namespace Rx
open Sq
open Go.Nu
section
variable{x:Instance}{k:Nat}{near near':List Int}{du du':Option (List ByteArray)}{dl dl':List ByteArray}{M:Nat}{cn:Int}{lim fnd:Bool}{le:ByteArray}{p p':Part}{q q':RP}{o:Nat}{dr:Bool}{v d:Rat}{miles:Int}
end
end Rx
namespace Rx
open Sq
open Go.Nu
section
variable{x:Instance}{k:Nat}{near near':List Int}{du du':Option (List ByteArray)}{dl dl':List ByteArray}{M:Nat}{cn:Int}{lim fnd:Bool}{le:ByteArray}{p q:Part}{a b:RP}{o:Nat}{dr:Bool}{v d:Rat}{miles:Int}{fl:Bool}
end
end Rx
namespace Rx
open Sq
open Go.Nu
section
variable{x:Instance}{k:Nat}{near near':List Int}{du du':Option (List ByteArray)}{dl dl':List ByteArray}{M:Nat}{cn:Int}{lim fnd:Bool}{le:ByteArray}{p q:Part}{a b:RP}{o:Nat}{dr:Bool}{v d:Rat}{miles:Int}{fl:Bool}
end
end Rx
namespace Rx
open Go.Nu Go.So
open Sq (W eN dX cR NetOk)
open Nu (ltB geB)
open Mv (bZ cL aR)
end Rx
namespace Rx
open Go.Nu Go.So
open Sq (W eN dX cR NetOk BZ)
open Nu (ltB geB)
open Mv (bZ cL aR)
abbrev G9(x:Instance)(k:Nat)(near:List Int)(du:Option (List ByteArray)):List ByteArray:=axM (wOf x k near du (asD x).length) (asD x) (asD x).length (aAN (wOf x k near du (asD x).length))
end Rx
end Go.Proofs.YthephioccidfgaaGreatDoor
section
namespace Go.Nu
def lN:Nat->(Nat->Int)->Int
 | 0,_=>0
 | n+1,f=>lN n f+f n
def TG(f g:Nat->Int):∀n,lN n (fun i=>f i+g i)=lN n f+lN n g
 | 0=>rfl
 | n+1=>by simp only[lN,TG f g n];omega
def Fk{f g:Nat->Int}:∀{n},(∀i,i<n->f i<=g i)->lN n f<=lN n g
 | 0,_=>Int.le_refl _
 | n+1,h=>by
  have:=Fk (n:=n) fun i A=>h i (by omega)
  have:=h n (by omega);simp only[lN];omega
def pT{f g:Nat->Int}:∀{n},(∀i,i<n->f i=g i)->lN n f=lN n g
 | 0,_=>rfl
 | n+1,h=>by simp only[lN,pT (n:=n) fun i A=>h i (by omega),h n (by omega)]
def CX:∀n,lN n (fun _=>0)=0
 | 0=>rfl
 | n+1=>by simp only[lN,CX n];rfl
def Ck{f:Nat->Int}{n:Nat}(h:∀i,i<n->0<=f i):0<=lN n f:=by
 have:=Fk h
 rwa [CX]at this
def GF{f:Nat->Int}{i:Nat}:∀{n:Nat},(∀i,i<n->0<=f i)->i<n->f i<=lN n f
 | n+1,h,A=>by
  have h0:=Ck (n:=n) fun i A=>h i (by omega)
  have h1:=h n (by omega);show f i<=lN n f+f n;by_cases e:i=n
  ·subst e;omega
  ·have:=GF (n:=n) (fun i A=>h i (by omega)) (show i<n by omega);omega
def T5{f:Nat->Int}{n:Nat}(h:∀i,n<=i->f i=0):∀m,lN (n+m) f=lN n f
 | 0=>rfl
 | m+1=>by show lN (n+m) f+f (n+m)=_;rw[T5 h m,h _ (by omega)];omega
def xC(k:Nat)(w:Nat->Int)(S s:Nat):Int:=lN k fun i=>if(S.testBit i&&s.testBit i)=true then w i else 0
def GS(l:List Nat)(i:Nat):Nat:=l.countP fun s=>s.testBit i
def F6(k:Nat)(w:Nat->Int)(S:Nat):∀l:List Nat,(l.map (xC k w S)).sum=lN k fun i=>if S.testBit i=true then(GS l i:Int)*w i else 0
 | []=>by rw[List.map_nil,List.sum_nil];refine(CX k).symm.trans (pT fun i _=>?_);have e:(GS [] i:Int)=0:=rfl;rw[e,Int.zero_mul,ite_self]
 | s::l=>by
  rw[List.map_cons,List.sum_cons,F6 k w S l];unfold xC;rw[<-TG];refine pT fun i _=>?_
  unfold GS;rw[List.countP_cons];cases S.testBit i <;> cases s.testBit i <;> simp;rw[Int.add_mul];omega
def asG{k:Nat}{w:Nat->Int}{S:Nat}{l:List Nat}(F:∀i,i<k->0<=w i)(h:∀i,i<k->S.testBit i=true->GS l i<=1):(l.map (xC k w S)).sum<=lN k fun i=>if S.testBit i=true then w i else 0:=by
 rw[F6];refine Fk fun i E=>?_
 by_cases A:S.testBit i=true
 ·rw[if_pos A,if_pos A];have h1:=h i E A;have J:=F i E;have:(GS l i:Int)=0\/(GS l i:Int)=1:=by omega
  rcases this with e|e <;> rw[e] <;> omega
 ·rw[if_neg A,if_neg A];exact Int.le_refl _
def arN{k:Nat}{w:Nat->Int}{S:Nat}{l:List Nat}(h:∀i,i<k->S.testBit i=true->GS l i=1):(l.map (xC k w S)).sum=lN k fun i=>if S.testBit i=true then w i else 0:=by
 rw[F6];refine pT fun i E=>?_
 by_cases A:S.testBit i=true
 ·rw[if_pos A,if_pos A,h i E A];omega
 ·rw[if_neg A,if_neg A]
def Oz{α:Type}{f g:α->Int}:∀{l:List α},(∀a∈l,f a<=g a)->(l.map f).sum<=(l.map g).sum
 | [],_=>Int.le_refl _
 | a::l,h=>by
  simp only[List.map_cons,List.sum_cons];have:=Oz (l:=l) fun b A=>h b (List.mem_cons_of_mem _ A)
  have:=h a (List.mem_cons_self ..);omega
def Qe{α:Type}(c:Int)(f:α->Int):∀l:List α,(l.map fun a=>c*f a).sum=c*(l.map f).sum
 | []=>by simp
 | a::l=>by simp only[List.map_cons,List.sum_cons,Qe c f l,Int.mul_add]
def Kk{α:Type}{f:α->Int}:∀{l:List α},(∀a∈l,0<=f a)->0<=(l.map f).sum
 | [],_=>by simp
 | a::l,h=>by
  simp only[List.map_cons,List.sum_cons];have:=Kk (l:=l) fun b A=>h b (List.mem_cons_of_mem _ A)
  have:=h a (List.mem_cons_self ..);omega
def arT{α:Type}{f:α->Int}{l:List α}{a:α}(h:∀a∈l,0<=f a)(A:a∈l):f a<=(l.map f).sum:=by
 induction l with
 | nil=>cases A
 | cons b l ih=>
  simp only[List.map_cons,List.sum_cons];have h0:=h b (List.mem_cons_self ..);have h1:=Kk (l:=l) fun b E=>h b (List.mem_cons_of_mem _ E)
  rcases List.mem_cons.1 A with rfl|A
  ·omega
  ·have:=ih (fun b E=>h b (List.mem_cons_of_mem _ E)) A;omega
def Xx{k S:Nat}{l:List Nat}{c:Nat->Int}(h3:(lN k fun i=>if S.testBit i=true then 1 else 0)<=3)
  (h:∀i,i<k->S.testBit i=true->GS l i<=1) (E:∀s∈l,2*c s<=xC k (fun _=>1) S s):(l.map c).sum<=1:=by
 have h1:=asG (w:=fun _=>1) (fun _ _=>by omega) h;have A:=Oz E;rw[Qe]at A;omega
def asP{k S:Nat}{l:List Nat}{c:Nat->Int}{w:Nat->Int}{C:Int}
  (h:∀i,i<k->S.testBit i=true->GS l i=1) (A:∀s∈l,xC k w S s<=C*c s):(lN k fun i=>if S.testBit i=true then w i else 0)<=C*(l.map c).sum:=by
 rw[<-arN h,<-Qe];exact Oz A
end Go.Nu
end
section
namespace Go.Proofs.YthephioccidfgaaGreatDoor.Sq
open Go.Aw Go.Aw.D Go.Proofs Ty
open Go.Nu (lN Fk pT Ck)
def ayK(a b:Int):W (W a+b)=W (a+b):=by
 show IntKind.i64.wrap (IntKind.i64.wrap a+b)=IntKind.i64.wrap (a+b);have e:∀n:Int,IntKind.i64.wrap n=if n%18446744073709551616>=9223372036854775808 then n%18446744073709551616-18446744073709551616 else n%18446744073709551616:=fun n=>by show(if(true&&decide (n%18446744073709551616>=9223372036854775808))=true then n%18446744073709551616-18446744073709551616 else n%18446744073709551616)=_;simp
 simp only[e]
 repeat' split
 all_goals omega
def fE(l:List Visit)(o:Int):Bool:=l.any fun v=>v.order == o
def tZ(x:Instance)(j i:Nat):Int:=match x.orders[i]? with|some o=>o.load.getD j 0|none=>0
def LI(l:List Visit)(i:Int)(b:Bool)(k:Nat):Bool:=(l.take k).foldl (fun s v=>if(v.order != i)=true then s else !v.drop) b
def Gz{l:List Visit}{i:Int}{b:Bool}{k:Nat}{v:Visit}(h:l[k]?=some v):LI l i b (k+1)=if(v.order != i)=true then LI l i b k else !v.drop:=by unfold LI;rw[aZ h,Xbq];rfl
def MS(l:List Visit)(i:Int)(b:Bool):∀k,k<=l.length->((∀u∈l.take k,u.order≠i)/\LI l i b k=b)\/∃m u,m<k/\l[m]?=some u/\u.order=i/\LI l i b k= !u.drop
 | 0,_=>.inl ⟨by simp,rfl⟩
 | k+1,hk=>by
  obtain⟨v,F⟩:=aI (show k<l.length by omega);rw[Gz F];by_cases h:v.order=i
  ·right;rw[if_neg (by simp[h])];exact⟨k,v,by omega,F,h,rfl⟩
  ·rw[if_pos (by simp[h])];rcases MS l i b k (by omega)with⟨h1,E⟩|⟨m,u,h1,E,h3,J⟩
   ·left;refine⟨fun u A=>?_,E⟩;rw[aZ F]at A;rcases Xat.1 A with A|A
    ·exact h1 u A
    ·simp at A;subst A;exact h
   ·right;exact⟨m,u,by omega,E,h3,J⟩
def RV(l:List Visit)(i:Int)(n:Nat)(b:Bool):∀m,m<=l.length->Xf l i n b m=(LI l i b (min n m),fE (l.take m) i)
 | 0,_=>by rw[Nat.min_zero];rfl
 | m+1,hm=>by
  obtain⟨v,A⟩:=aI (show m<l.length by omega);rw[M2 A,RV l i n b m (by omega)];have e:fE (l.take (m+1)) i=(fE (l.take m) i||v.order == i):=by unfold fE;rw[aZ A,List.any_append];simp
  rw[e];unfold onS;by_cases h:v.order=i
  ·rw[if_neg (by simp[h])];by_cases E:m<n
   ·rw[if_pos (by simp;omega),show min n (m+1)=m+1 by omega,Gz A,if_neg (by simp[h])];simp[h]
   ·rw[if_neg (by simp;omega),show min n (m+1)=min n m by omega];simp[h]
  ·rw[if_pos (by simp[h])];have:(v.order == i)=false:=by simpa using h
   rw[this,Bool.or_false];by_cases E:m<n
   ·rw[show min n (m+1)=m+1 by omega,Gz A,if_pos (by simp[h]),show min n m=m by omega]
   ·rw[show min n (m+1)=min n m by omega]
def atC(l:List Visit)(k i:Nat)(o:Order)(A:k<=l.length):onB l k i o=(LI l i (decide (o.pick.place<0)) k&&fE l i):=by unfold onB;have:avO l i k (decide (o.pick.place<0))=Xf l i k (decide (o.pick.place<0)) l.length:=rfl;rw[this,RV l i k _ _ (Xae _),Xad,show min k l.length=k by omega]
def Ox(x:Instance)(l:List Visit)(k i:Nat):Bool:=match x.orders[i]? with|some o=>LI l i (decide (o.pick.place<0)) k&&fE l i|none=>false
def pU(x:Instance)(l:List Visit)(k j i:Nat):Int:=if Ox x l k i=true then tZ x j i else 0
def Ti(ll:List (List Int))(a:List Int)(j:Nat):zK (ll++[a]) j=W (zK ll j+a.getD j 0):=by unfold zK;rw[Xbq];rfl
def Kz(x:Instance)(l:List Visit)(k j:Nat)(E:k<=l.length):∀n,n<=x.orders.length->zK (tF x.orders l k n) j=W (lN n (pU x l k j))
 | 0,_=>rfl
 | n+1,hn=>by
  obtain⟨o,A⟩:=aI (show n<x.orders.length by omega);have ih:=Kz x l k j E n (by omega);rw[Fv A];show _=W (lN n (pU x l k j)+pU x l k j n);have e:Ox x l k n=onB l k n o:=by unfold Ox;rw[A,atC l k n o E]
  have F:pU x l k j n=if onB l k n o=true then o.load.getD j 0 else 0:=by unfold pU tZ;rw[e,A]
  rw[F];by_cases h:onB l k n o=true
  ·rw[if_pos h,if_pos h,Ti,ih,ayK]
  ·rw[if_neg h,if_neg h,Xbl,ih,Int.add_zero]
def FE{l:List Int}:oR l=0↔∀e∈l,e=0:=by
 induction l with
 | nil=>simp[oR]
 | cons a r ih=>
  simp only[oR];by_cases h:(a != 0)=true
  ·rw[if_pos h];have E:a≠0:=by simpa using h
   exact⟨fun e=>absurd e E,fun e=>absurd (e a (by simp)) E⟩
  ·rw[if_neg h,ih];have E:a=0:=by simpa using h
   constructor
   ·intro e b A;rcases Xba.1 A with rfl|A
    ·exact E
    ·exact e b A
   ·intro e b A;exact e b (by simp[A])
def alW{x:Instance}{r:Route}{d:Nat}{t:VType}(E:yN x r=0)(ht:x.types[r.type.toNat]?=some t)(hd:t.cap.length=d)(aa:x.orders.length<=10)
  (hl:∀o∈x.orders,o.load.length=d/\∀n∈o.load,0<=n/\n<=1000) {k j:Nat} (hk:k<=r.visits.length) (hj:j<d):lN x.orders.length (pU x r.visits k j)<=t.cap.getD j 0:=by
 unfold yN at E;split at E
 ·cases E
 split at E
 ·next h1=>rw[E]at h1;cases h1
 next h1=>
 split at E
 ·cases E
 next O=>
 unfold Db at h1 O;split at h1
 ·next h3=>exact absurd h3 h1
 next h3=>
 rw[if_neg h3]at O;split at h1
 ·next U=>exact absurd U h1
 next U=>
 rw[if_neg U]at O;have X:oR (VH x r.visits)=0:=by simpa using U
 have Y:(tG x r.visits k).2=0:=FE.1 X _ (Xac (ahU hk));have hm:(tG x r.visits k).1∈azN x r.visits (r.visits.length+1):=Xan.2 ⟨k,Xai.2 (by omega),rfl⟩;have h5:=Xap.1 (Xbz.2 O) _ hm;have F:HR x r.type=t.cap:=by unfold HR;rw[ht]
 have T:lA (tG x r.visits k).1 t.cap=true:=by rw[<-F];simpa using h5
 unfold lA at T;rw[Xah,Xaj]at T;have A:(tG x r.visits k).1.length=d:=by have:=T.1;simp at this;omega
 have J:=T.2 j (Xai.2 (by omega));unfold tG Yf at Y J A;split at Y
 ·next he=>
  rw[if_pos he]at J A;simp only[Xaa,Xck]at A;have h8:((List.range (gL x).toNat).map (zK (tF x.orders r.visits k x.orders.length))).getD j 0=zK (tF x.orders r.visits k x.orders.length) j:=by rw[List.getD,List.getElem?_map,List.getElem?_range (by omega)];rfl
  rw[h8,Kz x r.visits k j hk _ (Xae _)]at J;have hb:∀i,i<x.orders.length->0<=pU x r.visits k j i/\pU x r.visits k j i<=1000:=by
   intro i Z;obtain⟨o,ho⟩:=aI Z;unfold pU tZ;rw[ho];split
   ·obtain⟨l1,l2⟩:=hl o (Xac ho);obtain⟨v,hv⟩:=aI (show j<o.load.length by omega);show 0<=o.load.getD j 0/\o.load.getD j 0<=1000;rw[List.getD,hv];exact l2 v (Xac hv)
   ·omega
  have b1:=Ck fun i Z=>(hb i Z).1
  have b2:lN x.orders.length (pU x r.visits k j)<=10000:=by
   have:∀n,n<=x.orders.length->lN n (pU x r.visits k j)<=1000*n:=by
    intro n hn;induction n with
    | zero=>exact Xaz _
    | succ n ih=>have:=ih (by omega);have:=(hb n (by omega)).2;show lN n _+_<=_;omega
   have:=this _ (Xae _);omega
  rw[show W (lN x.orders.length (pU x r.visits k j))=lN x.orders.length (pU x r.visits k j)from bD (by omega)]at J;simpa using J
 ·cases Y
def pP{x:Instance}{r:Route}(h:(oO x r).2.2=0):eR x r.visits=0/\yN x r=0/\∃t,x.types[r.type.toNat]?=some t:=by
 unfold oO at h;split at h
 ·cases h
 cases A:x.types[r.type.toNat]? with
 | none=>rw[A]at h;cases h
 | some t=>
  rw[A]at h;have h:(JT x r t).2.2=0:=h;unfold JT at h;split at h
  ·next h1=>have h:eR x r.visits=0:=h;rw[h]at h1;cases h1
  next h1=>
  split at h
  ·cases h
  split at h
  ·next h3=>have h:yN x r=0:=h;rw[h]at h3;cases h3
  next h3=>
  exact⟨by simpa using h1,by simpa using h3,t,rfl⟩
def WX{x:Instance}{l:List Visit}(h:eR x l=0):E5 x l=true:=by
 unfold eR at h
 repeat' split at h
 all_goals first|(exfalso;omega)|skip
 rename_i h1 F h3 O A E J;simpa using A
def asA{x:Instance}{l:List Visit}(h:eR x l=0){u:Visit}(O:u∈l){o:Order}(J:x.orders[u.order.toNat]?=some o)(T:o.drop.place= -1):u.drop=false:=by
 have E:=Xaj.1 (WX h) u O;unfold Sq.rR at E;simp only[Xau,Xam,decide_eq_false_iff_not]at E;have h1:=E.1.1;unfold MD at h1;rw[J]at h1;cases F:u.drop with
 | false=>rfl
 | true=>
  refine absurd ?_ h1;have U:∀y∈eK o u.order,tO u y=false:=by
   intro y A;unfold eK at A;rw[if_neg (show ¬(o.drop.place != -1)=true by rw[T];simp),Xbl]at A;split at A
   ·simp only[Xbs]at A;rw[A];unfold tO;rw[F];simp
   ·cases A
  show cD (eK o u.order) u<0;unfold cD;rw[lO U];decide
def amC{x:Instance}{l:List Visit}{i:Nat}{o:Order}(F:x.orders[i]?=some o)(A:fE l i=true)(E:o.pick.place<0):Ox x l 0 i=true:=by unfold Ox;rw[F];show(LI l i (decide (o.pick.place<0)) 0&&fE l i)=true;rw[A,decide_eq_true E];rfl
def ayD{x:Instance}{l:List Visit}(h:eR x l=0){i:Nat}{o:Order}(E:x.orders[i]?=some o)(F:fE l i=true)(T:o.drop.place= -1):Ox x l l.length i=true:=by
 unfold Ox;rw[E];show(LI l i (decide (o.pick.place<0)) l.length&&fE l i)=true;rw[F,Xbo];rcases MS l i (decide (o.pick.place<0)) l.length (Xae _)with⟨h1,_⟩|⟨m,u,h1,J,h3,U⟩
 ·rw[Xad]at h1;obtain⟨u,O,A⟩:=Xak.1 F;exact absurd (by simpa using A) (h1 u O)
 ·rw[U,asA h (Xac J) (o:=o) (by rw[h3];exact E) T];rfl
structure PlanOk(x:Instance)(p:Plan):Prop where
 ev:∀r∈p.routes,eR x r.visits=0/\yN x r=0/\∃t,x.types[r.type.toNat]?=some t
 once:∀i,i<x.orders.length->onA p i<=1
 must:∀(i:Nat) (o:Order),x.orders[i]?=some o->o.off=false->o.penalty= -1->onA p i=1
def adX{x:Instance}{p:Plan}(h:Fb x p=0):PlanOk x p:=by
 unfold Fb at h
 repeat' split at h
 all_goals first|(exfalso;omega)|skip
 ·next h1=>exfalso;rw[h]at h1;cases h1
 rename_i h1 Z h3 h4 h5 X;have O:oR (p.routes.map fun r=>(oO x r).2.2)=0:=by simpa using h1
 have F:∀i,i<x.orders.length->onA p i+onU p i<=1:=by intro i A;have:=Xap.1 (Xbz.2 h3) i (Xai.2 A);unfold ES at this;simp only[decide_eq_true_eq]at this;omega
 refine⟨fun r Y=>pP (FE.1 O _ (Xan.2 ⟨r,Y,rfl⟩)),fun i A=>by have:=F i A;omega,fun i o U J E=>?_⟩;have A:i<x.orders.length:=(List.getElem?_eq_some_iff.1 U).1;have:=F i A;have T:=Xap.1 (Xbz.2 X) i (Xai.2 A);unfold Jy at T;rw[U]at T;simp only[J,E,Xcg,Xbo,beq_self_eq_true,Xax,not_or,Xay,decide_eq_true_eq]at T;omega
end Go.Proofs.YthephioccidfgaaGreatDoor.Sq
end
section
namespace Go.Nu
open Go Go.Lib
end Go.Nu
end
section
namespace Go.Aw.D
open Go.Aw Go.RowKit Go.Proofs Go.Proofs.YthephioccidfgaaGreatDoor Go.WideShapes Go.ChangeShapes
def OL:List (String×DataW Unit):=[("math/bits.deBruijn32tab",Go.Proofs.YthephioccidfgaaGreatDoor.Rows.laid_math_bits_deBruijn32tab),("math/bits.deBruijn64tab",Go.Proofs.YthephioccidfgaaGreatDoor.Rows.laid_math_bits_deBruijn64tab),("internal/strconv.uint64pow10",Go.Proofs.YthephioccidfgaaGreatDoor.Rows.laid_internal_strconv_uint64pow10)]
theorem alE:(Go.Proofs.YthephioccidfgaaGreatDoor.Rows.laid_math_bits_deBruijn64tab:DataW Unit)=Lib.tabData .u8 (Lib.deBruijn64tab.map fun z:Nat=>(z:Int)):=by kernel_rfl
theorem anL:(Go.Proofs.YthephioccidfgaaGreatDoor.Rows.laid_internal_strconv_uint64pow10:DataW Unit)=Lib.tabData .u64 Lib.pow10Tab:=by kernel_rfl
theorem aeJ{W:World}(h:laidMetH Tryz.prog OL W):PH W:=by
 have h0:laidMet Tryz.prog OL W:=(Go.MakeChecks.laidMetH_plain Tryz.prog OL W (by kernel_rfl))▸h;have h1:=laidMet.tail h0;have A:=laidMet.tail h1;rw[alE]at h1;rw[anL]at A;have b:=Lib.tabIs_of_head (g:=3) (by kernel_rfl) (by kernel_rfl) (t:=367) (e:=5) (n:=64) Tryz.underlying367 Tryz.underlying5 (by kernel_rfl) (by kernel_rfl) h1;have p:=Lib.tabIs_of_head (g:=1) (by kernel_rfl) (by kernel_rfl) (t:=357) (e:=338) (n:=20) Tryz.underlying357 Tryz.underlying338 (by kernel_rfl) (by kernel_rfl) A;unfold Lib.TabIs World.var? at b p;rw[show Tryz.prog.globalNamed "math/bits.deBruijn64tab" = some 3 by kernel_rfl]at b;rw[show Tryz.prog.globalNamed "internal/strconv.uint64pow10" = some 1 by kernel_rfl]at p;intro t E;simp only[adI,List.mem_cons,List.not_mem_nil,or_false]at E;rcases E with rfl|rfl
 . exact p
 . have:Vz=((Lib.deBruijn64tab.map fun z:Nat=>(z:Int)).map fun z=>Value.int .u8 z).toArray:=by simp[Vz]
   rw[this];exact b
end Go.Aw.D
end
