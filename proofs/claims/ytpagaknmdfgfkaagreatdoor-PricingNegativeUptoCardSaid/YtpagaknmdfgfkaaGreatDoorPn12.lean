import Derived.Lib.ItoaMem
import Derived.Test.YtpagaknmdfgfkaaGreatDoorPn08
import Derived.Test.YtpagaknmdfgfkaaGreatDoorPn11
set_option linter.unusedSimpArgs false
set_option linter.unusedVariables false
set_option linter.defProp false
set_option maxRecDepth 100000
section
namespace Go.Aw
open Go.RowKit
section
variable{P:Program}{f:FuncId}{args:List AV}{H:aG}{K:AV->aG->Prop}
def aoQ{S:Sg}{w:World}{v:Value}(h:rep S w (.v (.slice none 0 0)) v):rep S w (.sl []) v:=by
 have E:v=.slice none 0 0:=by simp only[rep]at h;exact h
 subst E;simp only[rep];exact⟨none,0,0,rfl,rfl,Nat.le_refl _,Nat.zero_le _,.inl trivial⟩
def bK.nil0{E:List AV}(h:bK P f (.sl []::E) H K):bK P f (.v (.slice none 0 0)::E) H K:=fun S w vals J F=>h S w vals J (by simp only[bO]at F |-;obtain⟨u,t,e,h1,I⟩:=F;exact⟨u,t,e,aoQ h1,I⟩)
end
end Go.Aw
end
namespace Go.Proofs.YtpagaknmdfgfkaaGreatDoor
open Go.Aw Go.Aw.D Go.Proofs Ty
namespace Sq
open Go.Proofs.Tryz
open Go.Nu (hY)
open Go.Proofs.YtpagaknmdfgfkaaGreatDoor.Nu (ltB geB Fb)
open Mv (bP bS aO)
def KS(v:Visit):Int:=if v.drop=true then 1 else 0
def or2(a b:Int):Int:=if a=0 then b else a
def qW(a b:Visit):Int:=or2 (hY a.order b.order) (hY (KS a) (KS b))
def SR:List Visit->List Visit->Int
 | [],[]=>0
 | [],_::_=> -1
 | _::_,[]=>1
 | a::l,b::m=>or2 (qW a b) (SR l m)
def abK:List Int->Int
 | []=>0
 | a::l=>if a=0 then abK l else a
def tT{α:Type}{l:List α}{k:Nat}{u:α}(h:l[k]?=some u):l.drop k=u::l.drop (k+1):=by obtain⟨E,rfl⟩:=List.getElem?_eq_some_iff.1 h;rw[Xck E]
def axQ(l:List Int)(hl:l.length<=1048576):PC prog 312 [.sl (l.map bC)] (int (abK l)):=by
 refine pcd func312 rfl rfl ?_;simp only[go_sem];refine⟨fun ρ H=>∃(k:Nat),k<=l.length/\ρ 3=int 0/\ρ 6=.sl (l.map bC)/\ρ 7=int (l.length:Nat)/\ρ 8=int k/\abK l=abK (l.drop k),fun ρ _=>l.length-aR (ρ 8),⟨0,Xaa _,rfl,rfl,rfl,(by simp only[go_sem];rfl),rfl⟩,?_⟩;rintro ρ H ⟨k,hk,T,Z,Y,J,F⟩;simp only[go_sem,Y,J];refine jC hk (fun E=>?_) (fun I=>?_)
 ·obtain⟨u,X⟩:=aK E;have b1:=inB E;rw[tT X,abK]at F;simp only[go_sem,T,Z,J,aC X,b1];refine aA (fun O=>?_) (fun O=>?_)
  ·simp only[go_sem,];exact bP (by rw[F,if_neg (by simpa using O)])
  ·rw[if_pos (by simpa using O)]at F;simp only[go_sem,T,Z,Y,J,aQ k];exact⟨⟨k+1,E,rfl,F⟩,by simp only[aL];omega⟩
 ·subst I;simp only[go_sem,T,];exact bP (by rw[F,Xcj];rfl)
def aeQ(v:Visit):PC prog 311 [.agg (aF v)] (int (KS v)):=by
 refine pcd func311 rfl rfl ?_;simp only[go_sem];unfold KS;apply aA <;> intro E
 ·simp only[go_sem,E];exact bP rfl
 ·simp only[go_sem,E];exact bP rfl
def VO(a b:Visit):PC prog 265 [.agg (aF a),.agg (aF b)] (int (qW a b)):=by
 refine pcd func265 rfl rfl ?_;simp only[go_sem];refine HV (by kernel_rfl) ?_;simp only[go_sem];refine⟨_,(Fb a.order b.order).q rfl,?_⟩;simp only[go_sem];refine⟨_,(aeQ a).q rfl,?_⟩;simp only[go_sem];refine⟨_,(aeQ b).q rfl,?_⟩;simp only[go_sem];refine⟨_,(Fb (KS a) (KS b)).q rfl,?_⟩;simp only[go_sem];refine aH (axQ [hY a.order b.order,hY (KS a) (KS b)] (by simp)) ?_;simp only[go_sem];refine bP ?_;unfold qW or2;simp only[abK];split
 ·split
  ·next h=>exact h.symm
  ·rfl
 ·rfl
def amO(a b:List Visit)(ha:a.length<=1048576):PC prog 264 [.sl (a.map aF),.sl (b.map aF),.v (.func (.func 265) #[] #[])] (int (SR a b)):=by
 have ae:aE prog 265=true:=by kernel_rfl
 refine pcd func264 rfl rfl ?_;simp only[go_sem];refine⟨fun ρ H=>∃(k:Nat),k<=a.length/\ρ 0=.sl (a.map aF)/\ρ 1=.sl (b.map aF)/\ρ 2=.v (.func (.func 265) #[] #[])/\ρ 11=.sl (a.map aF)/\ρ 12=int (a.length:Nat)/\ρ 13=int k/\SR a b=SR (a.drop k) (b.drop k)/\k<=b.length,fun ρ _=>a.length-aR (ρ 13),⟨0,Xaa _,rfl,rfl,rfl,rfl,rfl,(by simp only[go_sem];rfl),rfl,Xaa _⟩,?_⟩;rintro ρ H ⟨k,hk,e0,e1,e2,Y,ac,T,I,af⟩;simp only[go_sem,ac,T];refine aA (fun E=>?_) (fun J=>?_)
 ·have E:=ltB (by simpa using E);obtain⟨u,hu⟩:=aK E;have b1:=inB E;rw[tT hu]at I;simp only[go_sem,Y,T,aC hu,b1];refine aN fun i8 ab=>?_
  simp only[go_sem];refine cJ ab (by simp[dG]) fun Z (R8:Z i8=some ((⟨112,2,[aF u]⟩:Row))) N=>?_
  simp only[go_sem,e1,];apply aA <;> intro F
  ·have ad:b.length<=k:=by simpa using F
   simp only[go_sem];refine bP ?_;rw[I,Xcc ad];rfl
  have O:k<b.length:=by simpa using F
  obtain⟨v,hv⟩:=aK O;have b2:=inB O;rw[tT hv]at I;simp only[go_sem,e1,aC hv,b2];refine aN fun i9 X=>?_
  simp only[go_sem];refine cJ X (by simp[dG]) fun aa (R9:aa i9=some ((⟨112,2,[aF v]⟩:Row))) N=>?_
  replace R8:=(N R8).2;simp only[go_sem,e2,R9,R8];refine aH (VO u v) ?_;simp only[go_sem];apply aA <;> intro F
  ·have hc:¬qW u v=0:=by simpa using F
   simp only[go_sem];refine bP ?_;rw[I];show _=or2 (qW u v) _;unfold or2;rw[if_neg hc]
  ·have hc:qW u v=0:=by simpa using F
   simp only[go_sem,e0,e1,e2,Y,ac,T,aQ k];refine⟨⟨k+1,E,rfl,?_,O⟩,msr E⟩;rw[I];show or2 (qW u v) _=_;unfold or2;rw[if_pos hc]
 have J:=geB hk (by simpa using J);subst J;rw[Xcj]at I;simp only[go_sem,e0,e1,Xab];apply aA <;> intro F
 ·have F:a.length<b.length:=by simpa using F
  simp only[go_sem];refine bP ?_;obtain⟨v,hv⟩:=aK F;rw[I,tT hv];rfl
 ·have F:¬a.length<b.length:=by simpa using F
  simp only[go_sem];refine bP ?_;rw[I,Xcc (by omega)];rfl
def apU(a b:List Visit)(E:a.length<=1048576):PC prog 226 [.sl (a.map aF),.sl (b.map aF)] (boo (decide (SR a b<0))):=by refine pcd func226 rfl rfl ?_;simp only[go_sem];refine aH (amO a b E) ?_;simp only[go_sem];exact .refl _
end Sq
namespace Sq
open Go.Proofs.Tryz
open Go.Proofs.YtpagaknmdfgfkaaGreatDoor.Nu (ltB geB)
open Mv (bP bS aO)
def eqV(w v:Visit):Bool:=w.order == v.order&&(w.drop == v.drop&&true)
def qO(l:List Visit)(w:Visit):Bool:= !decide (bM l w<0)
def Bt(W l:List Visit)(v:Visit):Bool:=(W.takeWhile fun w=> !eqV w v).all (qO l)
def Zu(x:Instance)(l:List Visit)(v:Visit):Bool:=x.before.all fun q=>(q.b != v.order)||(fX x.orders q.a).all (qO l)
def sF(x:Instance)(l:List Visit)(v:Visit):Bool:=(!decide (bM l v>=0)&&Bt (fX x.orders v.order) l v)&&Zu x l v
def W9{α:Type}{p:α->Bool}{W:List α}{k:Nat}(h:∀u∈W.take k,p u=true):W.takeWhile p=W.take k++(W.drop k).takeWhile p:=by
 conv=>lhs;rw[<-Xci k W]
 exact List.takeWhile_append_of_pos h
def Yx{W l:List Visit}{v:Visit}{k:Nat}(h:∀u∈W.take k,eqV u v=false/\qO l u=true):Bt W l v=Bt (W.drop k) l v:=by
 unfold Bt;rw[W9 (k:=k) (fun u E=>by rw[(h u E).1];rfl),List.all_append];have:(W.take k).all (qO l)=true:=Xaj.2 fun u E=>(h u E).2
 rw[this,Xaz]
def anT(x:Instance)(l:List Visit)(v:Visit)(hl:l.length<=1048576)(hb:x.before.length<=1048576):PC prog 227 [.agg (aD x),.sl (l.map aF),.agg (aF v)] (boo (sF x l v)):=by
 refine pcd func227 rfl rfl ?_;simp only[go_sem];refine aH (Es l v hl) ?_;simp only[go_sem];apply aA <;> intro c1
 ·simp only[go_sem];refine bS ?_;unfold sF;have c1:decide (bM l v>=0)=true:=c1;rw[c1];rfl
 have c1:decide (bM l v>=0)=false:=c1;have hW:=vW x.orders v.order;simp only[go_sem];refine aH (vH x.orders v.order) ?_;simp only[go_sem,Xab];have hr:sF x l v=(Bt (fX x.orders v.order) l v&&Zu x l v):=by unfold sF;rw[c1];rfl
 generalize fX x.orders v.order=W at *;refine JQ (fun ae _=>ae 1=.sl (l.map aF)/\ae 3=.rp (aD x) 0/\ae 5=.rp (aF v) 0/\Bt W l v=true) ?_ fun Q hQ aw=>?_
 ·rintro ρ H ⟨h1,h3,h5,ar⟩;rw[ar,Xaz]at hr;simp only[go_sem,h3,Xab];refine⟨fun ρ H=>∃(k:Nat),k<=x.before.length/\ρ 1=.sl (l.map aF)/\ρ 3=.rp (aD x) 0/\ρ 5=.rp (aF v) 0/\ρ 36=.sl (x.before.map dH)/\ρ 37=int (x.before.length:Nat)/\ρ 38=int k/\(∀q∈x.before.take k,((q.b != v.order)||(fX x.orders q.a).all (qO l))=true),fun ρ _=>x.before.length-aR (ρ 38),⟨0,Xaa _,by simp only[go_sem,h1,],h3,h5,by simp only[go_sem],by simp only[go_sem],(by simp only[go_sem];rfl),by simp⟩,?_⟩;rintro ρ H ⟨k,hk,Z,e3,Y,X,T,O,hz⟩;simp only[go_sem,T,O];refine aA (fun E=>?_) (fun I=>?_)
  ·have E:=ltB (by simpa using E);obtain⟨q,hq⟩:=aK E;have b1:=inB E;simp only[go_sem,X,O,aC hq,b1];refine aN fun ax ag=>?_
   simp only[go_sem];refine cJ ag (by simp[nP]) fun ac (aq:ac ax=some (⟨169,2,[dH q]⟩)) N=>?_
   simp only[go_sem,Y,aq];refine⟨by decide,aA (fun F=>?_) (fun F=>?_)⟩
   ·simp only[go_sem,Z,e3,Y,X,T,O,aQ k];exact⟨⟨k+1,E,rfl,aO (p:=fun q:Pair=>((q.b != v.order)||(fX x.orders q.a).all (qO l))=true) hq (by rw[show(q.b != v.order)=true from F];rfl) hz⟩,msr E⟩
   have F:(q.b != v.order)=false:=F;have hV:=vW x.orders q.a;simp only[go_sem,e3,aq];refine⟨by decide,PC.use (vH x.orders q.a) ?_⟩;simp only[go_sem,Xab];have am:((q.b != v.order)||(fX x.orders q.a).all (qO l))=(fX x.orders q.a).all (qO l):=by rw[F];rfl
   generalize an:fX x.orders q.a=V at *;refine⟨fun ρ _=>∃m:Nat,m<=V.length/\ρ 1=.sl (l.map aF)/\ρ 3=.rp (aD x) 0/\ρ 5=.rp (aF v) 0/\ρ 36=.sl (x.before.map dH)/\ρ 37=int x.before.length/\ρ 38=int (k:Nat)/\ρ 51=.sl (V.map aF)/\ρ 52=int V.length/\ρ 53=int (m:Nat)/\∀u∈V.take m,qO l u=true,fun ρ _=>V.length-aR (ρ 53),⟨0,Xaa _,by simp only[go_sem,Z,],by simp only[go_sem,e3,],by simp only[go_sem,Y,],by simp only[go_sem,X,],T,O,by simp only[go_sem],by simp only[go_sem],by simp only[go_sem];rfl,by simp⟩,?_⟩;rintro ρ H ⟨m,hm,Z,e3,Y,X,T,O,al,ak,af,hy⟩;simp only[go_sem,ak,af];refine aA (fun ab=>?_) (fun ad=>?_)
   ·have ab:=ltB (by simpa using ab);obtain⟨u,hu⟩:=aK ab;have b2:=inB ab;simp only[go_sem,al,af,aC hu,b2];refine aN fun ay ah=>?_
    simp only[go_sem];refine cJ ah (by simp[dG]) fun aj (az:aj ay=some ((⟨112,2,[aF u]⟩:Row))) N=>?_
    simp only[go_sem,Z,az];refine aH (Es l u hl) ?_;simp only[go_sem];apply aA <;> intro aa
    ·simp only[go_sem];refine bS ?_;have J:qO l u=false:=by unfold qO;rw[show decide (bM l u<0)=true from aa];rfl
     rw[hr];unfold Zu;exact(List.all_eq_false.2 ⟨q,Xac hq,by rw[an,am];rw[Xcu];exact List.all_eq_false.2 ⟨u,Xac hu,by rw[J];simp⟩⟩).symm
    ·have J:qO l u=true:=by unfold qO;rw[show decide (bM l u<0)=false from aa];rfl
     simp only[go_sem,Z,e3,Y,X,T,O,al,ak,af,aQ m];exact⟨⟨m+1,ab,rfl,aO (p:=fun u:Visit=>qO l u=true) hu J hy⟩,by simp only[aL];omega⟩
   have ad:=geB hm (by simpa using ad);subst ad;rw[Xad]at hy;simp only[go_sem,Z,e3,Y,X,T,O,aQ k];exact⟨⟨k+1,E,rfl,aO (p:=fun q:Pair=>((q.b != v.order)||(fX x.orders q.a).all (qO l))=true) hq (by rw[an,am];exact Xaj.2 hy) hz⟩,msr E⟩
  have I:=geB hk (by simpa using I);subst I;rw[Xad]at hz;simp only[go_sem];refine bS ?_;rw[hr];unfold Zu;exact(Xaj.2 hz).symm
 refine⟨fun ρ H=>∃(k:Nat),k<=W.length/\ρ 1=.sl (l.map aF)/\ρ 3=.rp (aD x) 0/\ρ 5=.rp (aF v) 0/\ρ 21=.sl (W.map aF)/\ρ 22=int (W.length:Nat)/\ρ 23=int k/\(∀u∈W.take k,eqV u v=false/\qO l u=true),fun ρ _=>W.length-aR (ρ 23),⟨0,Xaa _,rfl,rfl,rfl,rfl,rfl,(by simp only[go_sem];rfl),by simp⟩,?_⟩;rintro ρ H ⟨k,hk,Z,e3,Y,ap,ao,ai,hz⟩;simp only[go_sem,ao,ai];refine aA (fun E=>?_) (fun I=>?_)
 ·have E:=ltB (by simpa using E);obtain⟨u,hu⟩:=aK E;have b1:=inB E;have hp:=Yx (l:=l) (v:=v) hz;rw[tT hu]at hp;simp only[go_sem,ap,ai,aC hu,b1];refine aN fun i8 av=>?_
  simp only[go_sem];refine cJ av (by simp[dG]) fun au (R8:au i8=some ((⟨112,2,[aF u]⟩:Row))) N=>?_
  simp only[go_sem,Y,R8];apply aA <;> intro F
  ·have F:eqV u v=true:=F;simp only[go_sem];refine hQ _ _ ⟨by simp only[go_sem,Z,],by simp only[go_sem,e3,],by simp only[go_sem,Y,],?_⟩;rw[hp];unfold Bt;rw[List.takeWhile_cons,F];rfl
  have F:eqV u v=false:=F;simp only[go_sem,Z,R8];refine aH (Es l u hl) ?_;simp only[go_sem];apply aA <;> intro aa
  ·have J:qO l u=false:=by unfold qO;rw[show decide (bM l u<0)=true from aa];rfl
   simp only[go_sem];refine aw _ _ ?_;simp only[go_sem];refine bS ?_;have:Bt W l v=false:=by rw[hp];unfold Bt;rw[List.takeWhile_cons,F];show(u::_).all (qO l)=false;rw[List.all_cons,J];rfl
   rw[hr,this];rfl
  ·have J:qO l u=true:=by unfold qO;rw[show decide (bM l u<0)=false from aa];rfl
   simp only[go_sem,Z,e3,Y,ap,ao,ai,aQ k];exact⟨⟨k+1,E,rfl,aO (p:=fun u:Visit=>eqV u v=false/\qO l u=true) hu ⟨F,J⟩ hz⟩,msr E⟩
 have I:=geB hk (by simpa using I);subst I;have hp:=Yx (l:=l) (v:=v) hz;rw[Xcj]at hp;simp only[go_sem];exact hQ _ _ ⟨by simp only[go_sem,Z,],by simp only[go_sem,e3,],by simp only[go_sem,Y,],hp⟩
def O1(x:Instance)(i:Nat):Bool:=match x.orders[i]? with|some o=>o.off|none=>false
def G5(x:Instance)(set:Int)(i:Nat):Bool:=(decide ((i:Int)>62)||(xR .and .i64 (shV .shr .i64 set (i:Nat)) 1 == 0))||O1 x i
def Bn(x:Instance)(set:Int)(l:List Visit)(i:Nat):List Visit:=if G5 x set i=true then[]else(fX x.orders (i:Nat)).filter (sF x l)
def yD(x:Instance)(set:Int)(l:List Visit)(k:Nat):List Visit:=(List.range k).flatMap (Bn x set l)
def pA(x:Instance)(set:Int)(l:List Visit):List Visit:=yD x set l x.orders.length
def Gr(x:Instance)(set:Int)(l:List Visit)(k:Nat):yD x set l (k+1)=yD x set l k++Bn x set l k:=by unfold yD;rw[Xbi,Xcd];simp
def U9(x:Instance)(set:Int)(l:List Visit)(i:Nat):(Bn x set l i).length<=2:=by
 unfold Bn;split
 ·simp
 ·exact Xal (Xcn _ _) (vW _ _)
def DA(x:Instance)(set:Int)(l:List Visit):∀k,(yD x set l k).length<=2*k
 | 0=>Xaf _
 | k+1=>by rw[Gr,Xae];have:=DA x set l k;have:=U9 x set l k;omega
abbrev KG(l:List Visit):Row:=⟨112,2,l.map aF⟩
def Kx(l:List Visit)(v:Visit):(⟨112,2,l.map aF++[aF v]⟩:Row)=KG (l++[v]):=by show _=(⟨112,2,(l++[v]).map aF⟩:Row);rw[Xam];rfl
def SK{α:Type}{p:α->Bool}{l:List α}{k:Nat}{a:α}(h:l[k]?=some a):(l.take (k+1)).filter p=(l.take k).filter p++(if p a=true then[a]else[]):=by
 rw[bA h,List.filter_append]
 congr 1
 rw[List.filter_cons];rfl
def amE(x:Instance)(set:Int)(l:List Visit)(hl:l.length<=1048576)(hb:x.before.length<=1048576)(hx:x.orders.length<=100000):PC prog 176 [.agg (aD x),int set,.sl (l.map aF)] (.sl ((pA x set l).map aF)):=by
 refine pcb (fun t=>t == 7) func176 rfl rfl ?_;simp only[go_sem];refine fI fun j ak ao (R:ak j=some (KG [])) N=>?_
 simp only[go_sem];refine⟨fun ρ H=>∃(k:Nat) (j:Nat),k<=x.orders.length/\ρ 1=int set/\ρ 2=.sl (l.map aF)/\ρ 3=.rp (aD x) 0/\ρ 13=.sl (x.orders.map bJ)/\ρ 14=int (x.orders.length:Nat)/\ρ 15=int k/\ρ 7=.os j/\H j=some (KG (yD x set l k)),fun ρ _=>x.orders.length-aR (ρ 15),⟨0,j,Xaa _,rfl,rfl,rfl,rfl,rfl,(by simp only[go_sem];rfl),rfl,R⟩,?_⟩;rintro ρ H ⟨k,j,hk,e1,e2,Z,O,J,E,e7,R⟩;simp only[go_sem,J,E];refine aA (fun I=>?_) (fun aa=>?_)
 ·have I:=ltB (by simpa using I);obtain⟨o,ho⟩:=aK I;have b1:=inB I;have hs:=Gr x set l k;have aq:=DA x set l k;have al:O1 x k=o.off:=by unfold O1;rw[ho]
  have am:G5 x set k=((decide ((k:Int)>62)||(xR .and .i64 (shV .shr .i64 set (k:Nat)) 1 == 0))||o.off):=by unfold G5;rw[al]
  have hA:Bn x set l k=if G5 x set k=true then[]else(fX x.orders (k:Nat)).filter (sF x l):=rfl
  rw[hA,am]at hs;generalize yD x set l k=L at *;simp only[go_sem,O,E,aC ho,b1];refine aN fun i9 ag=>?_
  simp only[go_sem];refine cJ ag (by simp[uV]) fun aj (R9:aj i9=some ((⟨93,16,[bJ o]⟩:Row))) N=>?_
  replace R:=(N R).2;simp only[go_sem,e1,R9];refine⟨fun _=>by omega,?_⟩;apply aA <;> intro hc
  ·rw[if_pos hc,Xah]at hs;simp only[go_sem,e1,e2,Z,O,J,E,e7,aQ k];refine⟨⟨k+1,j,I,rfl,rfl,?_⟩,msr I⟩;rw[hs];exact R
  rw[if_neg (by rw[hc];simp)]at hs;simp only[go_sem,Z,];refine aH (vH x.orders (k:Nat)) ?_;simp only[go_sem,Xab];have hV:=vW x.orders (k:Nat);generalize fX x.orders (k:Nat)=V at *;refine⟨fun ρ H=>∃m j:Nat,m<=V.length/\ρ 1=int set/\ρ 2=.sl (l.map aF)/\ρ 3=.rp (aD x) 0/\ρ 13=.sl (x.orders.map bJ)/\ρ 14=int x.orders.length/\ρ 15=int (k:Nat)/\ρ 36=.sl (V.map aF)/\ρ 37=int V.length/\ρ 38=int (m:Nat)/\ρ 7=.os j/\H j=some (KG (L++(V.take m).filter (sF x l))),fun ρ _=>V.length-aR (ρ 38),⟨0,j,Xaa _,by simp only[go_sem,e1,],by simp only[go_sem,e2,],by simp only[go_sem,Z,],by simp only[go_sem,O,],by simp only[go_sem,J,],E,by simp only[go_sem],by simp only[go_sem],by simp only[go_sem];rfl,e7,by simpa using R⟩,?_⟩;rintro ρ H ⟨m,j,hm,e1,e2,Z,O,J,E,ae,ad,X,e7,R⟩;simp only[go_sem,ad,X];refine aA (fun T=>?_) (fun ab=>?_)
  ·have T:=ltB (by simpa using T);obtain⟨u,hu⟩:=aK T;have b2:=inB T;have Y:=SK (p:=sF x l) hu;have ap:((V.take m).filter (sF x l)).length<=2:=Xal (Xcn _ _) (by rw[Xap];omega);simp only[go_sem,ae,X,aC hu,b2];generalize (V.take m).filter (sF x l)=F at *;refine aN fun an af=>?_
   simp only[go_sem];refine cJ af (by simp[dG]) fun ac (ah:ac an=some ((⟨112,2,[aF u]⟩:Row))) N=>?_
   replace R:=(N R).2;simp only[go_sem,e2,Z,ah];refine aH (anT x l u hl hb) ?_;simp only[go_sem];apply aA <;> intro ai
   ·rw[if_pos ai]at Y;simp only[go_sem,e7,ah];refine aY R ⟨rfl,rfl⟩ (by simp only[go_sem]) (by simp;omega) (fun j2 ar=>?_);simp only[go_sem,e1,e2,Z,O,J,E,ae,ad,X,aQ m];refine⟨⟨m+1,j2,T,rfl,rfl,?_⟩,by simp only[aL];omega⟩;rw[Y,<-Xaq,aB];exact congrArg some (Kx _ _)
   ·rw[if_neg (by rw[ai];simp),Xah]at Y;simp only[go_sem,e1,e2,Z,O,J,E,ae,ad,X,e7,aQ m];refine⟨⟨m+1,j,T,rfl,rfl,?_⟩,by simp only[aL];omega⟩;rw[Y];exact R
  have ab:=geB hm (by simpa using ab);subst ab;rw[Xad]at R;simp only[go_sem,e1,e2,Z,O,J,E,e7,aQ k];refine⟨⟨k+1,j,I,rfl,rfl,?_⟩,msr I⟩;rw[hs];exact R
 have aa:=geB hk (by simpa using aa);subst aa;simp only[go_sem,e7];exact .row _ _ _ R (ConvE.refl _)
end Sq
end Go.Proofs.YtpagaknmdfgfkaaGreatDoor
section
namespace Go.Aw
open Go.RowKit
section
variable{P:Program}{f:FuncId}{args:List AV}{H:aG}{K:AV->aG->Prop}{r:AV}
def Sup(H H':aG):Prop:=∀k row,H k=some row->H' k=some row
def OP(H:aG)(r:AV)(a:AV)(H':aG):Prop:=Sup H H'/\∃l:List Nat,(∀k,k∈l->H k=none)/\Conv (fun k=>if k∈l then H' k else none) a r
def bK.data(h:bK P f args H (OP H r))(T:K r H):bK P f args H K:=by
 intro S w vals hS X;refine(h S w vals hS X).mono fun e w' ⟨v,x,H',S',he,⟨Z,l,O,J⟩,I,hv,hg,hn⟩=>?_
 obtain⟨h1,h2,Y⟩:=I.frz l;refine⟨v,r,H,S'.froze _,he,T,h1.drop (fun k row F=>?_),J.rep Y hv,hg.trans h2,fun k _ h0=>h0⟩;have E:¬k∈l:=fun E=>by rw[O k E]at F;cases F
 show(if k∈l then none else H' k)=some row;rw[if_neg E];exact Z k row F
def LC(P:Program)(f:FuncId)(args:List AV)(H:aG)(r:AV):Prop:=∀K:AV->aG->Prop,K r H->bK P f args H K
def LC.use(h:LC P f args H r)(E:K r H):bK P f args H K:=h K E
def LC.body{fn:Func}{c:Code}(mt:Nat->Bool)(J:P.follows .mixedOrders=true)(F:P.funcs[f]?=some fn)(E:fn.body=some c)(O:Di fn c args.length=true)
 (h:awp P (bK P) (eV P) mt c (KH P fn.results.toList (OP H r)) (Gg args) H):LC P f args H r:=fun K I=>bK.data (bK.body mt J F E O h) I
theorem Sup.refl(H:aG):Sup H H:=fun _ _ h=>h
def Sup.upd{H H':aG}(h:Sup H H'){i:Nat}(F:H i=none)(a:Option Row):Sup H (aM H' i a):=fun k row E=>by rw[aJ _ _ _ _ (fun e=>by subst e;rw[F]at E;cases E)];exact h k row E
def Sup.none{H H':aG}(h:Sup H H'){i:Nat}(E:H' i=none):H i=none:=by
 cases e:H i with
 | none=>rfl
 | some row=>rw[h i row e]at E;cases E
def Sup.eq{H A B:aG}(h:Sup H A)(e:A=B):Sup H B:=e▸h
def Sup.at{H H':aG}(h:Sup H H'){i:Nat}{row:Row}(E:H i=some row):H' i=some row:=h i row E
def Sup.ne{H H':aG}(h:Sup H H'){i j:Nat}{row:Row}(F:H i=some row)(E:H j=.none):i≠j:=fun e=>by subst e;rw[F]at E;cases E
def OP.flat{H H':aG}(h:Sup H H')(r:AV):OP H r r H':=⟨h,[],by simp,.refl r⟩
def qJ{l:List Nat}{H E:aG}{K:Env->aG->Prop}{ρ:Env}(F:∀k,k∉l->E k=H k)(h:K ρ H):sS l H K ρ E:=fun _ J h1 I=>by
 have:J=H:=funext fun k=>by
  by_cases e:k∈l
  ·exact h1 k e
  ·rw[I k e,F k e]
 rw[this];exact h
def sW{l:List Nat}{H F:aG}{K:Env->aG->Prop}{ρ:Env}{i:Nat}{r:Option Row}(I:∀k,k∉l->F k=H k)(T:i∉l)(h:K ρ (aM H i r)):sS l H K ρ (aM F i r):=fun _ O h1 J=>by
 have:O=aM H i r:=funext fun k=>by
  by_cases e:k∈l
  ·rw[h1 k e,aJ _ _ _ _ (fun E=>T (by rw[<-E];exact e))]
  ·rw[J k e];by_cases E:k=i
   ·subst E;rw[aB,aB]
   ·rw[aJ _ _ _ _ E,aJ _ _ _ _ E,I k e]
 rw[this];exact h
def Au{l:List Nat}{H I:aG}{K:Env->aG->Prop}{ρ:Env}{i:Nat}{a:Option Row}{b:Row}(J:∀k,k∉l->I k=H k)(X:I i=none)(h:H i=none->K ρ (aM (aM H i a) i (some b))):sS l H K ρ (aM (aM I i a) i (some b)):=fun h0 T h1 O=>by
 have F:i∉l:=fun e=>by have:=h0 i e;rw[aB]at this;cases this
 have:T=aM (aM H i a) i (some b):=funext fun k=>by
  by_cases e:k∈l
  ·rw[h1 k e,aJ _ _ _ _ (fun E=>F (by rw[<-E];exact e)),aJ _ _ _ _ (fun E=>F (by rw[<-E];exact e))]
  ·rw[O k e];by_cases E:k=i
   ·subst E;rw[aB,aB]
   ·rw[aJ _ _ _ _ E,aJ _ _ _ _ E,aJ _ _ _ _ E,aJ _ _ _ _ E,J k e]
 rw[this];exact h ((J i F).symm.trans X)
def SV{S:Sg}{w:World}:∀(A B:List AV) (l:List Value),bO S w (A++B) l->bO S w A (l.take A.length)
 | [],_,l,_=>by simp only[List.length_nil,List.take_zero,bO]
 | x::A,B,l,h=>by simp only[List.cons_append,bO]at h |-;obtain⟨u,t,rfl,h1,E⟩:=h;exact⟨u,t.take A.length,by rw[List.length_cons,List.take_succ_cons],h1,SV A B t E⟩
def Nf{sz:Nat}:∀(es:List (List AV)) (i:Nat),(∀cs∈es,cs.length=sz)->i<=es.length->((es.take i).flatten).length=i*sz
 | _,0,_,_=>by simp
 | [],i+1,_,h=>by simp at h
 | c::es,i+1,hl,h=>by rw[List.take_succ_cons,List.flatten_cons,List.length_append,hl c (by simp),Nf es i (fun cs E=>hl cs (by simp[E])) (by simpa using h),Nat.add_mul,Nat.one_mul,Nat.add_comm]
def St.cut{S:Sg}{w:World}{H:aG}(O:St S w H){k i c n:Nat}{r:Row}{ad:Option Addr}(hk:H k=some r)(hl:S.loc k=.slice ad n c)(hi:i<=r.es.length):
  St (S.addRow (.slice ad i c) r.sz) w (aM (aM H k none) S.N (some ⟨r.e,r.sz,r.es.take i⟩))/\Grow S w (S.addRow (.slice ad i c) r.sz) w:=by
 have hR:=O.rows k r hk;obtain⟨xs,ho,hr,h1⟩:=hR.sl hl;have Z:=S.le_addRow (.slice ad i c) r.sz;have F:(S.addRow (.slice ad i c) r.sz).loc S.N=.slice ad i c:=by simp[Sg.addRow]
 have J:∀k,k<S.N->(S.addRow (.slice ad i c) r.sz).loc k=S.loc k:=Z.loc;have al:k≠S.N:=Nat.ne_of_lt hR.lt;have I:∀q row,q≠S.N->aM (aM H k none) S.N (some ⟨r.e,r.sz,r.es.take i⟩) q=some row->H q=some row/\q≠k:=fun q row hq h=>by
  rw[aJ _ _ _ _ hq]at h;by_cases e:q=k
  ·subst e;rw[aB]at h;cases h
  ·rw[aJ _ _ _ _ e]at h;exact⟨h,e⟩
 have Y:blk (.slice ad i c)=blk (S.loc k):=by rw[hl];cases ad <;> rfl
 refine⟨⟨O.ro_fz,O.fz_lt,?_,?_,?_,O.tabs.keep Z (iL.refl S w)⟩,⟨Z,fun _ h=>h,rfl,rfl,rfl,Nat.le_refl _,fun _ _=>rfl,fun _ h=>.inl h⟩⟩
 ·intro q row hq;by_cases e0:q=S.N
  ·subst e0;rw[aB]at hq;injection hq with hq;subst hq;have ah:=Nf r.es i hR.len hi;have aa:(r.es.take i).length=i:=by rw[List.length_take];omega
   have ak:xs.length=r.es.length*r.sz:=ho.1;have ac:i*r.sz<=r.es.length*r.sz:=Nat.mul_le_mul_right _ hi;refine⟨Nat.lt_succ_self _,by simp[Sg.addRow],hR.pos,fun cs ab=>hR.len cs (List.mem_of_mem_take ab),.inl ⟨xs.take (i*r.sz),⟨?_,?_⟩,?_,fun u hu=>h1 u (List.mem_of_mem_take hu)⟩⟩
   ·show(xs.take (i*r.sz)).length=(r.es.take i).length*r.sz;rw[List.length_take,aa];omega
   ·rw[F];simp only[aa];rcases ho.2 with⟨hv,hn⟩|⟨g,cap,cur,hv,hb,X,aj,ai,ab,ag⟩
    ·rw[hl]at hv;injection hv with e1 e2 e3;refine .inl ⟨?_,by omega⟩;rw[e1,e3,show i=0 by omega]
    ·rw[hl]at hv;injection hv with e1 e2 e3;refine .inr ⟨g,cap,cur,by rw[e1,e3],hb,X,by omega,ai,ab,?_⟩;rw[<-ag,List.take_take,Nat.min_eq_left ac]
   ·refine eU Z (iL.refl S w) _ _ ?_;have:r.es.flatten=(r.es.take i).flatten++(r.es.drop i).flatten:=by rw[<-List.flatten_append,List.take_append_drop]
    rw[this]at hr;have:=SV _ _ _ hr;rw[ah]at this;exact this
  ·obtain⟨h2,_⟩:=I q row e0 hq;exact(O.rows q row h2).keep Z (iL.refl S w) fun _ _=>rfl
 ·intro q row hq g X;by_cases e0:q=S.N
  ·subst e0;rw[F,Y]at X;exact O.free k r hk g X
  ·obtain⟨h2,_⟩:=I q row e0 hq;rw[J q (O.rows q row h2).lt]at X;exact O.free q row h2 g X
 ·intro q q' row E hq af ae g X T;by_cases e0:q=S.N
  ·subst e0;rw[F,Y]at X;obtain⟨h2,h3⟩:=I q' E (Ne.symm ae) af;rw[J q' (O.rows q' E h2).lt]at T;exact O.disj k q' r E hk h2 (Ne.symm h3) g X T
  ·obtain⟨h2,h3⟩:=I q row e0 hq;rw[J q (O.rows q row h2).lt]at X;by_cases e1:q'=S.N
   ·subst e1;rw[F,Y]at T;exact O.disj q k row r h2 hk h3 g X T
   ·obtain⟨h4,h5⟩:=I q' E e1 af;rw[J q' (O.rows q' E h4).lt]at T;exact O.disj q q' row E h2 h4 ae g X T
end
end Go.Aw
end
namespace Go.Proofs.YtpagaknmdfgfkaaGreatDoor
open Go.Aw Go.Aw.D Go.Proofs Ty
namespace Sq
open Go.Proofs.YtpagaknmdfgfkaaGreatDoor.Nu (ltB geB)
open Mv (bP bS aO)
def Jk(L:List Nat):Nat:=(L.map fun a=>2^62-a).sum
def TO:∀{L:List Nat} {i u v:Nat},L[i]?=some u->u<v->v<=2^62->Jk (L.set i v)<Jk L
 | [],i,u,v,h,_,_=>by simp at h
 | a::L,0,u,v,h,h1,h2=>by
  have:a=u:=by simpa using h
  subst this;show(2^62-v)+(L.map fun a=>2^62-a).sum<(2^62-a)+(L.map fun a=>2^62-a).sum;omega
 | a::L,i+1,u,v,h,h1,h2=>by have:=TO (L:=L) (i:=i) (by simpa using h) h1 h2;show(2^62-a)+Jk (L.set i v)<(2^62-a)+Jk L;omega
abbrev Ft(L:List Nat):Row:=⟨3,1,L.map fun n=>[int (n:Nat)]⟩
def axF:List AV->Nat
 | [.v (.int _ a)]=>2^62-a.toNat
 | _=>0
def aqE(x b:AV)(H:aG):Nat:=match x,b with
 | .os j,.v (.bool true)=>match H j with
   | some r=>(r.es.map axF).sum+1
   | none=>0
 | _,_=>0
def aeX{j:Nat}{H:aG}{L:List Nat}(h:H j=some (Ft L)):aqE (.os j) (boo true) H=Jk L+1:=by unfold aqE;simp only[h,List.map_map];rfl
def avN{j:Nat}{H:aG}:aqE (.os j) (boo false) H=0:=rfl
def adS{s:Int}{a:Int}(h:a∈dD s):∃k:Nat,a=(k:Nat):=by unfold dD rN at h;obtain⟨k,_,rfl⟩:=Xbe.1 h;exact⟨k,rfl⟩
def akE(s:Int):(dD s).length<=63:=by unfold dD rN;rw[Xab];exact Xal (Xcn _ _) (by rw[Xbd];exact Xaf _)
end Sq
namespace Sq
structure Lab where
 ready:Int
 since:Int
 sheet:Sheet
def Gh:Tm:=⟨0,0,0,false⟩
def cZ(s:Sheet)(k:Nat)(b:Bool)(d:Int):Sheet:=match k with
 | 0=>{ s with rest:=b,depart:=d }
 | j+1=>{ s with times:=s.times.set j ⟨(s.times.getD j Gh).arrive,(s.times.getD j Gh).begin_,d,b⟩ }
def iA(t:VType)(l:Lab)(b:Bool):Int:=if b=true then W (l.ready+t.rest)else l.ready
def nO(l:Lab)(b:Bool):Int:=if b=true then 0 else l.since
def goL(x:Instance)(t:VType)(p q:Int)(l:Lab)(b:Bool):Int×Int×Int:=fO x.net t.profile p q (iA t l b)
def mP(x:Instance)(t:VType)(p q:Int)(l:Lab)(b:Bool):Int:=W (W (nO l b+(goL x t p q l b).1)-iA t l b)
def iY(x:Instance)(t:VType)(p:Int)(s:Stop)(k:Nat)(l:Lab)(b:Bool):Sheet:=
 { cZ l.sheet k b (iA t l b)with
   times:=(cZ l.sheet k b (iA t l b)).times++[⟨(goL x t p s.place l b).1,eN (goL x t p s.place l b).1 s.start,0,false⟩]
   miles:=W (l.sheet.miles+(goL x t p s.place l b).2.1) }
def pG(x:Instance)(t:VType)(p:Int)(s:Stop)(k:Nat)(l:Lab)(b:Bool):Except Int Lab:=
 if((goL x t p s.place l b).2.2 != 0)=true then .error 12
 else if eN (goL x t p s.place l b).1 s.start>s.close then .error 14
 else if mP x t p s.place l b>t.drive then .error 16
 else .ok ⟨W (eN (goL x t p s.place l b).1 s.start+s.service),mP x t p s.place l b,iY x t p s k l b⟩
def JD(x:Instance)(t:VType)(p:Int)(k:Nat)(l:Lab)(b:Bool):Sheet:=
 { cZ l.sheet k b (iA t l b)with
   end_:=(goL x t p t.dst l b).1
   miles:=W (l.sheet.miles+(goL x t p t.dst l b).2.1) }
def rR(x:Instance)(t:VType)(p:Int)(k:Nat)(l:Lab)(b:Bool):Except Int Lab:=
 if((goL x t p t.dst l b).2.2 != 0)=true then .error 12
 else if(goL x t p t.dst l b).1>t.close then .error 15
 else if mP x t p t.dst l b>t.drive then .error 16
 else .ok ⟨(goL x t p t.dst l b).1,mP x t p t.dst l b,JD x t p k l b⟩
def Er(x:Instance)(t:VType):List Visit->List Bool->Int->Nat->Lab->Except Int Lab
 | [],b::_,p,k,l=>rR x t p k l b
 | v::vs,b::bs,p,k,l=>match pG x t p (bI x v).1 k l b with
   | .error e=>.error e
   | .ok l'=>Er x t vs bs (bI x v).1.place (k+1) l'
 | _,[],_,_,l=>.ok l
def gK(t:VType)(r:Route):Lab:=⟨eN t.start r.start,0,aX⟩
def oI(s:Sheet)(k:Nat)(b:Bool)(d:Int):(cZ s k b d).miles=s.miles/\(cZ s k b d).end_=s.end_/\(cZ s k b d).times.length=s.times.length:=by cases k <;> simp[cZ]
def zP(t:VType)(p:Int)(l:Lab)(m:Int)(b:Bool):lD t ⟨p,l.ready,l.since,m⟩ b=⟨p,iA t l b,nO l b,m⟩:=by unfold lD iA nO;cases b <;> rfl
def XL{a s c:Int}(h:s<=c):(eN a s>c)↔a>c:=by unfold eN;split <;> omega
def LG{x:Instance}{t:VType}{p:Int}{l:Lab}{b:Bool}{q c E:Int}:
  gO x t ⟨p,iA t l b,nO l b,l.sheet.miles⟩ q c E =
   if((goL x t p q l b).2.2 != 0)=true then(⟨p,iA t l b,nO l b,l.sheet.miles⟩,12)
   else if(goL x t p q l b).1>c then(⟨p,iA t l b,nO l b,l.sheet.miles⟩,E)
   else if mP x t p q l b>t.drive then(⟨p,iA t l b,nO l b,l.sheet.miles⟩,16)
   else(⟨q,(goL x t p q l b).1,mP x t p q l b,W (l.sheet.miles+(goL x t p q l b).2.1)⟩,0):=by
 unfold gO goL mP;by_cases h:(fO x.net t.profile p q (iA t l b)).2.2=0
 ·simp only[h];rfl
 ·have:((fO x.net t.profile p q (iA t l b)).2.2 == 0)=false:=by simpa using h
  have F:((fO x.net t.profile p q (iA t l b)).2.2 != 0)=true:=by simpa using h
  simp only[this,F];rfl
def Q1(x:Instance)(t:VType):∀(vs:List Visit) (bs:List Bool) (b:Bool) (p:Int) (k:Nat) (l:Lab) (dr:List Int),bs.length=vs.length->l.sheet.times.length=k ->
   (∀v∈vs,(bI x v).1.start<=(bI x v).1.close) ->
   match (vs.zip bs).foldlM (kT x t) (lD t ⟨p,l.ready,l.since,l.sheet.miles⟩ b,dr,(cZ l.sheet k b (iA t l b)).times)with
   | .error e=>Er x t vs (b::bs) p k l=.error e
   | .ok a=>if((gO x t a.1 t.dst t.close 15).2 != 0)=true then Er x t vs (b::bs) p k l=.error (gO x t a.1 t.dst t.close 15).2
     else ∃l',Er x t vs (b::bs) p k l=.ok l'/\l'.sheet=⟨(cZ l.sheet k b (iA t l b)).rest,(cZ l.sheet k b (iA t l b)).depart,a.2.2,(gO x t a.1 t.dst t.close 15).1.time,(gO x t a.1 t.dst t.close 15).1.miles⟩
 | [],bs,b,p,k,l,dr,hb,hk,_=>by
   simp only[List.zip_nil_left,List.foldlM_nil];show if((gO x t (lD t ⟨p,l.ready,l.since,l.sheet.miles⟩ b) t.dst t.close 15).2 != 0)=true then _ else _
   rw[zP,LG];unfold Er rR;by_cases h1:((goL x t p t.dst l b).2.2 != 0)=true
   . simp only[h1,if_true];exact(if_pos (by decide)).mpr trivial
   by_cases I:(goL x t p t.dst l b).1>t.close
   . simp only[h1,I,if_true,if_false,Xbg];exact(if_pos (by decide)).mpr trivial
   by_cases T:mP x t p t.dst l b>t.drive
   . simp only[h1,I,T,if_true,if_false,Xbg];exact(if_pos (by decide)).mpr trivial
   . simp only[h1,I,T,if_false,Xbg];refine(if_neg (by decide)).mpr ⟨_,rfl,?_⟩;unfold JD;rfl
 | v::vs,[],b,p,k,l,dr,hb,_,_=>by simp at hb
 | v::vs,b1::bs,b,p,k,l,dr,hb,hk,hs=>by
   have O:=hs v (by simp);rw[List.zip_cons_cons,List.foldlM_cons];unfold Er;have E:jN x t (lD t ⟨p,l.ready,l.since,l.sheet.miles⟩ b,dr,(cZ l.sheet k b (iA t l b)).times) v=_:=(congrArg (fun s=>gO x t s (bI x v).1.place (bI x v).1.close 14) (zP t p l l.sheet.miles b)).trans LG;generalize aa:(bI x v).1=s at E O |-;unfold pG;by_cases h1:((goL x t p s.place l b).2.2 != 0)=true
   . simp only[h1,if_true]at E |-;unfold kT;rw[E];rfl
   by_cases I:(goL x t p s.place l b).1>s.close
   . have F:=(XL O).2 I;simp only[h1,I,F,if_true,if_false,Xbg]at E |-;unfold kT;rw[E];rfl
   have F:¬eN (goL x t p s.place l b).1 s.start>s.close:=fun h=>I ((XL O).1 h)
   by_cases T:mP x t p s.place l b>t.drive
   . simp only[h1,I,F,T,if_true,if_false,Xbg]at E |-;unfold kT;rw[E];rfl
   simp only[h1,I,F,T,if_false,Xbg]at E |-;have e1 : kT x t (lD t ⟨p, l.ready, l.since, l.sheet.miles⟩ b, dr, (cZ l.sheet k b (iA t l b)).times) (v, b1) =
       .ok (mE x t (lD t ⟨p,l.ready,l.since,l.sheet.miles⟩ b,dr,(cZ l.sheet k b (iA t l b)).times) (v,b1)):=by
     unfold kT;rw[E];rfl
   rw[e1];show match (vs.zip bs).foldlM (kT x t) (mE x t (lD t ⟨p,l.ready,l.since,l.sheet.miles⟩ b,dr,(cZ l.sheet k b (iA t l b)).times) (v,b1))with
     | .error e=>_
     | .ok a=>_
   have Z:(iY x t p s k l b).times.length=k+1:=by simp only[iY,Xae,Xai,List.length_nil,(oI _ _ _ _).2.2,hk]
   have ih:=Q1 x t vs bs b1 s.place (k+1) ⟨W (eN (goL x t p s.place l b).1 s.start+s.service),mP x t p s.place l b,iY x t p s k l b⟩ (dr++[(jN x t (lD t ⟨p,l.ready,l.since,l.sheet.miles⟩ b,dr,(cZ l.sheet k b (iA t l b)).times) v).1.driven])
     (by simpa using hb) Z (fun u hu=>hs u (by simp[hu]))
   have e2 : mE x t (lD t ⟨p, l.ready, l.since, l.sheet.miles⟩ b, dr, (cZ l.sheet k b (iA t l b)).times) (v, b1) =
       (lD t ⟨s.place,W (eN (goL x t p s.place l b).1 s.start+s.service),mP x t p s.place l b,(iY x t p s k l b).miles⟩ b1,dr++[(jN x t (lD t ⟨p,l.ready,l.since,l.sheet.miles⟩ b,dr,(cZ l.sheet k b (iA t l b)).times) v).1.driven],
         (cZ (iY x t p s k l b) (k+1) b1 (iA t ⟨W (eN (goL x t p s.place l b).1 s.start+s.service),mP x t p s.place l b,iY x t p s k l b⟩ b1)).times):=by
     unfold mE;rw[aa];simp only[E];have J:(cZ l.sheet k b (iA t l b)).times.length=k:=by rw[(oI _ _ _ _).2.2,hk]
     have et:(lD t (Ev s ⟨s.place,(goL x t p s.place l b).1,mP x t p s.place l b,W (l.sheet.miles+(goL x t p s.place l b).2.1)⟩) b1)=⟨s.place,iA t ⟨W (eN (goL x t p s.place l b).1 s.start+s.service),mP x t p s.place l b,iY x t p s k l b⟩ b1,nO ⟨W (eN (goL x t p s.place l b).1 s.start+s.service),mP x t p s.place l b,iY x t p s k l b⟩ b1,W (l.sheet.miles+(goL x t p s.place l b).2.1)⟩:=by exact zP t s.place ⟨W (eN (goL x t p s.place l b).1 s.start+s.service),mP x t p s.place l b,iY x t p s k l b⟩ _ b1
     rw[et];rw[zP t s.place ⟨W (eN (goL x t p s.place l b).1 s.start+s.service),mP x t p s.place l b,iY x t p s k l b⟩ _ b1];have Y:((cZ l.sheet k b (iA t l b)).times++[(⟨(goL x t p s.place l b).1,eN (goL x t p s.place l b).1 s.start,0,false⟩:Tm)]).getD k Gh=⟨(goL x t p s.place l b).1,eN (goL x t p s.place l b).1 s.start,0,false⟩:=by rw[List.getD_eq_getElem?_getD,List.getElem?_append_right (by omega),J];simp
     have hT:(iY x t p s k l b).times=(cZ l.sheet k b (iA t l b)).times++[⟨(goL x t p s.place l b).1,eN (goL x t p s.place l b).1 s.start,0,false⟩]:=rfl;have X:∀d,(cZ (iY x t p s k l b) (k+1) b1 d).times=(cZ l.sheet k b (iA t l b)).times++[⟨(goL x t p s.place l b).1,eN (goL x t p s.place l b).1 s.start,d,b1⟩]:=fun d=>by show(iY x t p s k l b).times.set k ⟨((iY x t p s k l b).times.getD k Gh).arrive,((iY x t p s k l b).times.getD k Gh).begin_,d,b1⟩=_;rw[hT,Y,List.set_append_right _ _ (by omega),J];simp
     rw[X];rfl
   rw[e2];have er : (cZ (iY x t p s k l b) (k + 1) b1 (iA t ⟨W (eN (goL x t p s.place l b).1 s.start + s.service), mP x t p s.place l b, iY x t p s k l b⟩ b1)).rest = (cZ l.sheet k b (iA t l b)).rest /\
       (cZ (iY x t p s k l b) (k+1) b1 (iA t ⟨W (eN (goL x t p s.place l b).1 s.start+s.service),mP x t p s.place l b,iY x t p s k l b⟩ b1)).depart=(cZ l.sheet k b (iA t l b)).depart:=⟨rfl,rfl⟩
   rw[er.1,er.2]at ih;exact ih
def avI{x:Instance}{r:Route}{t:VType}{b:Bool}{bs:List Bool}(hp:bW x r=true)(X:x.types[r.type.toNat]?=some t)(J:bs.length=r.visits.length)
  (Z:∀v∈r.visits,(bI x v).1.start<=(bI x v).1.close):
  match Er x t r.visits (b::bs) t.src 0 (gK t r)with
  | .error e=>(fA x r (b::bs)).1=aX/\(fA x r (b::bs)).2.2=e
  | .ok l=>(fA x r (b::bs)).1=l.sheet/\(fA x r (b::bs)).2.2=0:=by
 have O:fA x r (b::bs)=OK x r (b::bs) t b:=by
  unfold fA;rw[if_neg,X]
  ·rfl
  ·rw[hp];simp[J]
 rw[O];have h:=Q1 x t r.visits bs b t.src 0 (gK t r) [] J rfl Z;unfold OK;show match Er x t r.visits (b::bs) t.src 0 (gK t r)with
  | .error e=>(match (r.visits.zip bs).foldlM (kT x t) (nY r t b,[],[])with| .error e=>(aX,[],e)| .ok a=>pX x t b (nY r t b) a:Sheet×List Int×Int).1=aX/\_
  | .ok l=>_
 have T:(lD t ⟨t.src,(gK t r).ready,(gK t r).since,(gK t r).sheet.miles⟩ b,([]:List Int),(cZ (gK t r).sheet 0 b (iA t (gK t r) b)).times)=(nY r t b,[],[]):=rfl;rw[T]at h;cases E:(r.visits.zip bs).foldlM (kT x t) (nY r t b,[],[])with
 | error e=>rw[E]at h;have h:Er x t r.visits (b::bs) t.src 0 (gK t r)=.error e:=h;rw[h];exact⟨rfl,by show(match (r.visits.zip bs).foldlM (kT x t) (nY r t b,[],[])with| .error e=>(aX,[],e)| .ok a=>pX x t b (nY r t b) a:Sheet×List Int×Int).2.2=e;rw[E]⟩
 | ok a=>
  rw[E]at h;simp only at h;by_cases I:((gO x t a.1 t.dst t.close 15).2 != 0)=true
  ·rw[if_pos I]at h;rw[h];have F:pX x t b (nY r t b) a=(aX,[],(gO x t a.1 t.dst t.close 15).2):=if_pos I;refine⟨?_,?_⟩
   ·show(pX x t b (nY r t b) a).1=_;rw[F]
   ·show(match (r.visits.zip bs).foldlM (kT x t) (nY r t b,[],[])with| .error e=>(aX,[],e)| .ok a=>pX x t b (nY r t b) a:Sheet×List Int×Int).2.2=_;rw[E];show(pX x t b (nY r t b) a).2.2=_;rw[F]
  ·rw[if_neg I]at h;obtain⟨l',h1,h2⟩:=h;rw[h1];have F:pX x t b (nY r t b) a=_:=if_neg I;have Y:(nY r t b).time=iA t (gK t r) b:=by have:=zP t t.src (gK t r) 0 b;exact congrArg St8.time this
   refine⟨?_,?_⟩
   ·show(match (r.visits.zip bs).foldlM (kT x t) (nY r t b,[],[])with| .error e=>(aX,[],e)| .ok a=>pX x t b (nY r t b) a:Sheet×List Int×Int).1=_;rw[E];show(pX x t b (nY r t b) a).1=_;rw[F,h2];show(⟨b,(nY r t b).time,a.2.2,_,_⟩:Sheet)=_;rw[Y];rfl
   ·show(match (r.visits.zip bs).foldlM (kT x t) (nY r t b,[],[])with| .error e=>(aX,[],e)| .ok a=>pX x t b (nY r t b) a:Sheet×List Int×Int).2.2=_;rw[E];show(pX x t b (nY r t b) a).2.2=_;rw[F]
structure GoB(x:Instance)(t:VType):Prop where
 arrive:∀p q d,0<=d/\d<=12288->(fO x.net t.profile p q d).2.2=0->0<=(fO x.net t.profile p q d).1
 rest:0<=t.rest/\t.rest<=4096
 close:t.close<=4096
 drive:t.drive<=4096
structure StopB(s:Stop):Prop where
 start:0<=s.start
 close:s.close<=4096
 service:0<=s.service/\s.service<=4096
structure LabB(l:Lab)(k:Nat):Prop where
 ready:0<=l.ready/\l.ready<=8192
 since: -(12288*(k:Int))<=l.since/\l.since<=4096
def oO(l m:Lab):Prop:=l.ready=m.ready/\l.since<=m.since
theorem oO.refl(l:Lab):oO l l:=⟨rfl,Xbq _⟩
def oO.trans{a b c:Lab}(h:oO a b)(E:oO b c):oO a c:=⟨h.1.trans E.1,Int.le_trans h.2 E.2⟩
def amV{n:Int}(h: -9223372036854775808<=n/\n<=9223372036854775807):W n=n:=aU h
def MG{t:VType}{l:Lab}{k:Nat}(F:0<=t.rest/\t.rest<=4096)(E:LabB l k)(b:Bool):0<=iA t l b/\iA t l b<=12288:=by
 have:=E.ready;unfold iA;cases b with
 | false=>exact⟨this.1,by simp;omega⟩
 | true=>rw[if_pos rfl,amV (by omega)];omega
def L4{l:Lab}{k:Nat}(E:LabB l k)(b:Bool): -(12288*(k:Int))<=nO l b/\nO l b<=4096:=by
 unfold nO;cases b with
 | false=>exact E.since
 | true=>rw[if_pos rfl];omega
def EW{x:Instance}{t:VType}{p q:Int}{l:Lab}{b:Bool}{k:Nat}(T:k<=1048576)(E:GoB x t)(F:LabB l k)(h0:(goL x t p q l b).2.2=0)(h1:(goL x t p q l b).1<=4096):
  mP x t p q l b=nO l b+(goL x t p q l b).1-iA t l b/\0<=(goL x t p q l b).1:=by
 have I:=MG E.rest F b;have O:=L4 F b;have J:0<=(goL x t p q l b).1:=E.arrive p q _ I h0;unfold mP;rw[amV (n:=nO l b+(goL x t p q l b).1) (by omega),amV (by omega)];exact⟨rfl,J⟩
def Xm(a s:Int):a<=eN a s/\s<=eN a s:=by unfold eN;split <;> omega
def Il{x:Instance}{t:VType}{p:Int}{s:Stop}{k j:Nat}{l l':Lab}{b:Bool}(h:pG x t p s j l b=.ok l'):
  (goL x t p s.place l b).2.2=0/\eN (goL x t p s.place l b).1 s.start<=s.close/\mP x t p s.place l b<=t.drive /\
   l'=⟨W (eN (goL x t p s.place l b).1 s.start+s.service),mP x t p s.place l b,iY x t p s j l b⟩:=by
 unfold pG at h;split at h
 ·cases h
 ·rename_i h1;split at h
  ·cases h
  ·rename_i F;split at h
   ·cases h
   ·rename_i E;injection h with h;exact⟨by simpa using h1,by omega,by omega,h.symm⟩
def Qo{x:Instance}{t:VType}{p:Int}{j:Nat}{l l':Lab}{b:Bool}(h:rR x t p j l b=.ok l'):
  (goL x t p t.dst l b).2.2=0/\(goL x t p t.dst l b).1<=t.close/\mP x t p t.dst l b<=t.drive /\
   l'=⟨(goL x t p t.dst l b).1,mP x t p t.dst l b,JD x t p j l b⟩:=by
 unfold rR at h;split at h
 ·cases h
 ·rename_i h1;split at h
  ·cases h
  ·rename_i F;split at h
   ·cases h
   ·rename_i E;injection h with h;exact⟨by simpa using h1,by omega,by omega,h.symm⟩
def aoH{x:Instance}{t:VType}{p:Int}{s:Stop}{k j:Nat}{l l':Lab}{b:Bool}(O:k<=1048576)(I:GoB x t)(F:StopB s)(E:LabB l k)(h:pG x t p s j l b=.ok l'):LabB l' (k+1):=by
 obtain⟨h0,h1,h2,rfl⟩:=Il (k:=k) h;have hi:=Xm (goL x t p s.place l b).1 s.start;have Z:=F.close;have X:=F.start;have h4:=F.service;obtain⟨e,ha⟩:=EW O I E h0 (by omega);have Y:=MG I.rest E b;have J:=L4 E b;have T:=I.drive;refine⟨?_,?_⟩
 ·show 0<=W _/\W _<=8192;rw[amV (by omega)];omega
 ·show _<=mP x t p s.place l b/\mP x t p s.place l b<=4096;refine⟨?_,by omega⟩;rw[e];push_cast;omega
def YF{x:Instance}{t:VType}{p q:Int}{l m:Lab}{b:Bool}(h:l.ready=m.ready):goL x t p q l b=goL x t p q m b/\iA t l b=iA t m b:=by
 have e:iA t l b=iA t m b:=by unfold iA;rw[h]
 exact⟨by unfold goL;rw[e],e⟩
def Js{x:Instance}{t:VType}{p:Int}{s:Stop}{k j:Nat}{l m T:Lab}{b:Bool}(I:k<=1048576)(X:GoB x t)(hs:StopB s)(hl:LabB l k)(hm:LabB m k)(O:oO l m)(h:pG x t p s j m b=.ok T):
  ∃l',pG x t p s j l b=.ok l'/\oO l' T:=by
 obtain⟨h0,h1,h2,rfl⟩:=Il (k:=k) h;obtain⟨E,Z⟩:=YF (x:=x) (t:=t) (p:=p) (q:=s.place) (b:=b) O.1;have hi:=Xm (goL x t p s.place m b).1 s.start;have hc:=hs.close;have Y:=(EW (p:=p) (q:=s.place) (b:=b) I X hm h0 (by omega)).1;have e2:=(EW (p:=p) (q:=s.place) (b:=b) I X hl (by rw[E];exact h0) (by rw[E];omega)).1;have J:nO l b<=nO m b:=by
  unfold nO;cases b with
  | false=>exact O.2
  | true=>exact Xbq _
 have F:mP x t p s.place l b<=mP x t p s.place m b:=by rw[Y,e2,E,Z];omega
 refine⟨⟨W (eN (goL x t p s.place l b).1 s.start+s.service),mP x t p s.place l b,iY x t p s j l b⟩,?_,?_,F⟩
 ·unfold pG;rw[E,if_neg (by rw[h0];simp),if_neg (by omega),if_neg (by omega)]
 ·show W _=W _;rw[E]
def Kw{x:Instance}{t:VType}{p:Int}{k j:Nat}{l m X:Lab}{b:Bool}(J:k<=1048576)(I:GoB x t)(hl:LabB l k)(hm:LabB m k)(T:oO l m)(h:rR x t p j m b=.ok X):
  ∃l',rR x t p j l b=.ok l'/\oO l' X:=by
 obtain⟨h0,h1,h2,rfl⟩:=Qo h;obtain⟨E,Z⟩:=YF (x:=x) (t:=t) (p:=p) (q:=t.dst) (b:=b) T.1;have hc:=I.close;have Y:=(EW (p:=p) (q:=t.dst) (b:=b) J I hm h0 (by omega)).1;have e2:=(EW (p:=p) (q:=t.dst) (b:=b) J I hl (by rw[E];exact h0) (by rw[E];omega)).1;have O:nO l b<=nO m b:=by
  unfold nO;cases b with
  | false=>exact T.2
  | true=>exact Xbq _
 have F:mP x t p t.dst l b<=mP x t p t.dst m b:=by rw[Y,e2,E,Z];omega
 refine⟨⟨(goL x t p t.dst l b).1,mP x t p t.dst l b,JD x t p j l b⟩,?_,?_,F⟩
 ·unfold rR;rw[E,if_neg (by rw[h0];simp),if_neg (by omega),if_neg (by omega)]
 ·show(goL x t p t.dst l b).1=_;rw[E]
def eK(fixed:List Bool)(k:Nat):List Bool:=if k<fixed.length then[fixed.getD k false]else[false,true]
def iF(x:Instance)(t:VType)(r:Route):Nat->Int
 | 0=>t.src
 | k+1=>match r.visits[k]? with|some v=>(bI x v).1.place|none=>0
def gI(x:Instance)(t:VType)(r:Route)(k:Nat)(l:Lab)(b:Bool):Except Int Lab:=match r.visits[k]? with
 | some v=>pG x t (iF x t r k) (bI x v).1 k l b
 | none=>rR x t (iF x t r k) k l b
def kO(x:Instance)(t:VType)(r:Route):List Bool->Nat->Lab->Except Int Lab
 | [],_,l=>.ok l
 | b::bs,k,l=>match gI x t r k l b with
   | .error e=>.error e
   | .ok l'=>kO x t r bs (k+1) l'
def aiV{x:Instance}{t:VType}{r:Route}:∀(bs:List Bool) (k:Nat) (l:Lab),bs.length+k=r.visits.length+1->k<=r.visits.length->Er x t (r.visits.drop k) bs (iF x t r k) k l=kO x t r bs k l
 | [],k,l,h,hk=>by simp at h;omega
 | b::bs,k,l,h,hk=>by
  by_cases E:k<r.visits.length
  ·obtain⟨v,F⟩:=aK E;have T:r.visits.drop k=v::r.visits.drop (k+1):=by
    rw[Xck E];have:r.visits[k]=v:=by rw[List.getElem?_eq_getElem E]at F;exact Option.some.inj F
    rw[this]
   rw[T];unfold Er kO gI;rw[F];have ih:=fun l'=>aiV (x:=x) (t:=t) (r:=r) bs (k+1) l' (by simp at h;omega) (by omega)
   have J:iF x t r (k+1)=(bI x v).1.place:=by show(match r.visits[k]? with|some v=>(bI x v).1.place|none=>0)=_;rw[F]
   rw[J]at ih;show(match pG x t (iF x t r k) (bI x v).1 k l b with| .error e=>Except.error e| .ok l'=>Er x t (r.visits.drop (k+1)) bs (bI x v).1.place (k+1) l')=(match pG x t (iF x t r k) (bI x v).1 k l b with| .error e=>Except.error e| .ok l'=>kO x t r bs (k+1) l');cases pG x t (iF x t r k) (bI x v).1 k l b with
   | error e=>rfl
   | ok l'=>exact ih l'
  ·have O:k=r.visits.length:=by omega
   have I:bs=[]:=by
    have:bs.length=0:=by simp at h;omega
    exact List.eq_nil_of_length_eq_zero this
   subst I;rw[List.drop_eq_nil_of_le (by omega)];unfold Er kO gI;rw[List.getElem?_eq_none (by omega)];show rR x t (iF x t r k) k l b=match rR x t (iF x t r k) k l b with| .error e=>Except.error e| .ok l'=>kO x t r [] (k+1) l'
   cases rR x t (iF x t r k) k l b with
   | error e=>rfl
   | ok l'=>rfl
def qG{x:Instance}{t:VType}{r:Route}:∀(bs:List Bool) (b:Bool) (k:Nat) (l:Lab),kO x t r (bs++[b]) k l=match kO x t r bs k l with
  | .error e=>.error e
  | .ok l'=>gI x t r (k+bs.length) l' b
 | [],b,k,l=>by show(match gI x t r k l b with| .error e=>Except.error e| .ok l'=>kO x t r [] (k+1) l')=gI x t r (k+0) l b;cases gI x t r k l b <;> rfl
 | c::bs,b,k,l=>by
  show(match gI x t r k l c with| .error e=>Except.error e| .ok l'=>kO x t r (bs++[b]) (k+1) l')=match (match gI x t r k l c with| .error e=>Except.error e| .ok l'=>kO x t r bs (k+1) l')with| .error e=>Except.error e| .ok l'=>gI x t r (k+(bs.length+1)) l' b
  cases gI x t r k l c with
  | error e=>rfl
  | ok l'=>show kO x t r (bs++[b]) (k+1) l'=_;rw[qG bs b (k+1) l',show k+1+bs.length=k+(bs.length+1)by omega]
def wC(m l:Lab):Bool:=m.ready == l.ready&&decide (m.since<=l.since)
def IK{m l:Lab}:wC m l=true↔oO m l:=by unfold wC oO;simp
def wR(out:List Lab)(e:Except Int Lab):List Lab:=match e with
 | .error _=>out
 | .ok l=>if out.any (wC · l)=true then out else out++[l]
def Bw(x:Instance)(t:VType)(r:Route)(ls:List Lab)(k:Nat):List Lab:=(ls.flatMap fun l=>(eK r.rests k).map fun b=>gI x t r k l b).foldl wR []
def dpL(x:Instance)(t:VType)(r:Route):Nat->List Lab
 | 0=>[gK t r]
 | k+1=>Bw x t r (dpL x t r k) k
def Cm:∀(es:List (Except Int Lab)) (out:List Lab),
  (∀l∈es.foldl wR out,l∈out\/.ok l∈es)/\(∀l∈out,l∈es.foldl wR out)/\(∀l,.ok l∈es->∃m∈es.foldl wR out,oO m l)
 | [],out=>⟨fun l h=>.inl h,fun l h=>h,fun l h=>by cases h⟩
 | e::es,out=>by
  obtain⟨h1,T,X⟩:=Cm es (wR out e);have F:∀l∈out,l∈wR out e:=fun l E=>by
   unfold wR;split
   ·exact E
   ·split
    ·exact E
    ·exact Xbt _ E
  refine⟨fun l E=>?_,fun l E=>T l (F l E),fun l E=>?_⟩
  ·rcases h1 l E with h|h
   ·unfold wR at h;split at h
    ·exact .inl h
    ·split at h
     ·exact .inl h
     ·rcases Xbb.1 h with h|h
      ·exact .inl h
      ·simp at h;subst h;exact .inr (by simp)
   ·exact .inr (by simp[h])
  ·rcases Xbc.1 E with h|h
   ·subst h;have J:∃m∈wR out (.ok l),oO m l:=by
     unfold wR;simp only;split
     ·rename_i Y;obtain⟨m,O,I⟩:=Xas.1 Y;exact⟨m,O,IK.1 I⟩
     ·exact⟨l,by simp,oO.refl l⟩
    obtain⟨m,O,I⟩:=J;exact⟨m,T m O,I⟩
   ·exact X l h
def Ja(fixed bs:List Bool):Prop:=∀(i:Nat) (b:Bool),bs[i]?=some b->b∈eK fixed i
def Jl{fixed bs:List Bool}{b:Bool}:Ja fixed (bs++[b])↔Ja fixed bs/\b∈eK fixed bs.length:=by
 constructor
 ·intro h;refine⟨fun i c E=>h i c ?_,h bs.length b (by simp)⟩;have:=(List.getElem?_eq_some_iff.1 E).1;rw[List.getElem?_append_left this];exact E
 ·rintro⟨h1,I⟩ i c E;by_cases J:i<bs.length
  ·rw[List.getElem?_append_left J]at E;exact h1 i c E
  ·rw[List.getElem?_append_right (by omega)]at E;by_cases O:i=bs.length
   ·subst O;simp at E;subst E;exact I
   ·have:i-bs.length≠0:=by omega
    cases F:i-bs.length with
    | zero=>omega
    | succ n=>rw[F]at E;simp at E
structure RouteB(x:Instance)(t:VType)(r:Route):Prop where
 go:GoB x t
 stop:∀v∈r.visits,StopB (bI x v).1
 first:LabB (gK t r) 0
 short:r.visits.length<=1048575
def Pv{α:Type}{l:List α}{k:Nat}(h:l.length=k+1):∃m b,l=m++[b]/\m.length=k:=by
 have E:l≠[]:=by intro e;subst e;simp at h
 refine⟨l.dropLast,l.getLast E,(List.dropLast_concat_getLast E).symm,by simp[h]⟩
def aqY{x:Instance}{t:VType}{r:Route}{k:Nat}(F:k<r.visits.length)(l:Lab)(b:Bool):∃v∈r.visits,gI x t r k l b=pG x t (iF x t r k) (bI x v).1 k l b:=by obtain⟨v,E⟩:=aK F;exact⟨v,Xac E,by unfold gI;rw[E]⟩
def Oh{x:Instance}{t:VType}{r:Route}(E:RouteB x t r):∀(k:Nat) (bs:List Bool) (l:Lab),bs.length=k->k<=r.visits.length->kO x t r bs 0 (gK t r)=.ok l->LabB l k
 | 0,bs,l,hl,_,h=>by have:=List.eq_nil_of_length_eq_zero hl;subst this;injection h with h;subst h;exact E.first
 | k+1,bs,l,hl,hk,h=>by
  obtain⟨m,b,rfl,I⟩:=Pv hl;rw[qG]at h;cases F:kO x t r m 0 (gK t r)with
  | error e=>rw[F]at h;cases h
  | ok l'=>rw[F]at h;have h:gI x t r (0+m.length) l' b=.ok l:=h;rw[I,Xcg]at h;have J:=Oh E k m l' I (by omega) F;have T:=E.short;obtain⟨v,O,e⟩:=aqY (x:=x) (t:=t) (r:=r) (k:=k) (by omega) l' b;rw[e]at h;exact aoH (by omega) E.go (E.stop v O) J h
def B9{x:Instance}{t:VType}{r:Route}:∀(k:Nat) (l:Lab),l∈dpL x t r k->∃bs,bs.length=k/\Ja r.rests bs/\kO x t r bs 0 (gK t r)=.ok l
 | 0,l,h=>by have h:l∈[gK t r]:=h;simp at h;subst h;exact⟨[],rfl,fun i b E=>by simp at E,rfl⟩
 | k+1,l,h=>by
  have h:l∈Bw x t r (dpL x t r k) k:=h;unfold Bw at h;rcases(Cm _ []).1 l h with h|h
  ·cases h
  ·obtain⟨l',F,h⟩:=List.mem_flatMap.1 h;obtain⟨b,E,h⟩:=Xbe.1 h;obtain⟨bs,h1,J,I⟩:=B9 k l' F;refine⟨bs++[b],by simp[h1],Jl.2 ⟨J,by rw[h1];exact E⟩,?_⟩;rw[qG,I];show gI x t r (0+bs.length) l' b=.ok l;rw[h1,Xcg];exact h
def Gt{x:Instance}{t:VType}{r:Route}(E:RouteB x t r):∀(k:Nat) (bs:List Bool) (m:Lab),bs.length=k->k<=r.visits.length+1->Ja r.rests bs->kO x t r bs 0 (gK t r)=.ok m->∃l∈dpL x t r k,oO l m
 | 0,bs,m,hl,_,_,h=>by have:=List.eq_nil_of_length_eq_zero hl;subst this;injection h with h;subst h;exact⟨_,by show gK t r∈[gK t r];simp,oO.refl _⟩
 | k+1,bs,m,hl,hk,hc,h=>by
  obtain⟨cs,b,rfl,T⟩:=Pv hl;obtain⟨ab,I⟩:=Jl.1 hc;rw[T]at I;rw[qG]at h;cases O:kO x t r cs 0 (gK t r)with
  | error e=>rw[O]at h;cases h
  | ok m'=>
   rw[O]at h;have h:gI x t r (0+cs.length) m' b=.ok m:=h;rw[T,Xcg]at h;obtain⟨l',F,J⟩:=Gt E k cs m' T (by omega) ab O;have hs:=E.short;have bm:=Oh E k cs m' T (by omega) O;obtain⟨ds,d1,d2,d3⟩:=B9 k l' F;have bl:=Oh E k ds l' d1 (by omega) d3;have step:∃l,gI x t r k l' b=.ok l/\oO l m:=by
    by_cases Y:k<r.visits.length
    ·obtain⟨v,hv⟩:=aK Y;have e:∀l,gI x t r k l b=pG x t (iF x t r k) (bI x v).1 k l b:=fun l=>by unfold gI;rw[hv]
     rw[e]at h |-;exact Js (by omega) E.go (E.stop v (Xac hv)) bl bm J h
    ·have e:∀l,gI x t r k l b=rR x t (iF x t r k) k l b:=fun l=>by unfold gI;rw[List.getElem?_eq_none (by omega)]
     rw[e]at h |-;exact Kw (by omega) E.go bl bm J h
   obtain⟨l,X,Z⟩:=step;obtain⟨q,hq,aa⟩:=(Cm ((dpL x t r k).flatMap fun l=>(eK r.rests k).map fun b=>gI x t r k l b) []).2.2 l
    (List.mem_flatMap.2 ⟨l',F,Xbe.2 ⟨b,I,X⟩⟩)
   exact⟨q,hq,aa.trans Z⟩
def UE{x:Instance}{t:VType}{r:Route}(Z:RouteB x t r):dpL x t r (r.visits.length+1)=[]↔∀bs,bs.length=r.visits.length+1->Ja r.rests bs->∃e,kO x t r bs 0 (gK t r)=.error e:=by
 constructor
 ·intro h bs X T;cases J:kO x t r bs 0 (gK t r)with
  | error e=>exact⟨e,rfl⟩
  | ok m=>obtain⟨l,E,_⟩:=Gt Z _ bs m X (Xaf _) T J;rw[h]at E;cases E
 ·intro h;cases O:dpL x t r (r.visits.length+1)with
  | nil=>rfl
  | cons l ls=>obtain⟨bs,h1,Y,I⟩:=B9 (r.visits.length+1) l (by rw[O];simp);obtain⟨e,F⟩:=h bs h1 Y;rw[I]at F;cases F
def NX{α:Type}(a c:List α)(b d:α):(a++b::c).set a.length d=a++d::c:=by simp
def Iu{α:Type}(a c:List α)(b d:α):(a++b::c).getD a.length d=b:=by simp
def PJ{α:Type}(n:Nat)(a:α):List.replicate (n+1) a=List.replicate n a++[a]:=List.replicate_succ'
def Kk(n:Nat):∀(j m:Nat) (q:List Bool),n<=q.length->oY n (q.length+1+j) (q++false::(List.replicate j true++List.replicate m false))=(q++true::List.replicate (j+m) false,true)
 | 0,m,q,hq=>by unfold oY;rw[if_pos hq];simp only[List.replicate_zero,Xbn,Iu,Xcg];rw[if_neg (by simp),NX]
 | j+1,m,q,hq=>by
  have e:q++false::(List.replicate (j+1) true++List.replicate m false)=(q++false::List.replicate j true)++true::List.replicate m false:=by rw[PJ];simp
  have E:(q++false::List.replicate j true).length=q.length+1+j:=by simp;omega
  rw[show q.length+1+(j+1)=(q++false::List.replicate j true).length+1 by omega,e];unfold oY;rw[if_pos (by omega),Iu,if_pos rfl,NX,E];have ih:=Kk n j (m+1) q hq;rw[List.replicate_succ]at ih;rw[show(q++false::List.replicate j true)++false::List.replicate m false=q++false::(List.replicate j true++false::List.replicate m false)by simp,ih,show j+(m+1)=j+1+m by omega]
def Ks(n:Nat):∀(j m:Nat) (p:List Bool),p.length=n->oY n (n+j) (p++(List.replicate j true++List.replicate m false))=([],false)
 | 0,m,p,hp=>by
   rw[Nat.add_zero];cases n with
   | zero=>rfl
   | succ k => conv => lhs; unfold oY
               rw[if_neg (by omega)]
 | j+1,m,p,hp=>by
   have e:p++(List.replicate (j+1) true++List.replicate m false)=(p++List.replicate j true)++true::List.replicate m false:=by rw[PJ];simp
   have E:(p++List.replicate j true).length=n+j:=by simp;omega
   rw[show n+(j+1)=(p++List.replicate j true).length+1 by omega,e];unfold oY;rw[if_pos (by omega),Iu,if_pos rfl,NX,E];have ih:=Ks n j (m+1) p hp;rw[List.replicate_succ]at ih;rw[show(p++List.replicate j true)++false::List.replicate m false=p++(List.replicate j true++false::List.replicate m false)by simp,ih]
def agX{n m:Nat}{q:List Bool}(E:n<=q.length):jM (q++false::List.replicate m true) n=(q++true::List.replicate m false,true):=by have h:=Kk n m 0 q E;simp only[List.replicate_zero,Xah,Nat.add_zero]at h;unfold jM;rw[show(q++false::List.replicate m true).length=q.length+1+m by simp;omega,h]
def agH{n m:Nat}{p:List Bool}(E:p.length=n):jM (p++List.replicate m true) n=([],false):=by have h:=Ks n m 0 p E;simp only[List.replicate_zero,Xah]at h;unfold jM;rw[show(p++List.replicate m true).length=n+m by simp[E],h]
def tQ(p:List Bool):Nat->List (List Bool)
 | 0=>[p]
 | m+1=>tQ (p++[false]) m++tQ (p++[true]) m
def EG:∀(m:Nat) (p c:List Bool),c∈tQ p m↔c.length=p.length+m/\p <+: c
 | 0,p,c=>by
  show c∈[p]↔_;simp only[Xbc,List.not_mem_nil,or_false];constructor
  ·rintro rfl;exact⟨rfl,List.prefix_refl _⟩
  ·rintro⟨h1,E⟩;exact(E.eq_of_length (by omega)).symm
 | m+1,p,c=>by
  show c∈tQ (p++[false]) m++tQ (p++[true]) m↔_;rw[Xbb,EG m,EG m];constructor
  ·rintro(⟨h1,E⟩|⟨h1,E⟩)
   ·exact⟨by simp at h1;omega,(List.prefix_append _ _).trans E⟩
   ·exact⟨by simp at h1;omega,(List.prefix_append _ _).trans E⟩
  ·rintro⟨h1,s,rfl⟩;cases s with
   | nil=>simp at h1
   | cons b s=>
    cases b
    ·exact .inl ⟨by simp at h1 |-;omega,⟨s,by simp⟩⟩
    ·exact .inr ⟨by simp at h1 |-;omega,⟨s,by simp⟩⟩
def A3(x:Instance)(r:Route)(l:List (List Bool))(b:Sheet×Bool):Sheet×Bool:=l.foldl (fun b c=>iI x r c b) b
def Dj{x:Instance}{r:Route}{n:Nat}:∀(m:Nat) (p:List Bool) (b:Sheet×Bool),n<=p.length ->
  rA x r n (zD (p++List.replicate m false,true)) (p++List.replicate m false,true) b=rA x r n (zD (jM (p++List.replicate m true) n)) (jM (p++List.replicate m true) n) (A3 x r (tQ p m) b)
 | 0,p,b,hp=>(BF (x:=x) (r:=r) (m:=n) (c:=(p++List.replicate 0 false,true)) (b:=b) rfl).1.trans (by simp only[List.replicate_zero,Xah];rfl)
 | m+1,p,b,hp=>by have h1:=Dj (x:=x) (r:=r) (n:=n) m (p++[false]) b (by simp;omega);have E:=Dj (x:=x) (r:=r) (n:=n) m (p++[true]) (A3 x r (tQ (p++[false]) m) b) (by simp;omega);rw[show p++[false]++List.replicate m false=p++List.replicate (m+1) false by simp[List.replicate_succ]]at h1;rw[show p++[false]++List.replicate m true=p++false::List.replicate m true by simp,agX hp]at h1;rw[show p++[true]++List.replicate m false=p++true::List.replicate m false by simp]at E;rw[show p++[true]++List.replicate m true=p++List.replicate (m+1) true by simp[List.replicate_succ]]at E;rw[h1,E];unfold A3;rw[show tQ p (m+1)=tQ (p++[false]) m++tQ (p++[true]) m from rfl,Xbm]
def sT(r:Route):Nat:=r.visits.length+1-r.rests.length
def RT{x:Instance}{r:Route}(T:bW x r=true)(X:r.rests.length<=r.visits.length+1)(J:(fA x r (cV r)).2.2≠0->(fA x r (cV r)).1=aX):
  lX x r=DW (A3 x r (tQ r.rests (sT r)) (aX,false)) (fA x r (cV r)).2.2:=by
 have e:lX x r=_:=if_neg (by rw[T];simp;omega);rw[e];have F:((fA x r (cV r)).1,(fA x r (cV r)).2.2 == 0)=iI x r (cV r) (aX,false):=by
  unfold iI;by_cases h:(fA x r (cV r)).2.2=0
  ·rw[if_pos (by rw[h];rfl),h];rfl
  ·rw[if_neg (by simp[h]),J h];have:((fA x r (cV r)).2.2 == 0)=false:=by simpa using h
   rw[this]
 rw[F];have O:=(BF (x:=x) (r:=r) (m:=r.rests.length) (c:=(cV r,true)) (b:=(aX,false)) rfl).1;have E:=Dj (x:=x) (r:=r) (n:=r.rests.length) (sT r) r.rests (aX,false) (Xaf _);have I:r.rests++List.replicate (sT r) false=cV r:=rfl;rw[I]at E;rw[<-O,E,agH rfl,wS rfl]
def Xn{x:Instance}{r:Route}:∀(l:List (List Bool)) (b:Sheet×Bool),(A3 x r l b).2=(b.2||l.any fun c=>(fA x r c).2.2 == 0)
 | [],b=>by simp[A3]
 | c::l,b=>by have ih:=Xn (x:=x) (r:=r) l (iI x r c b);show(A3 x r l (iI x r c b)).2=_;rw[ih];unfold iI;simp only[List.any_cons];cases h:(fA x r c).2.2 == 0 <;> simp[];cases E:b.2 <;> simp[];split <;> simp[E]
def agD{x:Instance}{r:Route}(J:bW x r=true)(I:r.rests.length<=r.visits.length+1)(F:(fA x r (cV r)).2.2≠0->(fA x r (cV r)).1=aX):
  (lX x r).2=if(tQ r.rests (sT r)).any (fun c=>(fA x r c).2.2 == 0)=true then 0 else(fA x r (cV r)).2.2:=by
 rw[RT J I F];have E:=Xn (x:=x) (r:=r) (tQ r.rests (sT r)) (aX,false);simp only[Xca]at E;unfold DW;rw[E];split <;> rfl
def uW{p c:List Bool}(h:p.length<=c.length):Ja p c↔p <+: c:=by
 constructor
 ·intro J;refine List.prefix_iff_getElem?.2 fun i F=>?_
  have I:i<c.length:=by omega
  have E:=J i c[i] (List.getElem?_eq_getElem I);unfold eK at E;rw[if_pos F]at E;simp only[Xbc,List.not_mem_nil,or_false]at E;rw[List.getElem?_eq_getElem I,E];simp[List.getD,List.getElem?_eq_getElem F]
 ·rintro⟨s,rfl⟩ i b E;unfold eK;by_cases F:i<p.length
  ·rw[if_pos F];rw[List.getElem?_append_left F]at E;simp[List.getD,E]
  ·rw[if_neg F];cases b <;> simp
def nM{r:Route}(E:r.rests.length<=r.visits.length+1):(cV r).length=r.visits.length+1:=by unfold cV;simp;omega
def anK{bs:List Bool}{n:Nat}(h:bs.length=n+1):∃b cs,bs=b::cs/\cs.length=n:=by
 cases bs with
 | nil=>simp at h
 | cons b cs=>exact⟨b,cs,rfl,by simpa using h⟩
def Re{x:Instance}{r:Route}{t:VType}{bs:List Bool}(J:bW x r=true)(I:x.types[r.type.toNat]?=some t)(E:bs.length=r.visits.length+1)
  (F:∀v∈r.visits,(bI x v).1.start<=(bI x v).1.close):
  match kO x t r bs 0 (gK t r)with
  | .error e=>(fA x r bs).1=aX/\(fA x r bs).2.2=e
  | .ok l=>(fA x r bs).1=l.sheet/\(fA x r bs).2.2=0:=by
 obtain⟨b,cs,rfl,O⟩:=anK E;have h:=avI (b:=b) J I O F;have e:=aiV (x:=x) (t:=t) (r:=r) (b::cs) 0 (gK t r) (by simpa using E) (Xaa _);have e:Er x t r.visits (b::cs) t.src 0 (gK t r)=kO x t r (b::cs) 0 (gK t r):=e;rw[e]at h;exact h
def Mg{x:Instance}{t:VType}{p:Int}{s:Stop}{k:Nat}{l:Lab}{b:Bool}{e:Int}(h:pG x t p s k l b=.error e):e≠0:=by
 unfold pG at h
 repeat' split at h
 all_goals first|(injection h with h;omega)|cases h
def Lp{x:Instance}{t:VType}{p:Int}{k:Nat}{l:Lab}{b:Bool}{e:Int}(h:rR x t p k l b=.error e):e≠0:=by
 unfold rR at h
 repeat' split at h
 all_goals first|(injection h with h;omega)|cases h
def EN{x:Instance}{t:VType}{r:Route}:∀(bs:List Bool) (k:Nat) (l:Lab) (e:Int),kO x t r bs k l=.error e->e≠0
 | [],k,l,e,h=>by cases h
 | b::bs,k,l,e,h=>by
  unfold kO at h;cases E:gI x t r k l b with
  | error e'=>
   rw[E]at h;have h:(Except.error e':Except Int Lab)=.error e:=h;injection h with h;subst h;unfold gI at E;split at E
   ·exact Mg E
   ·exact Lp E
  | ok l'=>rw[E]at h;exact EN bs (k+1) l' e h
def Fy(e:Except Int Lab):Int:=match e with| .error e=>e| .ok _=>0
def amF{x:Instance}{r:Route}{t:VType}(hB:RouteB x t r)(O:bW x r=true)(T:x.types[r.type.toNat]?=some t)(hr:r.rests.length<=r.visits.length+1)
  (Y:∀v∈r.visits,(bI x v).1.start<=(bI x v).1.close):
  (lX x r).2=match dpL x t r (r.visits.length+1)with
   | []=>Fy (kO x t r (cV r) 0 (gK t r))
   | _::_=>0:=by
 have h0:=Re (bs:=cV r) O T (nM hr) Y;have hz:(fA x r (cV r)).2.2≠0->(fA x r (cV r)).1=aX:=by
  intro aa;cases E:kO x t r (cV r) 0 (gK t r)with
  | error e=>rw[E]at h0;exact h0.1
  | ok l=>rw[E]at h0;exact absurd h0.2 aa
 have e0:(fA x r (cV r)).2.2=Fy (kO x t r (cV r) 0 (gK t r)):=by
  cases E:kO x t r (cV r) 0 (gK t r)with
  | error e=>rw[E]at h0;exact h0.2
  | ok l=>rw[E]at h0;exact h0.2
 rw[agD O hr hz,e0];cases F:dpL x t r (r.visits.length+1)with
 | nil=>
  rw[if_neg];rw[Xas];rintro⟨c,hc,he⟩;obtain⟨ab,X⟩:=(EG _ _ _).1 hc;have I:c.length=r.visits.length+1:=by unfold sT at ab;omega
  obtain⟨e,J⟩:=(UE hB).1 F c I ((uW (by omega)).2 X);have h1:=Re (bs:=c) O T I Y;rw[J]at h1;have Z:(fA x r c).2.2=0:=by simpa using he
  exact EN _ _ _ _ J (h1.2.symm.trans Z)
 | cons l ls=>rw[if_pos];rw[Xas];obtain⟨bs,h1,Z,h3⟩:=B9 (r.visits.length+1) l (by rw[F];simp);refine⟨bs,(EG _ _ _).2 ⟨by unfold sT;omega,(uW (by omega)).1 Z⟩,?_⟩;have E:=Re (bs:=bs) O T h1 Y;rw[h3]at E;rw[E.2];rfl
end Sq
namespace Rx
open Go.Nu
open Sq (W fO xM yZ DB iS fX eQ dO NetOk)
structure Clk where
 ready:Int
 since:Int
structure Part where
 place:Int
 memory:Nat
 board:Nat
 visits:Nat
 load:List Int
 clocks:List Clk
 value:ByteArray
structure Wk where
 x:Instance
 kind:Nat
 t:VType
 near:List Int
 dual:Option (List ByteArray)
 most:Nat
section
variable(w:Wk)
end
def aiL(c d:Clk):Bool:=c.ready == d.ready&&decide (c.since<=d.since)
def axD(n:Network)(t:VType)(place goal:Int)(s:List Clk×Int)(c:Clk):List Clk×Int:=
 if((fO n t.profile place goal c.ready).2.2 == 0&&decide (W (W (c.since+(fO n t.profile place goal c.ready).1)-c.ready)<=t.drive))=true
 then(s.1++[⟨(fO n t.profile place goal c.ready).1,W (W (c.since+(fO n t.profile place goal c.ready).1)-c.ready)⟩],(fO n t.profile place goal c.ready).2.1)else s
def arI(t:VType)(c:Clk):Clk:=⟨W (c.ready+t.rest),0⟩
def drv2(n:Network)(t:VType)(place goal:Int)(s:List Clk×Int)(c:Clk):List Clk×Int:=axD n t place goal (axD n t place goal s c) (arI t c)
def akF(n:Network)(t:VType)(place goal:Int)(l:List Clk):List Clk×Int:=l.foldl (drv2 n t place goal) ([],0)
def nE(s:Stop)(a:Int):Int×Int:=if eN a s.start>s.close then(0,14)else(W (eN a s.start+s.service),0)
def srvC(s:Stop)(out:List Clk)(c:Clk):List Clk:=
 if((nE s c.ready).2 != 0)=true then out
 else if(out.any fun d=>aiL d ⟨(nE s c.ready).1,c.since⟩)=true then out
 else(out.filter fun d=> !aiL ⟨(nE s c.ready).1,c.since⟩ d)++[⟨(nE s c.ready).1,c.since⟩]
def XU(s:Stop)(l:List Clk):List Clk:=l.foldl (srvC s) []
def memP(near:List Int)(m o:Nat):Nat:=(m &&& (near.getD o 0).toNat) ||| 2^o
def arQ(a:Int)(kind:Nat):Int:=if(a != -1&&a != (kind:Int))=true then 1 else 0
def asG(a:ByteArray)(n:Int):ByteArray:=(wO a (zed n)).1
def fB(x:Instance)(o:Nat):Order:=x.orders.getD o ⟨ByteArray.empty,[],⟨0,0,0,0⟩,⟨0,0,0,0⟩,0,0,0,0,0,false⟩
def awO(a:ByteArray)(o:Nat):Option (List ByteArray)->ByteArray
 | none=>a
 | some l=>(DT a (l.getD o ByteArray.empty)).1
def OD(w:Wk)(p:Part)(o:Nat):Part×Bool:=
 if(dO (p.memory:Nat) (o:Nat)||dO (p.board:Nat) (o:Nat))=true then(p,false)
 else({ p with memory:=memP w.near p.memory o,value:=awO (asG p.value ((arQ (fB w.x o).now w.kind*16+arQ (fB w.x o).last w.kind)*65536)) o w.dual },true)
def atW(b o:Nat):Nat:=b ^^^ (b &&& 2^o)
def Hk(o:Order):Bool:=decide (o.pick.place>=0)&&decide (o.drop.place>=0)
def alY(w:Wk)(p:Part)(o:Nat)(drop:Bool):Part×Bool:=
 if drop=false then
   ({ p with load:=yZ p.load (fB w.x o).load,board:=if Hk (fB w.x o)=true then p.board ||| 2^o else p.board },iS (yZ p.load (fB w.x o).load) w.t.cap)
 else if Hk (fB w.x o)=true then
   if dO (p.board:Nat) (o:Nat)=true then({ p with load:=DB p.load (fB w.x o).load,board:=atW p.board o },iS (DB p.load (fB w.x o).load) w.t.cap)else(p,false)
 else(p,iS p.load w.t.cap)
def goP(w:Wk)(p:Part)(s:Stop):Part×Bool:=
 let d:=akF w.x.net w.t p.place s.place p.clocks
 ({ p with clocks:=XU s d.1,place:=s.place,visits:=p.visits+1,value:=asG p.value (W (W (w.t.perMile*d.2)*16777216)) },decide ((XU s d.1).length>0))
def YA(w:Wk)(p:Part)(v:Visit):Part×Bool:=
 if(decide ((p.visits:Int)>=(w.most:Int))||(fB w.x v.order.toNat).off|| !xM w.t.skills (fB w.x v.order.toNat).skills)=true then(p,false)
 else
   let s:=if(!v.drop||decide ((fB w.x v.order.toNat).pick.place<0))=true then OD w p v.order.toNat else(p,true)
   if s.2=true then
     let l:=alY w s.1 v.order.toNat v.drop
     if l.2=true then(if((eQ w.x v).2 != 0)=true then(l.1,false)else goP w l.1 (eQ w.x v).1)else(l.1,false)
   else(s.1,false)
def axR(close:Int)(out:Int)(c:Clk):Int:=if(decide (c.ready<=close)&&(decide (out<0)||decide (c.ready<out)))=true then c.ready else out
def apM(w:Wk)(p:Part):Int×Int×Bool:=
 if((p.visits:Int) == 0||(p.board:Int) != 0)=true then(0,0,false)
 else
   let d:=akF w.x.net w.t p.place w.t.dst p.clocks
   (d.1.foldl (axR w.t.close) (-1),d.2,decide (d.1.foldl (axR w.t.close) (-1)>=0))
def ajX(w:Wk)(e:Int):Int:=W (e-w.t.start)
def awJ(w:Wk)(e miles:Int):Int:=W (W (w.t.fixed+W (w.t.perMile*miles))+W (w.t.perTick*ajX w e))
def asS(w:Wk)(p:Part)(e miles:Int):ByteArray:=
 asG p.value (W (W (awJ w e miles*16777216)+W (W (Int.tdiv (ajX w e) 64)*W (Int.tdiv (ajX w e) 64))))
def amC(x:Instance):List Visit:=(List.range x.orders.length).flatMap fun i=>if(fB x i).off=true then[]else fX x.orders (i:Nat)
def avM(w:Wk):Part:=⟨w.t.src,0,0,0,List.replicate w.t.cap.length 0,[⟨w.t.start,0⟩],dec 0⟩
end Rx
namespace Rx
open Go.Nu
open Sq (W fO xM yZ DB iS fX eQ dO NetOk)
open Nu (BO B6 Et ltB geB)
end Rx
namespace Rx
open Go.Proofs.Tryz
open Go.Nu
open Sq (W fO xM yZ DB iS fX eQ dO NetOk pC lR kP rD)
open Mv (bP bS aO)
open Nu (BO B6 Et ltB geB)
def bK.cutO{P:Program}{f:FuncId}{args:List AV}{H:aG}{K:AV->aG->Prop}
  (h:bK P f args H fun a H'=>K a H'\/∃j i row,a=.oz j 0 i/\H' j=some row/\i<=row.es.length/\∀E,H' E=none->K (.os E) (aM (aM H' j none) E (some ⟨row.e,row.sz,row.es.take i⟩))):bK P f args H K:=by
 intro S w vals hS ha;refine(h S w vals hS ha).mono fun e w' ⟨v,x,H',S',he,J,I,Z,hg,hn⟩=>?_
 rcases J with J|J
 ·exact⟨v,x,H',S',he,J,I,Z,hg,hn⟩
 have h2:∀K2:AV->aG->Prop,(∃j i row,x=.oz j 0 i/\H' j=some row/\i<=row.es.length/\∀E,H' E=none->K2 (.os E) (aM (aM H' j none) E (some ⟨row.e,row.sz,row.es.take i⟩)))->∃v x H' S',e=.returned v/\K2 x H'/\St S' w' H'/\rep S' w' x v/\Grow S w S' w'/\∀k,k<S.N->H k=none->H' k=none:=by
  rintro K2 ⟨j,i,row,rfl,hj,hi,hk⟩;simp only[rep]at Z;obtain⟨ab,ad,n,c,Y,cc,T,O,_,aa,_,h0⟩:=Z;obtain⟨rfl,rfl⟩:=h0 trivial;obtain⟨c1,c2⟩:=I.cut hj T hi;have F:H' S'.N=none:=by
   cases e:H' S'.N with
   | none=>rfl
   | some row2=>exact absurd (I.rows _ _ e).lt (Nat.lt_irrefl _)
  refine⟨v,.os S'.N,_,_,he,hk S'.N F,c1,?_,hg.trans c2,fun q hq h0=>?_⟩
  ·simp only[rep];refine⟨Nat.lt_succ_self _,?_,Y,i-0,cc,O⟩;rw[O];simp[Sg.addRow]
  ·have X:q≠S'.N:=Nat.ne_of_lt (Xbu hq hg.le.N);rw[aJ _ _ _ _ X];by_cases e:q=j
   ·subst e;rw[aB]
   ·rw[aJ _ _ _ _ e];exact hn q hq h0
 exact h2 K J
def Fh{α:Type}{p:α->Bool}:∀{l:List α} {n:Int},0<=n->pC p l n= -1->∀y∈l,p y=false
 | [],_,_,_,y,E=>by simp at E
 | a::r,n,hn,h,y,E=>by
  simp only[pC]at h;split at h
  ·omega
  ·next F=>
   rcases Xbc.1 E with rfl|E
   ·simpa using F
   ·exact Fh (by omega) h y E
def FH{α:Type}{p:α->Bool}:∀{l:List α} {n:Int},pC p l n≠ -1->∃(i:Nat) (y:α),pC p l n=n+i/\l[i]?=some y/\p y=true/\∀u∈l.take i,p u=false
 | [],_,h=>absurd rfl h
 | a::r,n,h=>by
  simp only[pC]at h |-;by_cases F:p a=true
  ·exact⟨0,a,by rw[if_pos F];omega,rfl,F,by simp⟩
  ·rw[if_neg F]at h |-;obtain⟨i,y,h1,J,I,O⟩:=FH h;refine⟨i+1,y,by omega,J,I,fun u E=>?_⟩;rw[List.take_succ_cons]at E;rcases Xbc.1 E with rfl|E
   ·simpa using F
   ·exact O u E
def C6{α:Type}(l:List α){m:Nat}{v:α}(h:m<l.length):(l.set m v).take (m+1)=l.take m++[v]:=by
 have E:(l.set m v)[m]?=some v:=by simp[h]
 rw[List.take_add_one,E,List.take_set_of_le (Xaf m)];rfl
def aeM(s:Stop)(a:Int):PC prog 229 [.agg (eJ s),int a] (.tup [int (nE s a).1,int (nE s a).2]):=by
 refine pcd func229 rfl rfl ?_;simp only[go_sem];refine aH (Sq.Xg s a) ?_;unfold nE;by_cases h:eN a s.start>s.close
 ·simp only[if_pos h];simp only[go_sem];refine aA (fun E=>?_) (fun E=>?_)
  ·simp only[go_sem];exact .refl _
  ·simp at E
 ·simp only[if_neg h];simp only[go_sem];refine aA (fun E=>?_) (fun E=>?_)
  ·simp at E
  ·simp only[go_sem];exact .refl _
end Rx
namespace Rx
open Go.Nu
open Sq (W fO xM yZ DB iS fX eQ dO NetOk)
open Nu (BO B6 Et ltB geB)
def gR{x:Instance}{o:Nat}(h:o<x.orders.length):x.orders[o]?=some (fB x o):=by unfold fB;rw[List.getD,List.getElem?_eq_getElem h,Xbl]
def acR(n:Int): -9223372036854775808<=IntKind.i64.wrap n/\IntKind.i64.wrap n<=9223372036854775807:=by have e:IntKind.i64.wrap n=Go.RowKit.wrap64 n:=IntWalk.i64_left n;rw[e];unfold Go.RowKit.wrap64;omega
abbrev As(s:Stop):Row:=⟨91,4,[eJ s]⟩
end Rx
namespace Rx
open Go.Nu
open Sq (W fO xM yZ DB iS fX eQ dO NetOk)
open Nu (BO B6 Et ltB geB Ae)
open Mv (bP bS aO)
def asX(x:Instance)(k:Nat):VType:=x.types.getD k ⟨ByteArray.empty,0,0,0,[],0,0,0,0,0,0,0,0,0⟩
def awW(w:Wk)(p:Part)(n:Int):Int:=if(apM w p).2.2=true then W (n+1)else n
def countP(w:Wk)(vs:List Visit):Nat->Part->Int->Int
 | 0,p,n=>awW w p n
 | f+1,p,n=>vs.foldl (fun n v=>if n>8192 then n else if(YA w p v).2=true then countP w vs f (YA w p v).1 n else n) (awW w p n)
end Rx
namespace Rx
open Go.Nu
open Sq (W fO xM yZ DB iS fX eQ dO NetOk pC lR kP rD)
open Nu (BO B6 Et ltB geB Ae B1)
open Mv (bP bS aO)
section
variable{H:aG}{w:Wk}{jw jk jm jf:Nat}{known more fresh:List Part}
end
end Rx
end Go.Proofs.YtpagaknmdfgfkaaGreatDoor
section
namespace Go.So
variable{α:Type}
structure SWO(lt:α->α->Bool):Prop where
 asym:∀a b,lt a b=true->lt b a=false
 neg:∀a b c,lt a b=false->lt b c=false->lt a c=false
def tlt(lt:α->α->Bool)(p q:α×Nat):Prop:=lt p.1 q.1=true\/(lt q.1 p.1=false/\p.2<q.2)
section
variable{lt:α->α->Bool}(h:SWO lt)
include h
def awN{a b c:α}(h1:lt a b=true)(F:lt c b=false):lt a c=true:=by
 cases E:lt a c with
 | true=>rfl
 | false=>have:=h.neg _ _ _ E F;rw[h1]at this;cases this
def avK{a b c:α}(h1:lt a b=true)(F:lt a c=false):lt c b=true:=by
 cases E:lt c b with
 | true=>rfl
 | false=>have:=h.neg _ _ _ F E;rw[h1]at this;cases this
def YH{p q:α×Nat}(h1:tlt lt p q):lt q.1 p.1=false:=h1.elim (fun e=>h.asym _ _ e) (fun e=>e.1)
def FA{p q r:α×Nat}(h1:tlt lt p q)(E:tlt lt q r):tlt lt p r:=by
 rcases h1 with h1|⟨h1,F⟩
 ·exact .inl (awN h h1 (YH h E))
 ·rcases E with E|⟨E,I⟩
  ·exact .inl (avK h E h1)
  ·exact .inr ⟨h.neg _ _ _ E h1,by omega⟩
def agC{p q:α×Nat}(h1:tlt lt p q)(E:tlt lt q p):False:=by
 rcases h1 with h1|⟨h1,F⟩
 ·have:=YH h E;rw[h1]at this;cases this
 ·rcases E with E|⟨E,I⟩
  ·rw[h1]at E;cases E
  ·omega
end
def GL{R:α->α->Prop}(O:∀a b,R a b->R b a->False):∀J I:List α,J.Perm I->J.Pairwise R->I.Pairwise R->J=I
 | [],I,hp,_,_=>(List.nil_perm.1 hp).symm
 | a::t,[],hp,_,_=>absurd hp.length_eq (by simp)
 | a::t,b::u,hp,h1,h2=>by
  have E:=List.pairwise_cons.1 h1;have F:=List.pairwise_cons.1 h2;by_cases e:a=b
  ·subst e;rw[GL O t u ((List.perm_cons a).1 hp) E.2 F.2]
  ·have T:a∈u:=(List.mem_cons.1 (hp.mem_iff.1 (List.mem_cons_self ..))).resolve_left e;have X:b∈t:=(List.mem_cons.1 (hp.mem_iff.2 (List.mem_cons_self ..))).resolve_left (fun x=>e x.symm);exact(O a b (E.1 b X) (F.1 a T)).elim
def ins(lt:α->α->Bool)(x:α):List α->List α
 | []=>[x]
 | z::r=>if lt x z=true then x::z::r else z::ins lt x r
def yN(lt:α->α->Bool)(l:List α):List α:=l.foldl (fun acc x=>ins lt x acc) []
def Cf(lt:α->α->Bool)(x:α):∀l:List α,(ins lt x l).Perm (x::l)
 | []=>.refl _
 | z::r=>by
  unfold ins;split
  ·exact .refl _
  ·exact((Cf lt x r).cons z).trans (.swap x z r)
def Yy{E:Type}(lt:α->α->Bool)(f:E->α)(x:E):∀l:List E,(ins (fun a b=>lt (f a) (f b)) x l).map f=ins lt (f x) (l.map f)
 | []=>rfl
 | z::r=>by
  rw[List.map_cons];unfold ins;split
  ·rfl
  ·rw[List.map_cons,Yy lt f x r]
def HR{lt:α->α->Bool}{x y:α}{l:List α}:y∈ins lt x l↔y=x\/y∈l:=by rw[(Cf lt x l).mem_iff,List.mem_cons]
def J2{lt:α->α->Bool}(h:SWO lt)(x:α×Nat):∀l:List (α×Nat),l.Pairwise (tlt lt)->(∀y∈l,y.2<x.2)->(ins (fun a b=>lt a.1 b.1) x l).Pairwise (tlt lt)
 | [],_,_=>by simp[ins]
 | z::r,hs,hr=>by
  have F:=List.pairwise_cons.1 hs;unfold ins;split
  ·next I=>
   refine List.pairwise_cons.2 ⟨fun y E=>?_,hs⟩;rcases List.mem_cons.1 E with rfl|E
   ·exact .inl I
   ·exact FA h (.inl I) (F.1 y E)
  ·next I=>
   refine List.pairwise_cons.2 ⟨fun y E=>?_,J2 h x r F.2 fun y E=>hr y (List.mem_cons_of_mem _ E)⟩;rcases HR.1 E with rfl|E
   ·exact .inr ⟨by simpa using I,hr z (List.mem_cons_self ..)⟩
   ·exact F.1 y E
def ME{lt:α->α->Bool}(h:SWO lt):∀(l acc:List (α×Nat)) (k:Nat),acc.Pairwise (tlt lt)->(∀y∈acc,y.2<k)->(∀i (y:α×Nat),l[i]?=some y->y.2=k+i) ->
  ((l.foldl (fun a x=>ins (fun a b=>lt a.1 b.1) x a) acc).Pairwise (tlt lt)/\(l.foldl (fun a x=>ins (fun a b=>lt a.1 b.1) x a) acc).Perm (acc++l)/\(l.foldl (fun a x=>ins (fun a b=>lt a.1 b.1) x a) acc).map Prod.fst=(l.map Prod.fst).foldl (fun a x=>ins lt x a) (acc.map Prod.fst))
 | [],acc,k,hs,_,_=>⟨hs,by simp,rfl⟩
 | x::l,acc,k,hs,hk,hl=>by
  have I:x.2=k:=by have:=hl 0 x rfl;omega
  have ih:=ME h l (ins (fun a b=>lt a.1 b.1) x acc) (k+1) (J2 h x acc hs fun y E=>by have:=hk y E;omega) (fun y E=>by
   rcases HR.1 E with rfl|E
   ·omega
   ·have:=hk y E;omega) (fun i y F=>by have:=hl (i+1) y (by simpa using F);omega)
  rw[List.foldl_cons];refine⟨ih.1,ih.2.1.trans ?_,?_⟩
  ·refine((Cf _ x acc).append_right l).trans ?_;exact List.perm_middle.symm
  ·rw[ih.2.2,Yy lt Prod.fst x acc,List.map_cons,List.foldl_cons]
def tag(l:List α):List (α×Nat):=l.zipIdx
def OZ(l:List α):(tag l).map Prod.fst=l:=by unfold tag;exact List.zipIdx_map_fst 0 l
def E5{l:List α}{i:Nat}{y:α×Nat}(h:(tag l)[i]?=some y):y.2=i:=by
 unfold tag at h;rw[List.getElem?_zipIdx]at h;cases E:l[i]? with
 | none=>rw[E]at h;cases h
 | some a=>rw[E]at h;simp at h;rw[<-h]
def anU(l:List α):(tag l).length=l.length:=by unfold tag;exact List.length_zipIdx
def abM{lt:α->α->Bool}(h:SWO lt){l:List α}{L:List (α×Nat)}(I:L.Perm (tag l))(F:L.Pairwise (tlt lt)):L.map Prod.fst=yN lt l:=by have E:=ME h (tag l) [] 0 List.Pairwise.nil (by simp) (fun i y J=>by have:=E5 J;omega);rw[GL (fun a b=>agC h) L _ (I.trans E.2.1.symm) F E.1,E.2.2,OZ];rfl
section
variable{lt:α->α->Bool}(h:SWO lt)
include h
def IS{Q B:List (α×Nat)}{x:α×Nat}(hs:(Q++B).Pairwise (tlt lt))(h1:∀y,Q.getLast?=some y->tlt lt y x)(Y:∀y,B.head?=some y->tlt lt x y):(Q++x::B).Pairwise (tlt lt):=by
 obtain⟨T,X,I⟩:=List.pairwise_append.1 hs;have O:∀b∈B,tlt lt x b:=by
  intro b F;cases B with
  | nil=>cases F
  | cons y r=>
   rcases List.mem_cons.1 F with rfl|F
   ·exact Y b rfl
   ·exact FA h (Y y rfl) ((List.pairwise_cons.1 X).1 b F)
 have J:∀a∈Q,tlt lt a x:=by
  intro a E;rcases List.eq_nil_or_concat Q with rfl|⟨Q',y,rfl⟩
  ·cases E
  ·rw[List.concat_eq_append]at *;have Z:=h1 y (by simp);rcases List.mem_append.1 E with E|E
   ·exact FA h ((List.pairwise_append.1 T).2.2 a E y (by simp)) Z
   ·rw[List.mem_singleton.1 E];exact Z
 refine List.pairwise_append.2 ⟨T,List.pairwise_cons.2 ⟨O,X⟩,fun a E b F=>?_⟩;rcases List.mem_cons.1 F with rfl|F
 ·exact J a E
 ·exact I a E b F
end
def swp(l:List α)(i j:Nat):List α:=match l[i]?,l[j]? with
 | some x,some y=>(l.set i y).set j x
 | _,_=>l
def atC{U V W:List α}{x y:α}{i j:Nat}(I:i=U.length)(F:j=U.length+1+V.length):swp (U++x::(V++y::W)) i j=U++y::(V++x::W):=by
 subst I F;unfold swp;have E:(U++x::(V++y::W))[U.length]?=some x:=by simp
 have J:(U++x::(V++y::W))[U.length+1+V.length]?=some y:=by rw[List.getElem?_append_right (by omega),show U.length+1+V.length-U.length=V.length+1 by omega,List.getElem?_cons_succ,List.getElem?_append_right (by omega)];simp
 rw[E,J];simp only;rw[List.set_append_right _ _ (by omega),show U.length-U.length=0 by omega,List.set_cons_zero,List.set_append_right _ _ (by omega),show U.length+1+V.length-U.length=V.length+1 by omega,List.set_cons_succ,List.set_append_right _ _ (by omega),Nat.sub_self,List.set_cons_zero]
def P3{U W:List α}{x y:α}{i j:Nat}(F:i=U.length)(E:j=U.length+1):swp (U++x::y::W) i j=U++y::x::W:=atC (V:=[]) F (by simpa using E)
def QB(l:List α)(i j:Nat)(h:i≠j):swp l i j=swp l j i:=by
 unfold swp;cases l[i]? with
 | none=>cases l[j]? <;> rfl
 | some x=>cases l[j]? with
  | none=>rfl
  | some y=>exact List.set_comm _ _ h
def Ya(A B:List (α×Nat)):Prop:=∀x∈A,∀y∈B,x.2<y.2
def Ze{l:List α}{P Q:List (α×Nat)}(h:P++Q=tag l):Ya P Q:=by
 intro x I y O;obtain⟨i,E,rfl⟩:=List.getElem_of_mem I;obtain⟨j,J,rfl⟩:=List.getElem_of_mem O;have F:(tag l)[i]?=some P[i]:=by rw[<-h,List.getElem?_append_left E,List.getElem?_eq_getElem E]
 have T:(tag l)[P.length+j]?=some Q[j]:=by rw[<-h,List.getElem?_append_right (by omega),Nat.add_sub_cancel_left,List.getElem?_eq_getElem J]
 rw[E5 F,E5 T];omega
end Go.So
end
namespace Go.Proofs.YtpagaknmdfgfkaaGreatDoor
open Go.Aw Go.Aw.D Go.Proofs Ty
namespace Rx
open Go.Proofs.Tryz
open Go.Nu Go.So
open Nu (ltB geB)
abbrev vY(l:List Int):Row:=⟨3,1,l.map bC⟩
def If(x:Int):(bC x).length=1:=(rfl)
abbrev TB:=Int×Nat
def fs(L:List TB):List Int:=L.map Prod.fst
structure CmpOk(gf:Nat)(cap':List AV)(lt:Int->Int->Bool)(ok:Int->Prop):Prop where
 call:aE Tryz.prog gf=true
 cmp:∀x y,ok x->ok y->∃n:Int,decide (n<0)=lt x y/\PC Tryz.prog gf (int x::int y::cap') (int n)
section
variable{gf:Nat}{cx:AV}{jc:Nat}{rc:Row}{cap':List AV}{lt:Int->Int->Bool}{ok:Int->Prop}
end
end Rx
namespace Rx
open Go.Nu Go.So
open Sq (W fX eQ dO NetOk pC lR kP rD)
open Nu (ltB geB Fb)
open Mv (bP bS aO)
end Rx
namespace Rx
open Go.Nu Go.So
open Sq (W fX eQ dO NetOk)
open Nu (ltB geB)
open Mv (bP bS aO)
def mM(s i:Nat):Bool:=s/2^i%2 == 1
def SY(o:Order):List Int:=(if decide (o.pick.place>=0)=true then[o.pick.place]else[])++(if decide (o.drop.place>=0)=true then[o.drop.place]else[])
def dD(near:List Int)(m o:Nat)(s i:Nat):Nat:=if(i == o||(mM m i&&mM (near.getD o 0).toNat i))=true then s+2^i else s
def d32A(p q:Int)(out:Int)(w:Arc):Int:=if((w.src == p&&w.dst == q)||(w.src == q&&w.dst == p))=true then asK out w.miles else out
def d32Q(arcs:List Arc)(p:Int)(out q:Int):Int:=arcs.foldl (d32A p q) (if(p == q)=true then 0 else out)
def d32P(arcs:List Arc)(Q:List Int)(out p:Int):Int:=Q.foldl (d32Q arcs p) out
def alJ(x:Instance)(a b:Nat):Int:=(SY (fB x a)).foldl (d32P x.net.arcs (SY (fB x b))) 10001
def nB(x:Instance)(a set:Nat)(best:Int)(b:Nat):Int:=if(!mM set b&&(decide (best<0)||decide (alJ x a b<alJ x a best.toNat)))=true then(b:Int)else best
end Rx
namespace Rx
open Go.Nu Go.So
open Sq (W fX eQ dO NetOk fO)
open Nu (ltB geB)
open Mv (bP bS aO)
structure Mom where
 time:Int
 driven:Int
structure RP where
 place:Int
 visits:Nat
 miles:Int
 moms:List Mom
 memory:Nat
 board:Nat
 load:List Int
 moved:Int
 other:Int
 dual:ByteArray
structure Rs where
 x:Instance
 t:VType
 kind:Nat
 near:List Int
 dual:List ByteArray
 most:Nat
 count:Int
 limited:Bool
 found:Bool
 least:ByteArray
section
variable(p:RP)
end
section
variable(w:Rs)
end
def axS(t:VType)(m:Mom):Mom:=⟨W (m.time+t.rest),0⟩
def amM(t:VType)(l:List Mom):List Mom:=l.flatMap fun m=>[m,axS t m]
def arrM(n:Network)(t:VType)(place goal close:Int)(s:List Mom×Int)(m:Mom):List Mom×Int:=
 (if(((fO n t.profile place goal m.time).2.2 == 0&&decide ((fO n t.profile place goal m.time).1<=close))&&decide (W (W (m.driven+(fO n t.profile place goal m.time).1)-m.time)<=t.drive))=true
  then s.1++[⟨(fO n t.profile place goal m.time).1,W (W (m.driven+(fO n t.profile place goal m.time).1)-m.time)⟩]else s.1,(fO n t.profile place goal m.time).2.1)
def KB(n:Network)(t:VType)(place goal close:Int)(l:List Mom):List Mom×Int:=l.foldl (arrM n t place goal close) ([],0)
end Rx
end Go.Proofs.YtpagaknmdfgfkaaGreatDoor
section
namespace Go.Aw
open Go.RowKit
section
variable{P:Program}{f:FuncId}{args:List AV}{H H1:aG}{K:AV->aG->Prop}{r:AV}
def MC(P:Program)(f:FuncId)(args:List AV)(H H1:aG)(r:AV):Prop:=∀K:AV->aG->Prop,K r H1->bK P f args H K
def MC.use(h:MC P f args H H1 r)(E:K r H1):bK P f args H K:=h K E
def bK.dataM(hs:∀k,H k=none->H1 k=none)(h:bK P f args H (OP H1 r))(T:K r H1):bK P f args H K:=by
 intro S w vals hS X;refine(h S w vals hS X).mono fun e w' ⟨v,x,H',S',he,⟨Z,l,O,J⟩,I,hv,hg,hn⟩=>?_
 obtain⟨h1,h2,Y⟩:=I.frz l;refine⟨v,r,H1,S'.froze _,he,T,h1.drop (fun k row F=>?_),J.rep Y hv,hg.trans h2,fun k _ h0=>hs k h0⟩;have E:¬k∈l:=fun E=>by rw[O k E]at F;cases F
 show(if k∈l then none else H' k)=some row;rw[if_neg E];exact Z k row F
def MC.body{fn:Func}{c:Code}(mt:Nat->Bool)(J:∀k,H k=none->H1 k=none)(O:P.follows .mixedOrders=true)(F:P.funcs[f]?=some fn)(E:fn.body=some c)(T:Di fn c args.length=true)
 (h:awp P (bK P) (eV P) mt c (KH P fn.results.toList (OP H1 r)) (Gg args) H):MC P f args H H1 r:=fun K I=>bK.dataM J (bK.body mt O F E T h) I
def PQ{H:aG}{j:Nat}{a:Row}(h:H j=some a):aM H j (some a)=H:=funext fun k=>by
 by_cases e:k=j
 ·subst e;rw[aB,h]
 ·rw[aJ _ _ _ _ e]
def abQ(H:aG)(j:Nat)(a b:Option Row):aM (aM H j a) j b=aM H j b:=funext fun k=>by
 by_cases e:k=j
 ·subst e;rw[aB,aB]
 ·rw[aJ _ _ _ _ e,aJ _ _ _ _ e,aJ _ _ _ _ e]
def Sup.set{H H':aG}(h:Sup H H')(j:Nat)(a:Option Row):Sup (aM H j a) (aM H' j a):=fun k row E=>by
 by_cases e:k=j
 ·subst e;rw[aB]at E |-;exact E
 ·rw[aJ _ _ _ _ e]at E |-;exact h k row E
def Sup.set2{H H':aG}{j:Nat}{b:Option Row}(h:Sup (aM H j b) H')(a:Option Row):Sup (aM H j a) (aM H' j a):=by
 have:=Sup.set h j a
 rwa [abQ]at this
def Uh{H:aG}{j:Nat}{a:Option Row}{b:Row}(h:H j=some b):∀k,H k=none->aM H j a k=none:=fun k E=>by
 by_cases e:k=j
 ·subst e;rw[h]at E;cases E
 ·rw[aJ _ _ _ _ e,E]
def D0{P:Program}{C:mN}{PC:FuncId->List AV->aG->AV->Prop}{mt:Nat->Bool}{ops:List Oper}{K:Env->aG->Prop}{m:Nat}{ρ:Env}{H:aG}(l:List Nat)(t:Mx)(J:Env->aG->Prop)(I:∀k,k∈l->(H k).isSome=true)(T:Gk ops.toArray t=true)
 (h:∀K':Env->aG->Prop,(∀E H',J E H'->K' E H')->∀Hp F:aG,(∀k,k∈l->Hp k=H k)->(∀k,k∉l->F k=H k)->(∀k,k∉l->Hp k=none)->(∀k,k∈l->F k=none)->nJ P C PC mt ops.toArray (sS l H K') Hp t ρ F)
 (O:∀E H',J E H'->K E H'):vV P C PC mt ops.toArray K m ρ H:=Co l t I T (h K O)
end
end Go.Aw
namespace Go.Proofs.YtpagaknmdfgfkaaGreatDoor.Rx
open Go.Aw Go.Aw.D Go.Proofs Ty Go.Nu Go.So
open Sq (W fX eQ dO NetOk fO)
open Nu (ltB geB Dd B7 mG)
open Mv (bP bS aO)
def HH(s:Rs)(v:ByteArray):Rs:=
 if(!s.found||decide (Hz v s.least<0))=true then { s with count:=W (s.count+1),found:=true,least:=v }else { s with count:=W (s.count+1) }
end Go.Proofs.YtpagaknmdfgfkaaGreatDoor.Rx
end
namespace Go.Proofs.YtpagaknmdfgfkaaGreatDoor
namespace Sq
open Go.Proofs.Tryz
open Go.Aw Go.Aw.D Go.Proofs Ty
open Go.Proofs.YtpagaknmdfgfkaaGreatDoor.Nu (ltB geB)
open Mv (bP bS aO)
def A8(M:List Nat)(q:Pair):List Nat:=
 if(((decide (q.a<0)||decide (q.b<0))||decide (q.a>=(M.length:Int)))||decide (q.b>=(M.length:Int)))=true then M
 else M.set q.b.toNat (M.getD q.b.toNat 0 ||| M.getD q.a.toNat 0 ||| 2^q.a.toNat)
def DF(l:List Pair)(M:List Nat):List Nat:=l.foldl A8 M
def Q5(l:List Pair):Nat->List Nat->List Nat
 | 0,M=>M
 | f+1,M=>if DF l M=M then M else Q5 l f (DF l M)
def uN(n:Nat)(l:List Pair):List Nat:=Q5 l (Jk (List.replicate n 0)+1) (List.replicate n 0)
def agG{α:Type}{M:List α}{i:Nat}{u:α}(h:M[i]?=some u):M.set i u=M:=by obtain⟨E,rfl⟩:=List.getElem?_eq_some_iff.1 h;exact List.set_getElem_self E
def ZF{M:List Nat}{i u:Nat}(h:M[i]?=some u):M.getD i 0=u:=by rw[List.getD,h];rfl
def Vz(l:List Pair):∀(f:Nat) (M:List Nat),(Q5 l f M).length=M.length:=by
 have h1:∀(l:List Pair) (M:List Nat),(l.foldl A8 M).length=M.length:=fun l=>by
  induction l with
  | nil=>exact fun M=>rfl
  | cons q l ih=>exact fun M=>(ih (A8 M q)).trans (by unfold A8;split <;> simp)
 intro f;induction f with
 | zero=>exact fun M=>rfl
 | succ f ih=>
  intro M;unfold Q5;split
  ·rfl
  ·exact(ih _).trans (h1 l M)
def GZ(n:Nat)(l:List Pair):(uN n l).length=n:=(Vz l _ _).trans List.length_replicate
def akD(n:Nat)(l:List Pair)(hn:n<=60)(hl:l.length<=1048576):PC prog 171 [int (n:Nat),.sl (l.map dH)] (.sl ((uN n l).map fun n:Nat=>[int (n:Nat)])):=by
 refine pcd func171 rfl rfl ?_;simp only[go_sem];have ap:eN (n:Int) 0=(n:Nat):=by unfold eN;split <;> omega
 rw[ap];refine⟨by omega,?_⟩;rw[Xao];generalize hR:uN n l=RR;refine fI fun j aj ax (R:aj j=some ((⟨3,1,List.replicate n [int 0]⟩:Row))) N=>?_
 simp only[go_sem];have R:aj j=some (Ft (List.replicate n 0)):=by rw[R,Ft,List.map_replicate];rfl
 refine⟨fun ρ H=>∃(j:Nat) (L:List Nat) (b:Bool),ρ 1=.sl (l.map dH)/\ρ 5=.os j/\ρ 6=boo b/\H j=some (Ft L)/\L.length=n/\(∀a∈L,a<2^62)/\(b=true->∃f,Jk L<f/\Q5 l f L=RR)/\(b=false->L=RR),fun ρ H=>aqE (ρ 5) (ρ 6) H,⟨j,_,true,rfl,rfl,rfl,R,List.length_replicate,fun a ha=>by rw[List.eq_of_mem_replicate ha];decide,fun _=>⟨_,Nat.lt_succ_self _,hR⟩,fun h=>(by cases h)⟩,?_⟩;rintro ρ H ⟨j,L,b,e1,O,e6,R,hL,hB,hT,hF⟩;simp only[go_sem,O,e6];refine aA (fun hb=>?_) (fun hb=>?_)
 case refine_2=>simp only[go_sem,O];rw[<-hF hb];exact .row _ _ _ R (ConvE.refl _)
 have hb:b=true:=hb;subst hb;obtain⟨f,aw,J⟩:=hT rfl;obtain⟨f,rfl⟩:∃f',f=f'+1:=⟨f-1,by omega⟩;have J:(if DF l L=L then L else Q5 l f (DF l L))=RR:=J;simp only[go_sem,e1,Xab];rw[aeX R];refine⟨fun ρ H=>∃(k:Nat) (j:Nat) (M:List Nat) (b:Bool),k<=l.length/\ρ 1=.sl (l.map dH)/\ρ 5=.os j/\ρ 6=boo b/\ρ 16=.sl (l.map dH)/\ρ 17=int l.length/\ρ 18=int (k:Nat)/\H j=some (Ft M)/\M.length=n/\(∀a∈M,a<2^62)/\Jk M<=Jk L/\(b=true->Jk M<Jk L)/\(b=false->M=L)/\M=(l.take k).foldl A8 L,fun ρ _=>l.length-aR (ρ 18),⟨0,j,L,false,Xaa _,e1,O,rfl,rfl,rfl,by simp only[go_sem];rfl,R,hL,hB,Xaf _,(fun h=>(by cases h)),fun _=>rfl,rfl⟩,?_⟩;rintro ρ H ⟨k,j,M,b,hk,e1,O,e6,ab,ac,X,R,hL,hB,al,E,F,Z⟩;simp only[go_sem,ac,X];refine aA (fun I=>?_) (fun ae=>?_)
 case refine_2=>
  have ae:=geB hk (by simpa using ae);simp only[go_sem,e1,O,e6];rw[Xan (by omega)]at Z;refine⟨⟨j,M,b,rfl,rfl,R,hL,hB,fun hb=>⟨f,by have:=E hb;omega,?_⟩,fun hb=>?_⟩,?_⟩
  ·have ao:DF l L≠L:=fun e=>by have:=E hb;rw[Z]at this;unfold DF at e;rw[e]at this;omega
   rw[if_neg ao]at J;rw[Z];exact J
  ·have e2:=F hb;rw[if_pos (show DF l L=L from Z.symm.trans e2)]at J;exact e2.trans J
  cases b with
  | true=>rw[aeX R];have:=E rfl;omega
  | false=>rw[avN];omega
 have I:=ltB (by simpa using I);obtain⟨q,hq⟩:=aK I;have b1:=inB I;have Y:=jX (f:=A8) (b:=L) hq;rw[<-Z]at Y;simp only[go_sem,ab,X,aC hq,b1];refine aN fun i8 ai=>?_
 simp only[go_sem,];refine cJ ai (by simp[nP]) fun aa (R8:aa i8=some (⟨169,2,[dH q]⟩)) N=>?_
 replace R:=N R;obtain⟨ah,R⟩:=R;simp only[go_sem,];refine fV [i8] [(0,true),(1,true),(2,true),(3,true),(4,true),(5,true)] (by simp[R8]) (by kernel_rfl) fun Hp Hr hp hr _ aq=>?_
 have ak:=(hp i8 (by simp)).trans R8;simp only[go_sem,ak];refine⟨by decide,by decide,qJ hr ?_⟩;simp only[go_sem,O,R,Xab];refine aA (fun hc=>?_) (fun hc=>?_)
 ·simp only[go_sem,e1,O,e6,ab,ac,X,aQ k];exact⟨⟨k+1,j,M,b,I,rfl,rfl,rfl,R,hL,hB,al,E,F,by rw[Y];unfold A8;rw[if_pos hc]⟩,by simp only[aL];omega⟩
 have ad:A8 M q=M.set q.b.toNat (M.getD q.b.toNat 0 ||| M.getD q.a.toNat 0 ||| 2^q.a.toNat):=by unfold A8;rw[if_neg (by rw[hc];simp)]
 simp only[Xag,decide_eq_false_iff_not]at hc;obtain⟨⟨⟨c1,c2⟩,c3⟩,c4⟩:=hc;obtain⟨A,hA⟩:=Int.eq_ofNat_of_zero_le (show 0<=q.a by omega);obtain⟨B,af⟩:=Int.eq_ofNat_of_zero_le (show 0<=q.b by omega);rw[hA]at c3;rw[af]at c4;have ag:A<M.length:=by omega
 have T:B<M.length:=by omega
 obtain⟨u,hu⟩:=aK T;obtain⟨w,hw⟩:=aK ag;rw[hA,af,Xao,Xao,ZF hu,ZF hw]at ad;rw[ad]at Y;have g1:=aC (f:=fun n:Nat=>[int (n:Nat)]) hu;have g2:=aC (f:=fun n:Nat=>[int (n:Nat)]) hw;have d1:=inB T;have d2:=inB ag;have bu:=hB u (Xac hu);have bw:=hB w (Xac hw);have b2:2^A<2^62:=Xda (by decide) (by omega);have o1:u ||| w<2^62:=Nat.or_lt_two_pow bu bw;have o2:u ||| w ||| 2^A<2^62:=Nat.or_lt_two_pow o1 b2;have v1:xR .or .i64 (u:Int) (w:Int)=((u ||| w:Nat):Int):=Ji (by omega) (by omega);have v2:xR .or .i64 ((u ||| w:Nat):Int) ((2^A:Nat):Int)=((u ||| w ||| 2^A:Nat):Int):=Ji (by omega) (by omega);have v3:shV .shl .i64 1 (A:Int)=((2^A:Nat):Int):=Iy (by omega);have ae:u<=u ||| w ||| 2^A:=Xal Nat.left_le_or Nat.left_le_or;simp only[go_sem,];refine fV [j] [(0,true),(1,true),(2,true),(3,true),(4,true),(5,true),(6,true),(7,true),(8,true),(9,true),(10,true),(11,true),(12,true)] (by simp[R]) (by kernel_rfl) fun Hp Hr hp hr _ aq=>?_
 have ar:=(hp j (by simp)).trans R;simp only[go_sem,O,hA,af,g1,g2,d1,d2,Xab,v1,v2,v3,ar];refine⟨T,ag,?_⟩;refine qJ hr ?_;simp only[go_sem,O,R,g1,d1,Xab,];refine⟨T,aA (fun hd=>?_) (fun hd=>?_)⟩
 ·have hd : u < u ||| w ||| 2 ^ A := by have:(((u ||| w ||| 2^A:Nat):Int) != (u:Int))=true:=hd;simp only[bne_iff_ne,ne_eq]at this;omega
  simp only[go_sem,O,R,d1,Xab];generalize au:u ||| w ||| 2^A=v at *;refine dP so3 R (by rw[Xab];exact⟨T,rfl,Xaf 1⟩) ?_;have am:(M.map fun n:Nat=>[int (n:Nat)]).set B (oN ((M.map fun n:Nat=>[int (n:Nat)]).getD B []) 0 [int (v:Nat)])=(M.set B v).map fun n:Nat=>[int (n:Nat)]:=by rw[g1,List.map_set];rfl
  have R3:aM aa j (some (⟨3,1,(M.map fun n:Nat=>[int (n:Nat)]).set B (oN ((M.map fun n:Nat=>[int (n:Nat)]).getD B []) 0 [int (v:Nat)])⟩:Row)) j=some (Ft (M.set B v)):=by rw[aB,am]
  generalize aM aa j _=H3 at R3 |-;have av:=TO hu hd (Nat.le_of_lt o2);simp only[go_sem,e1,O,ab,ac,X,aQ k];exact⟨⟨k+1,j,M.set B v,true,I,rfl,rfl,rfl,R3,by rw[Xcb,hL],fun a ha=>by
   rcases List.mem_or_eq_of_mem_set ha with ha|rfl
   ·exact hB a ha
   ·exact o2,by omega,(fun _=>by omega),(fun h=>by cases h),Y.symm⟩,by simp only[aL];omega⟩
 ·simp only[go_sem,e1,O,e6,ab,ac,X,aQ k];have an:u ||| w ||| 2^A=u:=by have:(((u ||| w ||| 2^A:Nat):Int) != (u:Int))=false:=hd;simp only[bne_eq_false_iff_eq]at this;omega
  exact⟨⟨k+1,j,M,b,I,rfl,rfl,rfl,R,hL,hB,al,E,F,by rw[Y,an,agG hu]⟩,by simp only[aL];omega⟩
def O8(x:Instance)(i:Int):Bool:=match x.orders[i.toNat]? with|some o=>o.off|none=>false
def xP(x:Instance)(set:Int):Int:=
 if set<0 then 2
 else if((dD set).any fun a=>decide (a>=(x.orders.length:Int)))=true then 2
 else if((dD set).any (O8 x))=true then 9
 else if(x.apart.any fun q=>dO set q.a&&dO set q.b)=true then 20
 else if(x.before.any fun q=>dO set q.b&& !dO set q.a)=true then 21
 else if((dD set).any fun a=>dO (((uN x.orders.length x.before).getD a.toNat 0:Nat):Int) a)=true then 21
 else 0
def ET{α:Type}{p:α->Bool}{l:List α}{k:Nat}{a:α}(h:l[k]?=some a)(E:p a=true):l.any p=true:=Xas.2 ⟨a,Xac h,E⟩
def pI{α:Type}{p:α->Bool}{l:List α}(h:∀a∈l,p a=false):l.any p=false:=Xbf.2 fun a E=>by rw[h a E];simp
def abR(x:Instance)(set:Int)(hx:x.orders.length<=60)(ha:x.apart.length<=1048576)(hb:x.before.length<=1048576):PC prog 113 [.agg (aD x),int set] (int (xP x set)):=by
 refine pcd func113 rfl rfl ?_;simp only[go_sem];have J:xP x set=(if set<0 then 2
  else if((dD set).any fun a=>decide (a>=(x.orders.length:Int)))=true then 2
  else if((dD set).any (O8 x))=true then 9
  else if(x.apart.any fun q=>dO set q.a&&dO set q.b)=true then 20
  else if(x.before.any fun q=>dO set q.b&& !dO set q.a)=true then 21
  else if((dD set).any fun a=>dO (((uN x.orders.length x.before).getD a.toNat 0:Nat):Int) a)=true then 21
  else 0):=rfl
 generalize xP x set=RP at *;apply aA <;> intro O
 ·rw[if_pos (of_decide_eq_true O)]at J;simp only[go_sem];rw[J];exact .refl _
 rw[if_neg (of_decide_eq_false O)]at J;simp only[go_sem];refine aH (oH set) ?_;have a6:=akE set;have ak:=fun a=>@adS set a
 generalize dD set=S at *;simp only[go_sem,Xab];refine⟨fun ρ H=>∃(k:Nat),k<=S.length/\ρ 1=int set/\ρ 2=.rp (aD x) 0/\ρ 5=.sl (S.map bC)/\ρ 21=.sl (S.map bC)/\ρ 22=int (S.length:Nat)/\ρ 23=int k/\(∀a∈S.take k,a<(x.orders.length:Int)),fun ρ _=>S.length-aR (ρ 23),⟨0,Xaa _,rfl,rfl,rfl,rfl,rfl,(by simp only[go_sem];rfl),by simp⟩,?_⟩;rintro ρ H ⟨k,hk,X,T,Y,av,ar,af,hz⟩;simp only[go_sem,ar,af];refine aA (fun E=>?_) (fun F=>?_)
 ·have E:=ltB (by simpa using E);obtain⟨a,I⟩:=aK E;have b1:=inB E;simp only[go_sem,T,av,af,aC I,b1,Xab];apply aA <;> intro O
  ·rw[if_pos (ET I O)]at J;simp only[go_sem];rw[J];exact .refl _
  ·have O:¬a>=(x.orders.length:Int):=of_decide_eq_false O;simp only[go_sem,X,T,Y,av,ar,af,aQ k];exact⟨⟨k+1,E,rfl,aO (p:=fun a:Int=>a<(x.orders.length:Int)) I (by omega) hz⟩,msr E⟩
 have F:=geB hk (by simpa using F);subst F;rw[Xad]at hz;rw[if_neg (by rw[pI fun a ha=>decide_eq_false (by have:=hz a ha;omega)];simp)]at J;simp only[go_sem,Y,Xab];refine⟨fun ρ H=>∃(k:Nat),k<=S.length/\ρ 1=int set/\ρ 2=.rp (aD x) 0/\ρ 5=.sl (S.map bC)/\ρ 33=.sl (S.map bC)/\ρ 34=int (S.length:Nat)/\ρ 35=int k/\(∀a∈S.take k,O8 x a=false),fun ρ _=>S.length-aR (ρ 35),⟨0,Xaa _,by simp only[go_sem,X,],by simp only[go_sem,T,],by simp only[go_sem,Y,],by simp only[go_sem],by simp only[go_sem],(by simp only[go_sem];rfl),by simp⟩,?_⟩;rintro ρ H ⟨k,hk,X,T,Y,az,aw,ae,hy⟩;simp only[go_sem,aw,ae];refine aA (fun E=>?_) (fun F=>?_)
 ·have E:=ltB (by simpa using E);obtain⟨a,I⟩:=aK E;have b1:=inB E;obtain⟨A,rfl⟩:=ak a (Xac I);have hA:=hz _ (Xac I);have Z:A<x.orders.length:=by omega
  obtain⟨o,ho⟩:=aK Z;have b2:=inB Z;have aa:O8 x (A:Int)=o.off:=by unfold O8;rw[Xao,ho]
  simp only[go_sem,T,az,ae,aC I,b1,aC ho,b2];apply aA <;> intro O
  ·rw[if_pos (ET (p:=O8 x) I (aa.trans O))]at J;simp only[go_sem];rw[J];exact .refl _
  ·simp only[go_sem,X,T,Y,az,aw,ae,aQ k];exact⟨⟨k+1,E,rfl,aO (p:=fun a=>O8 x a=false) I (aa.trans O) hy⟩,msr E⟩
 have F:=geB hk (by simpa using F);subst F;rw[Xad]at hy;rw[if_neg (by rw[pI hy];simp)]at J;simp only[go_sem,T,Xab];refine⟨fun ρ H=>∃(k:Nat),k<=x.apart.length/\ρ 1=int set/\ρ 2=.rp (aD x) 0/\ρ 5=.sl (S.map bC)/\ρ 47=.sl (x.apart.map dH)/\ρ 48=int (x.apart.length:Nat)/\ρ 49=int k/\(∀q∈x.apart.take k,(dO set q.a&&dO set q.b)=false),fun ρ _=>x.apart.length-aR (ρ 49),⟨0,Xaa _,by simp only[go_sem,X,],by simp only[go_sem,T,],by simp only[go_sem,Y,],by simp only[go_sem],by simp only[go_sem],(by simp only[go_sem];rfl),by simp⟩,?_⟩;rintro ρ H ⟨k,hk,X,T,Y,ax,ay,aj,hv⟩;simp only[go_sem,ay,aj];refine aA (fun E=>?_) (fun F=>?_)
 ·have E:=ltB (by simpa using E);obtain⟨q,hq⟩:=aK E;have b1:=inB E;simp only[go_sem,ax,aj,aC hq,b1];refine aN fun a5 ai=>?_
  simp only[go_sem];refine cJ ai (by simp[nP]) fun ab (an:ab a5=some (⟨169,2,[dH q]⟩)) N=>?_
  simp only[go_sem,X,an];refine⟨by decide,PC.use (yE set q.a) ?_⟩;simp only[go_sem,X,an];refine⟨fun _=>by decide,_,fun _=>(yE set q.b).q rfl,?_⟩;simp only[go_sem];apply aA <;> intro O
  ·rw[if_pos (ET (p:=fun q:Pair=>dO set q.a&&dO set q.b) hq O)]at J;simp only[go_sem];rw[J];exact .refl _
  ·simp only[go_sem,X,T,Y,ax,ay,aj,aQ k];exact⟨⟨k+1,E,rfl,aO (p:=fun q:Pair=>(dO set q.a&&dO set q.b)=false) hq O hv⟩,msr E⟩
 have F:=geB hk (by simpa using F);subst F;rw[Xad]at hv;rw[if_neg (by rw[pI hv];simp)]at J;simp only[go_sem,T,Xab];refine⟨fun ρ H=>∃(k:Nat),k<=x.before.length/\ρ 1=int set/\ρ 2=.rp (aD x) 0/\ρ 5=.sl (S.map bC)/\ρ 65=.sl (x.before.map dH)/\ρ 66=int (x.before.length:Nat)/\ρ 67=int k/\(∀q∈x.before.take k,(dO set q.b&& !dO set q.a)=false),fun ρ _=>x.before.length-aR (ρ 67),⟨0,Xaa _,by simp only[go_sem,X,],by simp only[go_sem,T,],by simp only[go_sem,Y,],by simp only[go_sem],by simp only[go_sem],(by simp only[go_sem];rfl),by simp⟩,?_⟩;rintro ρ H ⟨k,hk,X,T,Y,aq,a0,ac,hw⟩;simp only[go_sem,a0,ac];refine aA (fun E=>?_) (fun F=>?_)
 ·have E:=ltB (by simpa using E);obtain⟨q,hq⟩:=aK E;have b1:=inB E;simp only[go_sem,aq,ac,aC hq,b1];refine aN fun a4 ah=>?_
  simp only[go_sem];refine cJ ah (by simp[nP]) fun ag (ao:ag a4=some (⟨169,2,[dH q]⟩)) N=>?_
  simp only[go_sem,X,ao];refine⟨by decide,PC.use (yE set q.b) ?_⟩;simp only[go_sem,X,ao];refine⟨fun _=>by decide,_,fun _=>(yE set q.a).q rfl,?_⟩;simp only[go_sem];apply aA <;> intro O
  ·rw[if_pos (ET (p:=fun q:Pair=>dO set q.b&& !dO set q.a) hq O)]at J;simp only[go_sem];rw[J];exact .refl _
  ·simp only[go_sem,X,T,Y,aq,a0,ac,aQ k];exact⟨⟨k+1,E,rfl,aO (p:=fun q:Pair=>(dO set q.b&& !dO set q.a)=false) hq O hw⟩,msr E⟩
 have F:=geB hk (by simpa using F);subst F;rw[Xad]at hw;rw[if_neg (by rw[pI hw];simp)]at J;simp only[go_sem,T,Xab];have hL:=GZ x.orders.length x.before;refine aH (akD x.orders.length x.before hx hb) ?_;generalize uN x.orders.length x.before=CH at *;simp only[go_sem,Y,Xab];refine⟨fun ρ H=>∃(k:Nat),k<=S.length/\ρ 14=.sl (CH.map fun n:Nat=>[int (n:Nat)])/\ρ 89=.sl (S.map bC)/\ρ 90=int (S.length:Nat)/\ρ 91=int k/\(∀a∈S.take k,dO ((CH.getD a.toNat 0:Nat):Int) a=false),fun ρ _=>S.length-aR (ρ 91),⟨0,Xaa _,by simp only[go_sem],by simp only[go_sem],by simp only[go_sem],(by simp only[go_sem];rfl),by simp⟩,?_⟩;rintro ρ H ⟨k,hk,al,au,am,ad,hu⟩;simp only[go_sem,am,ad];refine aA (fun E=>?_) (fun F=>?_)
 ·have E:=ltB (by simpa using E);obtain⟨a,I⟩:=aK E;have b1:=inB E;obtain⟨A,rfl⟩:=ak a (Xac I);have hA:=hz _ (Xac I);have Z:A<CH.length:=by omega
  obtain⟨o,ho⟩:=aK Z;have b2:=inB Z;have ap:dO ((CH.getD ((A:Int)).toNat 0:Nat):Int) (A:Int)=dO (o:Nat) (A:Nat):=by rw[Xao,ZF ho]
  have g1:=aC (f:=fun n:Nat=>[int (n:Nat)]) ho;simp only[go_sem,al,au,ad,aC I,b1,g1,b2];refine aH (yE (o:Nat) (A:Nat)) ?_;simp only[go_sem];apply aA <;> intro O
  ·rw[if_pos (ET (p:=fun a=>dO ((CH.getD a.toNat 0:Nat):Int) a) I (ap.trans O))]at J;simp only[go_sem];rw[J];exact .refl _
  ·simp only[go_sem,al,au,am,ad,aQ k];exact⟨⟨k+1,E,rfl,aO (p:=fun a=>dO ((CH.getD a.toNat 0:Nat):Int) a=false) I (ap.trans O) hu⟩,msr E⟩
 have F:=geB hk (by simpa using F);subst F;rw[Xad]at hu;rw[if_neg (by rw[pI hu];simp)]at J;simp only[go_sem];rw[J];exact .refl _
end Sq
namespace Nu.Ps
open Go.Aw Go.Aw.D Go.Proofs Ty Go.Nu Go.So
structure Priced where
 column:Column
 reduced:ByteArray
def bH(x:Priced):List AV:=[.v (.int .i64 x.column.type),.v (.int .i64 x.column.set),.v (.int .i64 x.column.price),.v (.int .i64 x.column.route.type),.v (.int .i64 x.column.route.start),.sl (x.column.route.rests.map dE),.sl (x.column.route.visits.map aF),.v (.string x.reduced)]
def dW(x:Priced):(bH x).length=8:=(rfl)
def TK(x:Priced):(bH x).getD 0 .any=.v (.int .i64 x.column.type):=(rfl)
def Ti(x:Priced):(bH x).getD 1 .any=.v (.int .i64 x.column.set):=(rfl)
def SE(x:Priced):(bH x).getD 2 .any=.v (.int .i64 x.column.price):=(rfl)
def Sd(x:Priced):(bH x).getD 7 .any=.v (.string x.reduced):=(rfl)
def KD(x:Priced):(bH x).take 8=bH x:=(rfl)
def rB(x:Priced):(bH x).drop 8=[]:=(rfl)
def KZ(x:Priced):(bH x).take 7=aS x.column:=(rfl)
attribute [go_sem] dW TK Ti SE Sd KD KZ
abbrev qW(gf:Nat):AV:=.v (.func (.func gf) #[] #[])
abbrev fS(l:List Priced):Row:=⟨64,8,l.map bH⟩
def sE(H:aG)(j:Nat)(a b:Option Row):aM (aM H j a) j b=aM H j b:=by funext k;unfold aM;split <;> rfl
def mU{H:aG}{j:Nat}{r:Row}(h:H j=some r):aM H j (some r)=H:=by
 funext k;unfold aM;split
 ·next e=>rw[e,h]
 ·rfl
def Xz{L:List Priced}{a b j:Nat}{x y:Priced}{H0 H:aG}(I:L[a]?=some x)(F:L[b]?=some y)(E:a≠b)(O:H=aM H0 j (some (fS L))):
  aM (aM H j (some (⟨64,8,(L.map bH).set a (bH y)⟩:Row))) j (some (⟨64,8,((L.map bH).set a (bH y)).set b (bH x++List.drop 8 (((L.map bH).set a (bH y)).getD b []))⟩:Row))=aM H0 j (some (fS (swp L a b))):=by
 have J:((L.map bH).set a (bH y)).getD b []=bH y:=by rw[List.getD,List.getElem?_set_ne E,List.getElem?_map,F];rfl
 rw[O,sE,sE,J,rB,Xah];unfold swp fS;simp only[I,F,List.map_set]
def awM{a b:Nat}(h:b<=a)(E:a<=4611686018427387904):IntKind.i64.wrap ((a:Int)-(b:Int))=((a-b:Nat):Int):=by rw[aU (by omega)];omega
def wAdd{a b:Nat}(h:a+b<=4611686018427387904):IntKind.i64.wrap ((a:Int)+(b:Int))=((a+b:Nat):Int):=by rw[aU (by omega)];omega
def RD{α:Type}{l:List α}{n:Nat}(h:n<=l.length):∃E F,l=E++F/\E.length=n/\F.length=l.length-n:=⟨l.take n,l.drop n,(Xci n l).symm,by rw[Xap];omega,by rw[Xbr]⟩
end Nu.Ps
namespace Nu.Ps
open Go.Proofs.Tryz
open Go.Aw Go.Aw.D Go.Proofs Ty Go.Nu Go.So
abbrev TB:=Priced×Nat
def fs(L:List TB):List Priced:=L.map Prod.fst
def N1(a:List TB):(fs a).length=a.length:=Xab _
def BS{L:List TB}{k:Nat}{x:TB}(h:L[k]?=some x):(fs L)[k]?=some x.1:=by unfold fs;rw[List.getElem?_map,h];rfl
structure CmpOk(gf:Nat)(lt:Priced->Priced->Bool)(ok:Priced->Prop):Prop where
 call:aE Tryz.prog gf=true
 cmp:∀x y,ok x->ok y->∃n:Int,decide (n<0)=lt x y/\PC Tryz.prog gf [.agg (bH x),.agg (bH y)] (int n)
def Jx{l:List Nat}{H F E:aG}(h1:∀k,k∈l->E k=H k)(J:∀k,k∉l->E k=F k)(I:∀k,k∉l->F k=H k):E=H:=funext fun k=>by
 by_cases h:k∈l
 ·exact h1 k h
 ·rw[J k h,I k h]
def Gs{gf:Nat}{lt:Priced->Priced->Bool}{ok:Priced->Prop}(hs:SWO lt)(hc:CmpOk gf lt ok)(P X S:List TB)(a b j:Nat)(H0:aG)(K:AV->aG->Prop)(ha:a=P.length)(hb:b=a+X.length)
   (ag:X.Pairwise fun p q=>p.2<q.2) (ai:∀x∈X,ok x.1) (hl:(P++X++S).length<=1048576) (hj:H0 j=some (fS (fs (P++X++S))))
   (hK:∀M:List TB,M.Perm X->M.Pairwise (tlt lt)->∀r,K r (aM H0 j (some (fS (fs (P++M++S)))))):bK prog 92 [.os j,int a,int b,qW gf] H0 K:=by
 have a0:P.length+X.length+S.length<=1048576:=by simpa[Nat.add_assoc]using hl
 have O:=hc.call;refine bK.body (c:=f92.body.getD .skip) (fun _=>false) mixed func92 rfl (by kernel_rfl) ?_;unfold f92;simp only[Xbl];simp only[go_sem];simp only[go_sem,aQ a];refine⟨fun ρ H=>∃(k:Nat) (M:List TB),1<=k/\k<=max 1 X.length/\ρ 0=.os j/\ρ 1=int a/\ρ 2=int b/\ρ 3=qW gf/\ρ 8=int (a+k:Nat)/\M.Perm (X.take k)/\M.Pairwise (tlt lt)/\H=aM H0 j (some (fS (fs (P++M++X.drop k++S)))),fun ρ _=>b+1-aR (ρ 8),
   ⟨1,X.take 1,Xaf _,Nat.le_max_left _ _,rfl,rfl,rfl,rfl,rfl,.refl _,by cases X <;> simp,by
     have:P++X.take 1++X.drop 1++S=P++X++S:=by rw[Xaq P,Xci]
     rw[this];exact(mU hj).symm⟩,?_⟩
 rintro ρ H ⟨k,M,a6,a5,e0,e1,e2,e3,e8,hp,hM,Z⟩;simp only[go_sem,e2,e8];refine aA (fun av=>?_) (fun an=>?_)
 . have Y:k<X.length:=by have:=ltB av;omega
   obtain⟨y,hy⟩:=aK Y;have ap:y∈X:=Xac hy;have am:M.length=k:=by rw[hp.length_eq,Xap];omega
   have ab:∀z∈M,ok z.1/\z.2<y.2:=fun z T=>by
     have T:=hp.mem_iff.1 T;refine⟨ai z (Xco T),?_⟩;have hX:X=X.take k++y::X.drop (k+1):=by rw[<-Av hy,Xci]
     rw[hX]at ag;exact(List.pairwise_append.1 ag).2.2 z T y (Xcq ..)
   simp only[go_sem,e8];refine⟨fun ρ H=>∃J F:List TB,M=J++F/\(∀z∈F,lt y.1 z.1=true)/\ρ 0=.os j/\ρ 1=int a/\ρ 2=int b/\ρ 3=qW gf/\ρ 8=int (a+k:Nat)/\ρ 9=int (a+J.length:Nat)/\H=aM H0 j (some (fS (fs (P++J++y::F++X.drop (k+1)++S)))),fun ρ _=>aR (ρ 9),
     ⟨M,[],by simp,by simp,e0,e1,e2,e3,e8,by simp only[go_sem,am],by rw[Z,Av hy];simp only[Xaq,Xch,Xbn]⟩,?_⟩
   clear e0 e1 e2 e3 e8 Z;rintro ρ H ⟨J,F,rfl,aj,e0,e1,e2,e3,e8,e9,Z⟩;have az:J.length+F.length=k:=by rw[<-am,Xae]
   have R:H j=some (fS (fs (P++J++y::F++X.drop (k+1)++S))):=by rw[Z];exact aB _ _ _
   have I:(J=[]\/∃E z,J=E++[z]/\lt y.1 z.1=false)->(J++y::F).Perm (X.take (k+1))/\(J++y::F).Pairwise (tlt lt):=by
     intro ak;refine⟨?_,IS hs hM (fun z T=>?_) (fun z T=>.inl (aj z (List.mem_of_mem_head? T)))⟩
     . rw[bA hy];refine List.perm_middle.trans ?_;exact((hp.cons y)).trans (List.perm_append_singleton y _).symm
     . rcases ak with rfl|⟨E,z',rfl,ao⟩
       . cases T
       . rw[List.getLast?_append,List.getLast?_singleton]at T;have:z'=z:=by simpa using T
         subst this;exact .inr ⟨ao,(ab z' (by simp)).2⟩
   rcases List.eq_nil_or_concat J with rfl|⟨E,z,rfl⟩
   . simp only[go_sem,e9];refine fV [j] [(0,true),(1,true),(2,true),(3,true),(4,true),(5,true),(6,true),(7,true),(8,true),(9,true),(10,true),(11,true),(12,true),(13,true),(14,true),(15,true),(16,true)] (by simp[R]) (by kernel_rfl) fun Hp Hr af ac ax ar=>?_
     have Rp:=(af j (by simp)).trans R;have aq:decide ((a:Int)>(a:Int))=false:=by simp
     simp only[List.length_nil,Nat.add_zero]at e9;simp only[go_sem,e0,e1,e3,e9,Rp,aq,O];refine⟨int 0,?_⟩;simp only[go_sem,];refine gJ fun _ Hm ae ad=>?_
     obtain rfl:=Jx ae ad ac;refine aA (fun hb=>by cases hb) (fun _=>?_);simp only[go_sem,e0,e1,e2,e3,e8,mC (show a+k<=4611686018427387904 by omega)];obtain⟨f1,f2⟩:=I (.inl rfl);refine⟨⟨k+1,_,by omega,by omega,?_,f1,f2,by rw[Z];simp only[Xaq,Xch,Xbn]⟩,by simp only[aL];omega⟩;rw[Nat.add_assoc]
   . rw[List.concat_eq_append]at *;have al:(P++(E++[z])++y::F++X.drop (k+1)++S)[a+E.length]?=some z:=by rw[ha];simp only[Xaq];rw[List.getElem?_append_right (by omega),List.getElem?_append_right (by omega)];simp
     have ah:(P++(E++[z])++y::F++X.drop (k+1)++S)[a+E.length+1]?=some y:=by rw[ha];simp only[Xaq];rw[List.getElem?_append_right (by omega),List.getElem?_append_right (by omega),List.getElem?_append_right (by simp;omega)];simp[show P.length+E.length+1-P.length-E.length-1=0 by omega]
     simp only[Xae,List.length_singleton]at az;have a4:(fs (P++(E++[z])++y::F++X.drop (k+1)++S)).length=P.length+X.length+S.length:=by simp[fs];omega
     have b1:(0:Int)<=((a+E.length+1:Nat):Int)/\((a+E.length+1:Nat):Int)<((fs (P++(E++[z])++y::F++X.drop (k+1)++S)).length:Int):=by omega
     have b2:(0:Int)<=((a+E.length:Nat):Int)/\((a+E.length:Nat):Int)<((fs (P++(E++[z])++y::F++X.drop (k+1)++S)).length:Int):=by omega
     have g1:=aC (f:=bH) (BS ah);have g2:=aC (f:=bH) (BS al);obtain⟨n,hn,aw⟩:=hc.cmp y.1 z.1 (ai y ap) (ab z (by simp)).1;have aa:ρ 9=int ((a+E.length+1:Nat):Int):=by rw[e9];simp[Nat.add_assoc]
     have au:decide (((a+E.length+1:Nat):Int)>(a:Int))=true:=by simp;omega
     have w1:IntKind.i64.wrap (((a+E.length+1:Nat):Int)-1)=((a+E.length:Nat):Int):=by rw[aU (by omega)];omega
     simp only[go_sem,aa];refine fV [j] [(0,true),(1,true),(2,true),(3,true),(4,true),(5,true),(6,true),(7,true),(8,true),(9,true),(10,true),(11,true),(12,true),(13,true),(14,true),(15,true),(16,true)] (by simp[R]) (by kernel_rfl) fun Hp Hr af ac ax ar=>?_
     have Rp:=(af j (by simp)).trans R;simp only[go_sem,e0,e1,e3,aa,Rp,au,O,w1,g1,g2,b1,b2];refine⟨by omega,by omega,_,aw.q rfl,?_⟩;simp only[go_sem,hn];refine gJ fun _ Hm ae ad=>?_
     obtain rfl:=Jx ae ad ac;refine aA (fun hb=>?_) (fun hb=>?_)
     . simp only[go_sem,];refine Co [] (.q 0 (.q 1 (.q 2 (.q 3 (.q 4 (.q 5 (.q 6 (.q 7 (.q 10 (.q 11 (.a2 8 (.a2 9 (.a1 12 (.a1 13 (.a1 14 (.a1 15 (.a1 16 (.a1 17 (.nil))))))) 12 (.a2 9 (.a1 13 (.a1 14 (.a1 15 (.a1 16 (.a1 17 (.nil)))))) 13 (.a1 9 (.a1 14 (.a1 15 (.a1 16 (.a1 17 (.nil)))))))) 12 (.a2 8 (.a2 9 (.a1 13 (.a1 14 (.a1 15 (.a1 16 (.a1 17 (.nil)))))) 13 (.a1 9 (.a1 14 (.a1 15 (.a1 16 (.a1 17 (.nil))))))) 13 (.a1 8 (.a1 9 (.a1 14 (.a1 15 (.a1 16 (.a1 17 (.nil))))))))))))))))))) (by simp) (by kernel_rfl) fun Hp Hr _ hr _ _=>?_
       obtain rfl:Hr=Hm:=funext fun i=>hr i (by simp)
       have hx:(fs (P++(E++[z])++y::F++X.drop (k+1)++S))[a+E.length+1]?=some y.1:=BS ah;have ay:(fs (P++(E++[z])++y::F++X.drop (k+1)++S))[a+E.length]?=some z.1:=BS al;simp only[go_sem,e0,aa,w1,]
       repeat' (first|(refine tL ?_ ?_)|(refine⟨by omega,?_⟩)|(refine aI R ⟨by rw[Xab];omega,dW _,by rw[dW];exact Xaf 8⟩ ?_)|(refine aI (aB _ _ _) ⟨by rw[Xcb,Xab];omega,dW _,by rw[dW];exact Xaf 8⟩ ?_)|(refine gJ fun _ Hm _ hm=>?_;obtain rfl:Hm=_:=funext fun i=>hm i (by simp))|(simp only[go_sem,e0,e1,e2,e3,e8,aa,w1,R,b1,b2,g1,g2,Xcb,Xab,rB,Xah]))
       all_goals refine⟨⟨E,z::F,by simp,?_,rfl,(Xz hx ay (by omega) Z).trans ?_⟩,by simp only[aL];omega⟩
       all_goals first
         | (intro u hu
            rcases Xbc.1 hu with rfl|hu
            . exact hb
            . exact aj u hu)
         | (congr 2
            rw[QB _ _ _ (by omega)];have:=P3 (U:=fs (P++E)) (W:=fs (F++X.drop (k+1)++S)) (x:=z.1) (y:=y.1) (i:=a+E.length) (j:=a+E.length+1) (by rw[N1,Xae];omega) (by rw[N1,Xae];omega);simp only[fs,Xam,Xba,Xaq,Xch,Xbn]at this |-;exact congrArg fS this)
     . simp only[go_sem,e0,e1,e2,e3,e8,mC (show a+k<=4611686018427387904 by omega)];obtain⟨f1,f2⟩:=I (.inr ⟨E,z,rfl,hb⟩);refine⟨⟨k+1,_,by omega,by omega,?_,f1,f2,by rw[Z];simp only[Xaq,Xch,Xbn]⟩,by simp only[aL];omega⟩;rw[Nat.add_assoc]
 . have Y:X.length<=k:=by (have:¬a+k<b:=fun h=>by simp at an;omega);omega
   rw[Xan Y]at hp;rw[Xcc Y,Xah]at Z;simp only[go_sem];rw[Z];exact hK M hp hM _
end Nu.Ps
namespace Nu.Ps
open Go.Aw Go.Aw.D Go.Proofs Ty Go.Nu Go.So
def apR{i k:Nat}(h:i+k<=4611686018427387904):IntKind.i64.wrap (shV .shr .u64 (IntKind.u64.wrap (IntKind.i64.wrap ((i:Int)+(k:Int)))) 1)=(((i+k)/2:Nat):Int):=by
 have E:IntKind.u64.wrap ((i+k:Nat):Int)=((i+k:Nat):Int):=by have e:IntKind.u64.wrap ((i+k:Nat):Int)=((i+k:Nat):Int)%18446744073709551616:=rfl;rw[e];omega
 rw[wAdd h,E];show IntKind.i64.wrap (((i+k:Nat):Int).fdiv (2^min (1:Int).toNat 64))=_;rw[show min (1:Int).toNat 64=1 from rfl,Int.fdiv_eq_ediv_of_nonneg _ (by decide),aU (by omega)];omega
def awQ{P A B S:List TB}{m k:Nat}{y:TB}(F:m=P.length+A.length)(E:B[k]?=some y):(P++A++B++S)[m+k]?=some y:=by have I:=(List.getElem?_eq_some_iff.1 E).1;rw[List.getElem?_append_left (by simp;omega),List.getElem?_append_right (by simp;omega),Xae,F,Nat.add_sub_cancel_left,E]
def awI{P A B S:List TB}{a k:Nat}{y:TB}(F:a=P.length)(E:A[k]?=some y):(P++A++B++S)[a+k]?=some y:=by have I:=(List.getElem?_eq_some_iff.1 E).1;rw[List.getElem?_append_left (by simp;omega),List.getElem?_append_left (by simp;omega),List.getElem?_append_right (by omega),F,Nat.add_sub_cancel_left,E]
section
variable{gf:Nat}{lt:Priced->Priced->Bool}{ok:Priced->Prop}
end
end Nu.Ps
namespace Nu.Ps
open Go.Aw Go.Aw.D Go.Proofs Ty Go.Nu Go.So
def avH{α:Type}(l:List α):(tag l).Pairwise fun p q=>p.2<q.2:=by rw[List.pairwise_iff_getElem];intro i k I F E;rw[E5 (List.getElem?_eq_getElem I),E5 (List.getElem?_eq_getElem F)];exact E
section
variable{gf:Nat}{lt:Priced->Priced->Bool}{ok:Priced->Prop}
end
end Nu.Ps
namespace Nu.Ps
open Go.Aw Go.Aw.D Go.Proofs Go.Nu Go.So
def ltP(a b:Priced):Bool:=decide (oK a.reduced<oK b.reduced)
def arB:SWO ltP where
 asym a b h:=decide_eq_false fun E=>absurd (Std.lt_trans (of_decide_eq_true h) E) Rat.lt_irrefl
 neg a b c h1 E:=decide_eq_false fun F=>absurd F (Rat.not_lt.2 (Rat.le_trans (Rat.not_lt.1 (of_decide_eq_false E)) (Rat.not_lt.1 (of_decide_eq_false h1))))
def At(m:Priced):List Priced->Priced
 | []=>m
 | p::l=>At (if ltP p m=true then p else m) l
def PK:∀(l:List Priced) (m:Priced),At m l∈m::l
 | [],m=>by simp[At]
 | p::l,m=>by
  have ih:=PK l (if ltP p m=true then p else m);show At (if ltP p m=true then p else m) l∈m::p::l;rcases Xbc.1 ih with h|h
  ·rw[h];split <;> simp
  ·simp[h]
abbrev Asc(l:List Priced):Prop:=l.Pairwise fun a b=>oK a.reduced<=oK b.reduced
def N5(x:Priced):∀l:List Priced,Asc l->Asc (ins ltP x l)
 | [],_=>List.pairwise_singleton _ _
 | z::r,h=>by
  obtain⟨h1,J⟩:=List.pairwise_cons.1 h;unfold ins;split
  next E=>
   have E:oK x.reduced<oK z.reduced:=of_decide_eq_true E;refine List.pairwise_cons.2 ⟨fun y F=>?_,h⟩;rcases Xbc.1 F with rfl|F
   ·exact Rat.le_of_lt E
   ·exact Rat.le_trans (Rat.le_of_lt E) (h1 y F)
  next I=>
   refine List.pairwise_cons.2 ⟨fun y F=>?_,N5 x r J⟩;rcases HR.1 F with rfl|F
   ·exact Rat.not_lt.1 fun J=>I (decide_eq_true J)
   ·exact h1 y F
def NG:∀(l acc:List Priced),Asc acc->Asc (l.foldl (fun acc x=>ins ltP x acc) acc)
 | [],acc,h=>h
 | x::l,acc,h=>NG l _ (N5 x acc h)
def Kg:∀(l acc:List Priced),(l.foldl (fun acc x=>ins ltP x acc) acc).Perm (acc++l)
 | [],acc=>by simp
 | x::l,acc=>(Kg l _).trans (((Cf ltP x acc).append_right l).trans (by show(x::(acc++l)).Perm (acc++x::l);exact List.perm_middle.symm))
def FT(l:List Priced):Asc (yN ltP l):=NG l [] List.Pairwise.nil
def AO(l:List Priced):(yN ltP l).Perm l:=Kg l []
def oX(p:Priced):Bool:=decide (oK p.reduced<0)
def EB:∀l:List Priced,Asc l->l.takeWhile oX=l.filter oX
 | [],_=>rfl
 | p::l,h=>by
  obtain⟨h1,F⟩:=List.pairwise_cons.1 h;rw[List.takeWhile_cons,List.filter_cons];split
  ·rw[EB l F]
  next E=>
   have E:¬oK p.reduced<0:=fun h=>E (decide_eq_true h)
   refine(List.filter_eq_nil_iff.2 fun q J I=>?_).symm;exact E (Std.lt_of_le_of_lt (h1 q J) (of_decide_eq_true I))
def K9(l:List Priced):List Priced:=(yN ltP l).takeWhile oX
def ajR(l:List Priced):(K9 l).length=(l.filter oX).length:=by unfold K9;rw[EB _ (FT l)];exact((AO l).filter oX).length_eq
def ahA{l:List Priced}{p:Priced}(h:p∈K9 l):p∈l/\oK p.reduced<0:=by unfold K9 at h;rw[EB _ (FT l)]at h;obtain⟨h1,E⟩:=List.mem_filter.1 h;exact⟨(AO l).mem_iff.1 h1,of_decide_eq_true E⟩
end Nu.Ps
namespace Nu
open Go.Proofs.Tryz
open Go.Aw Go.Aw.D Go.Proofs Ty Go.Nu
def YU{a b:Nat}(I:a<2^63)(E:b<2^63):xR .and .i64 (a:Int) (b:Int)=((a &&& b:Nat):Int):=by
 have h:((BitVec.ofInt 64 (a:Int) &&& BitVec.ofInt 64 (b:Int)).toNat:Int)=((a &&& b:Nat):Int):=by
  rw[BitVec.toNat_and,BitVec.toNat_ofInt,BitVec.toNat_ofInt];have h1:((a:Int)%((2^64:Nat):Int)).toNat=a:=by omega
  have F:((b:Int)%((2^64:Nat):Int)).toNat=b:=by omega
  rw[h1,F]
 refine Eq.trans (congrArg IntKind.i64.wrap h) ?_;have:=Nat.and_lt_two_pow a E;exact aU (by omega)
def wD{x:Int}{i:Nat}(h:i<=62):shV .shr .i64 x (i:Int)=x/2^i:=Sq.wD h
def dO(set i:Int):Bool:=decide (i>=0)&&decide (i<=62)&&((set/2^i.toNat)%2 == 1)
def yE(set i:Int):PC prog 118 [int set,int i] (boo (dO set i)):=Sq.yE set i
def rN(set:Int)(k:Nat):List Int:=((List.range k).filter fun i:Nat=>dO set (i:Int)).map fun i:Nat=>(i:Int)
def dD(set:Int):List Int:=rN set 63
def oB(set:Int)(k:Nat):rN set (k+1)=rN set k++(if dO set (k:Int)=true then[(k:Int)]else[]):=Sq.oB set k
theorem nU(set:Int)(k:Nat):(rN set k).length<=k:=Sq.nU set k
def rE(l:List Int):Row:=⟨3,1,l.map bC⟩
def oH(set:Int):PC prog 114 [int set] (.sl ((dD set).map bC)):=Sq.oH set
def uR:Nat->Nat->Nat
 | 0,_=>0
 | k+1,n=>n%2+uR k (n/2)
def LH:∀(k n:Nat),uR (k+1) n=uR k n+(n/2^k)%2
 | 0,n=>by simp[uR]
 | k+1,n=>by rw[uR,LH k (n/2),uR,Nat.div_div_eq_div_mul,show 2*2^k=2^(k+1)by rw[Xbj,Nat.mul_comm]];omega
def Lo:∀k:Nat,uR k 0=0
 | 0=>rfl
 | k+1=>by rw[uR,Lo k]
def Cy:∀k n:Nat,uR k n<=k
 | 0,_=>Xaf 0
 | k+1,n=>by have:=Cy k (n/2);rw[uR];omega
def Jt(n:Nat):∀k:Nat,k<=63->(rN (n:Int) k).length=uR k n
 | 0,_=>rfl
 | k+1,hk=>by
  rw[oB,Xae,Jt n k (by omega),LH];have h:dO (n:Int) (k:Int)=decide ((n/2^k)%2=1):=by
   unfold dO;rw[show decide ((k:Int)>=0)=true by simp,show decide ((k:Int)<=62)=true by simp;omega,Xao,Xaz,Xaz];rw[Xar,Xav,decide_eq_true_iff];have:((n:Int)/2^k)=((n/2^k:Nat):Int):=by norm_cast
   rw[this];omega
  rw[h];by_cases E:(n/2^k)%2=1
  ·simp[E]
  ·have:(n/2^k)%2=0:=by omega
   simp[this]
def aeV(n:Nat):PC prog 69 [int n] (int (uR 63 n:Nat)):=by
 have Y:=Jt n 63 (Xaf _);have T:=Cy 63 n;refine pcd func69 rfl rfl ?_;simp only[go_sem];refine aH (oH n) ?_;simp only[go_sem,Xab,dD,Y];generalize uR 63 n=P at *;refine⟨fun ρ _=>∃k:Nat,k<=P/\ρ 3=int k/\ρ 6=int (P:Nat)/\ρ 7=int k,fun ρ _=>P-aR (ρ 7),⟨0,Xaa _,by simp only[go_sem];rfl,rfl,by simp only[go_sem];rfl⟩,?_⟩;rintro ρ H ⟨k,X,J,I,O⟩;simp only[go_sem,I,O];refine aA (fun F=>?_) (fun E=>?_)
 ·have F:=ltB F;simp only[go_sem,J,I,O,aQ k];exact⟨⟨k+1,F,rfl⟩,by simp only[aL];omega⟩
 ·have E:=geB X E;subst E;simp only[go_sem,J];exact .refl _
def apK(n:Nat)(hn:n<9223372036854775808):PC prog 213 [int n] (int (uR 63 n:Nat)):=by
 have T:=Cy 63 n;refine pcd func213 rfl rfl ?_;simp only[go_sem];refine⟨fun ρ _=>∃k m c:Nat,k<=63/\ρ 0=int m/\ρ 3=int c/\m<2^(63-k)/\c+uR (63-k) m=uR 63 n,fun ρ _=>aR (ρ 0),⟨0,n,0,Xaa _,rfl,by simp only[go_sem];rfl,hn,by simp⟩,?_⟩;rintro ρ H ⟨k,m,c,hk,h0,O,F,J⟩;simp only[go_sem,h0];refine aA (fun E=>?_) (fun I=>?_)
 ·have E:0<m:=by simpa using E
  obtain⟨d,hd⟩:∃d,63-k=d+1:=⟨62-k,by
   rcases Xay k 63 with h|h
   ·omega
   ·have:k=63:=by omega
    subst this;simp at F;omega⟩
  rw[hd]at F J;have Y:m<9223372036854775808:=Xbu F (show 2^(d+1)<=2^63 from Xau (by decide) (by omega));rw[uR]at J;rw[Xbj]at F;have e2:((m:Int)).tmod 2=((m%2:Nat):Int):=rfl;have e3:IntKind.i64.wrap (((m:Int)).tdiv 2)=((m/2:Nat):Int):=by rw[show((m:Int)).tdiv 2=((m/2:Nat):Int)from rfl,aU (by omega)]
  have Z:IntKind.i64.wrap ((c:Int)+((m%2:Nat):Int))=((c+m%2:Nat):Int):=by rw[aU (by omega)];omega
  simp only[go_sem,h0,O,e2,e3,Z];refine⟨by decide,by decide,?_⟩;exact⟨⟨k+1,m/2,c+m%2,by omega,rfl,rfl,by rw[show 63-(k+1)=d by omega];omega,by rw[show 63-(k+1)=d by omega];omega⟩,by simp only[aL];omega⟩
 ·have X:m=0:=by simpa using I
  subst X;rw[Lo]at J;simp only[go_sem,O];exact cI (by omega)
def pJ(p:Int×Int):List AV:=[int p.1,int p.2]
def zO(m:List (Int×Int))(o:Int):Option Nat:=m.findIdx? fun p=>p.1 == o
def Aa(m:List (Int×Int))(o:Int):Int:=((m.find? fun p=>p.1 == o).map (·.2)).getD 0
def HH(m:List (Int×Int))(o v:Int):List (Int×Int):=match zO m o with
 | some i=>m.set i (o,v)
 | none=>m++[(o,v)]
abbrev Bg(m:List (Int×Int)):Row:=⟨0,2,m.map pJ⟩
def zF(o:Int):∀(m:List (Int×Int)) (i:Nat),wV (tP prog 3 (int o)) (m.map pJ) i=some ((zO m o).map (·+i))
 | [],i=>rfl
 | p::m,i=>by
  have ih:=zF o m (i+1);have E:tP prog 3 (int o) ((pJ p).getD 0 .any)=some (o == p.1):=by show tP prog 3 (int o) (int p.1)=_;unfold tP;simp only[kk3];simp[xV]
  rw[Xba,wV,E];unfold zO at *;rw[List.findIdx?_cons];by_cases h:o=p.1
  ·subst h;simp
  ·have h1:(o == p.1)=false:=by simpa using h
   have F:(p.1 == o)=false:=by simpa using fun e=>h e.symm
   rw[h1,F];simp only[Xbg,if_false];rw[ih];cases m.findIdx? (fun p=>p.1 == o)with
   | none=>rfl
   | some j=>simp;omega
def pS(o:Int)(m:List (Int×Int)):wV (tP prog 3 (int o)) (m.map pJ) 0=some (zO m o):=by rw[zF];cases zO m o <;> rfl
def rU(o:Int):pB prog 3 (int o)=true:=by simp only[pB,kk3];rfl
def EP(m:List (Int×Int))(o:Int):OS false (int 0) (m.map pJ) (zO m o)=int (Aa m o):=by
 unfold OS Aa zO;induction m with
 | nil=>rfl
 | cons p m ih=>
  rw[List.findIdx?_cons,List.find?_cons];cases h:p.1 == o with
  | true=>simp[pJ]
  | false=>
   cases E:m.findIdx? (fun p=>p.1 == o)with
   | none=>rw[E]at ih;simpa using ih
   | some j=>rw[E]at ih;simp at ih |-;exact ih
def ED(m:List (Int×Int))(o v:Int):Z4 (m.map pJ) (zO m o) (int o) (int v)=(HH m o v).map pJ:=by
 unfold Z4 HH;cases zO m o with
 | none=>simp[pJ]
 | some i=>simp[List.map_set,pJ]
def JZ(k:Int):Nat:=if k=1 then 2 else if k=2 then 1 else 0
def QX(k:Int)(P:Nat):Bool:=decide (JZ k>0)&&decide (JZ k<=P)
def AY(k:Int)(n:Nat):Int:=if QX k (uR 63 n)=true then 1 else 0
def ajQ(k m:Int)(a b:Nat)(T:a<2^63)(F:b<2^63):PC prog 152 [.agg [int k,int a,int m],int b] (int (AY k (a &&& b))):=by
 have E:a &&& b<2^63:=Nat.and_lt_two_pow a F;have O:=apK (a &&& b) E;have J:=Cy 63 (a &&& b);refine pcd func152 rfl rfl ?_;simp only[go_sem];rw[YU T F];refine aH O ?_;unfold AY;generalize uR 63 (a &&& b)=P at *;simp only[go_sem];have X:((k == 1&&decide ((P:Int)>=2))||(k == 2&&decide ((P:Int)>=1)))=QX k P:=by
  unfold QX JZ;by_cases h1:k=1
  ·subst h1;simp;omega
  ·by_cases I:k=2
   ·subst I;simp;omega
   ·simp[h1,I]
 rw[X];refine aA (fun h=>?_) (fun h=>?_)
 ·simp only[go_sem];exact cI (by rw[if_pos h])
 ·simp only[go_sem];exact cI (by rw[if_neg (by rw[h];simp)])
def avJ(k m:Int)(a b:Nat)(ha:a<2^63)(hb:b<2^63):PC prog 126 [.agg [int k,int a,int m],int b] (int (AY k (a &&& b))):=by
 have hs:=aeV (a &&& b);have T:=Cy 63 (a &&& b);refine pcd func126 rfl rfl ?_;simp only[go_sem];refine aN fun jm F=>?_
 generalize E:aM bQ jm _=HM;have O:HM jm=some (Bg []):=by rw[<-E,aB];rfl
 clear E F;simp only[go_sem];refine Oc O JG (rU _) (pS _ _) ?_;rw[ED];generalize E:aM HM jm _=HN;have J:HN jm=some (Bg [(1,2)]):=by rw[<-E,aB];rfl
 clear E O;simp only[go_sem];refine Oc J JG (rU _) (pS _ _) ?_;rw[ED];generalize E:aM HN jm _=HO;have Z:HO jm=some (Bg [(1,2),(2,1)]):=by rw[<-E,aB];rfl
 clear E J;simp only[go_sem];refine Fj Z JG (rU _) (pS _ _) zv3 ?_;rw[EP];have Y:Aa [(1,2),(2,1)] k=(JZ k:Nat):=by
  unfold Aa JZ;by_cases h1:k=1
  ·subst h1;rfl
  ·by_cases I:k=2
   ·subst I;rfl
   ·have X:((1:Int) == k)=false:=by simpa using fun e=>h1 e.symm
    have e2:((2:Int) == k)=false:=by simpa using fun e=>I e.symm
    simp[List.find?,X,e2,h1,I]
 rw[Y];simp only[go_sem];rw[YU ha hb];refine⟨_,fun _=>hs.q rfl,?_⟩;unfold AY;generalize uR 63 (a &&& b)=P at *;simp only[go_sem];have hc:(decide (((JZ k:Nat):Int)>0)&&decide ((P:Int)>=((JZ k:Nat):Int)))=QX k P:=by unfold QX;rw[Xar];simp
 rw[hc];refine aA (fun h=>?_) (fun h=>?_)
 ·simp only[go_sem];exact cI (by rw[if_pos h])
 ·simp only[go_sem];exact cI (by rw[if_neg (by rw[h];simp)])
end Nu
namespace Nu
open Go.Aw Go.Aw.D Go.Proofs Ty Go.Nu
def D2:∀(l:List (Int×ByteArray)) (t:ByteArray),bV t=true->(sZ l t).2=0->bV (sZ l t).1=true
 | [],t,h,_=>h
 | p::l,t,h,h0=>by
  unfold sZ at h0 |-;split at h0
  ·next h1=>exact absurd h0 h1
  ·next h1=>
   rw[if_neg h1];split at h0
   ·next E=>exact absurd h0 E
   ·next E=>
    rw[if_neg E];exact D2 l _ (DL (by simpa using E)) h0
def Ha{ns:List Int}{xs:List ByteArray}(h:(lE ns xs).2=0):bV (lE ns xs).1=true:=by
 unfold lE at h |-;split at h
 ·cases h
 ·next h1=>
  rw[if_neg h1];split at h
  ·cases h
  ·next E=>rw[if_neg E];exact D2 _ _ Ki h
def Vj{a b:ByteArray}(h:(DT a b).2=0):bV (DT a b).1=true:=by
 unfold DT at h |-;split at h
 ·rename_i F;rw[if_pos F];obtain⟨e,E⟩:=IC h;rw[e];exact qF E
 ·cases h
end Nu
section
open Go.Aw Go.Aw.D Go.Proofs Ty
theorem hU{α:Type}{b:Bool}{f:α}(h:opt b f=[]):b=false:=by cases b <;> simp[opt]at h |-
def kV{n a b:Int}:inR n a b=true↔a<=n/\n<=b:=by unfold inR;simp only[Xak,decide_eq_true_eq]
def tO{b:Bool}(h:(!b)=false):b=true:=by simpa using h
structure TypeB(t:VType)(d:Int):Prop where
 cap:Af t.cap d=true
 skills:0<=t.skills/\t.skills<=1073741823
 start:0<=t.start/\t.start<=t.close
 close:t.close<=4096
 drive:1<=t.drive/\t.drive<=4096
 rest:0<=t.rest/\t.rest<=4096
 count:0<=t.count/\t.count<=10
def aeD{n:Network}{l:List VType}{k:Nat}{t:VType}(h:pD n l k t=[]):TypeB t (kL l):=by
 unfold pD at h;simp only[Xbn,Xbs]at h;obtain⟨⟨⟨⟨⟨⟨⟨⟨_,_⟩,J⟩,_⟩,I⟩,Z⟩,O⟩,T⟩,h9⟩:=h;have X:=kV.1 (tO (hU J));have e5:=tO (hU I);have e6:=kV.1 (tO (hU Z));have F:=Xag.1 (hU O);have E:=Xag.1 (hU T);have q7:=kV.1 (tO F.1);have Y:¬t.close>4096:=by simpa using F.2
 exact⟨e5,e6,q7,by omega,kV.1 (tO E.1),kV.1 (tO E.2),X⟩
structure OrdB(o:Order)(d:Int):Prop where
 load:eZ o.load d=true
 pick: -1<=o.pick.place
 drop: -1<=o.drop.place
 both:(o.pick.place == -1&&o.drop.place == -1)=false
 wpick:gM o.pick=0
 wdrop:gM o.drop=0
 skills:0<=o.skills/\o.skills<=1073741823
 penalty: -1<=o.penalty/\o.penalty<=1000000
def anN{P:Nat}{d T:Int}{l:List Order}{k:Nat}{o:Order}(h:lW P d T l k o=[]):OrdB o d:=by unfold lW at h;simp only[Xbn,Xbs]at h;obtain⟨⟨⟨⟨⟨⟨⟨_,_⟩,X⟩,h4⟩,J⟩,O⟩,Y⟩,Z⟩:=h;have F:=Xag.1 (hU h4);have I:=Xag.1 (hU O);have E:=hU Z;simp only[Xag]at E;refine⟨tO (hU X),(kV.1 (tO F.1)).1,(kV.1 (tO F.2)).1,hU J,by simpa using I.1,by simpa using I.2,kV.1 (tO (hU Y)),kV.1 (tO E.1.1.1.1.1.1)⟩
structure ArcOk(a:Arc):Prop where
 travel:jJ a.travel=[]
 slow:a.slow.length<=16
 pt:∀p∈a.slow,(0<=p.t/\p.t<=4096)/\0<=p.a/\p.a<=4096
def ajV{n:Network}{k:Nat}{a:Arc}(T:n.arcs[k]?=some a)(h:I9 n k=[]):ArcOk a:=by
 unfold I9 at h;rw[tB T]at h;simp only[Xbn,Xbs,List.map_eq_nil_iff]at h;obtain⟨⟨⟨_,X⟩,I⟩,J⟩:=h;have Y:¬(a.slow.length:Int)>16:=by simpa using hU I
 refine⟨X,by omega,fun p O=>?_⟩;obtain⟨i,F,rfl⟩:=List.getElem_of_mem O;have:=List.flatMap_eq_nil_iff.1 J i (Xat.2 F);have E:=hU this;unfold qT at E;rw[dZ (List.getElem?_eq_getElem F)]at E;simp only[Xag]at E;exact⟨kV.1 (tO E.1.1),kV.1 (tO E.1.2)⟩
structure PairB(N:Int)(q:Pair):Prop where
 a:0<=q.a/\q.a<N
 b:0<=q.b/\q.b<N
 ne:q.a≠q.b
def Qj{N:Int}{l:List Pair}{w:ByteArray}{s:Bool}(h:yM N l w s=[]):l.length<=16/\∀q∈l,PairB N q:=by
 unfold yM at h;rw[Xbs]at h;have O:¬(l.length:Int)>16:=by simpa using hU h.1
 refine⟨by omega,fun q J=>?_⟩;obtain⟨i,F,rfl⟩:=List.getElem_of_mem J;have:=List.flatMap_eq_nil_iff.1 h.2 i (Xat.2 F);unfold iO at this;have I:pAt l i=l[i]:=by simp[pAt,List.getD,F]
 rw[I]at this;split at this
 ·simp at this
 ·rename_i E;unfold Go.Proofs.YtpagaknmdfgfkaaGreatDoor.oG at E;simp only[Xag,decide_eq_false_iff_not]at E;exact⟨by omega,by omega,by simpa using E.2⟩
structure Acc(x:Instance):Prop where
 arcs:x.net.arcs.length<=1024
 arc:∀a∈x.net.arcs,ArcOk a
 types:1<=x.types.length/\x.types.length<=6
 type:∀t∈x.types,TypeB t (kL x.types)
 orders:x.orders.length<=10
 order:∀o∈x.orders,OrdB o (kL x.types)
 apart:x.apart.length<=16
 apartB:∀q∈x.apart,PairB x.orders.length q
 before:x.before.length<=16
 beforeB:∀q∈x.before,PairB x.orders.length q
def WL{x:Instance}(h:uG x=[]):Acc x:=by
 unfold uG at h;simp only[Xbs,List.map_eq_nil_iff]at h;obtain⟨⟨⟨O,F⟩,J⟩,I⟩:=h;unfold K3 at O;simp only[Xbs]at O;unfold xZ at F;rw[Xbs]at F;unfold tF at J;rw[Xbs]at J;unfold Fp at I;rw[Xbs]at I;obtain⟨r1,r2⟩:=Qj I.1;obtain⟨Y,Z⟩:=Qj I.2;have e1:¬(x.net.arcs.length:Int)>1024:=by simpa using hU O.1.2
 have e2:=kV.1 (tO (hU F.1));have e3:¬(x.orders.length:Int)>10:=by simpa using hU J.1
 refine⟨by omega,fun a ha=>?_,by omega,fun t T=>?_,by omega,fun o X=>?_,r1,r2,Y,Z⟩
 ·obtain⟨i,E,rfl⟩:=List.getElem_of_mem ha;exact ajV (List.getElem?_eq_getElem E) (List.flatMap_eq_nil_iff.1 O.2 i (Xat.2 E))
 ·obtain⟨i,E,rfl⟩:=List.getElem_of_mem T;have:=List.flatMap_eq_nil_iff.1 F.2 i (Xat.2 E);unfold kA at this;rw[List.map_eq_nil_iff,Qm (List.getElem?_eq_getElem E)]at this;exact aeD this
 ·obtain⟨i,E,rfl⟩:=List.getElem_of_mem X;have:=List.flatMap_eq_nil_iff.1 J.2 i (Xat.2 E);unfold iE at this;rw[List.map_eq_nil_iff,Kj (List.getElem?_eq_getElem E)]at this;exact anN this
def V7{l:List Int}{d:Int}(h:eZ l d=true):(l.length:Int)=d/\∀n∈l,0<=n/\n<=1000:=by
 unfold eZ at h;split at h
 ·rename_i F;refine⟨F,fun n E=>?_⟩;have:=Xaj.1 h n E;simp only[Xax,Xag,decide_eq_false_iff_not]at this;omega
 ·cases h
def ajS{l:List Int}{d:Int}(h:Af l d=true):(l.length:Int)=d/\1<=d/\d<=3:=by
 unfold Af at h;split at h
 ·cases h
 ·rename_i E;simp only[Xcu,Xag]at E;have h1:=kV.1 (tO E.1);have F:(l.length:Int)=d:=by simpa[bne]using E.2
  omega
end
end Go.Proofs.YtpagaknmdfgfkaaGreatDoor
