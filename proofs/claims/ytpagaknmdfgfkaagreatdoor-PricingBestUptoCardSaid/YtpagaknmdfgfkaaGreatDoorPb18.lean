import Derived.Test.YtpagaknmdfgfkaaGreatDoorPb14
import Derived.Test.YtpagaknmdfgfkaaGreatDoorPb17
set_option linter.unusedSimpArgs false
set_option linter.unusedVariables false
set_option linter.defProp false
set_option maxRecDepth 100000
namespace Go.Proofs.YtpagaknmdfgfkaaGreatDoor
namespace Nu.Ps
open Go.Proofs.Tryz
open Go.Aw Go.Aw.D Go.Proofs Ty Go.Nu Go.So
open Dec (nN eH fI eF tY mH)
open Sq (EvalB BestQ tP mO bV fD)
def Ue(x:Instance)(d:Nat)(cuts:List Cut)(ds:List Decision)(dual:List ByteArray)(most:Int):List Column×Int:=
 if(nA x d cuts ds dual != 0)=true then([],nA x d cuts ds dual)
 else if(decide (most<1)||decide (most>8192))=true then([],2)
 else if((lU x cuts ds dual).2 != 0)=true then([],(lU x cuts ds dual).2)
 else(((asA (lU x cuts ds dual).1).take most.toNat).map (·.column),0)
def Tl{S:List Priced}{k m:Nat}(h:∀p∈S.take k,J6 p=true)(U:k<=S.length)(E:m=k\/(k<=m/\∀p,S[k]?=some p->J6 p=false)):(S.takeWhile J6).take m=S.take k:=by
 rw[Sq.X4 (k:=k) h];have O:(S.take k).length=k:=by rw[Xas];omega
 rcases E with rfl|⟨E,J⟩
 ·rw[List.take_append_of_le_length (by omega),Xan (by omega)]
 ·have : (S.drop k).takeWhile J6 = [] := by
   cases F:S.drop k with
   | nil=>rfl
   | cons p r=>
    have I:S[k]?=some p:=by have:=congrArg (fun l:List Priced=>l[0]?) F;simpa using this
    rw[Xca,J p I];rfl
  rw[this,Xak,Xan (by omega)]
def akJ{s:ByteArray}(h:bZ s=true):decide (Lg s>=0)= !decide (tO s<0):=by
 unfold Lg;rw[if_pos h,<-YG];unfold Om;by_cases E:tO s<0
 ·rw[if_pos E,decide_eq_true E];rfl
 ·rw[if_neg E,decide_eq_false E];split <;> rfl
def adB(L:List Priced)(p:Priced):(⟨43,7,(L.map (·.column)).map aU++[aU p.column]⟩:Row)=bV ((L++[p]).map (·.column)):=by rw[Sq.JD,Xal];rfl
def X6(A:List Priced):Prop:=∀(j:Nat) (H0:aH) (K:AV->aH->Prop),H0 j=some (mQ A)->(∀r,K r (aM H0 j (some (mQ (CO ltP A)))))->bM prog 25 [.os j,wJ 20] H0 K
def asK(x:Instance)(d:Nat)(cuts:List Cut)(ds:List Decision)(dual:List ByteArray)(most:Int)(h:PrOk x d)(hm:MIn x cuts ds)(hq:∀q∈cuts,q.set<=9223372036854775807)(hl:dual.length<=1048576)(hs:∀s∈dual,s.size<=1048576)(hW:Js x d cuts ds dual)(hS:X6 (lU x cuts ds dual).1):
  PC prog 10 [.agg (aC x),.sl (cuts.map dV),.sl (ds.map aS),.sl (dual.map Go.Aw.D.fE),int most] (.tup [.sl ((Ue x d cuts ds dual most).1.map aU),int (Ue x d cuts ds dual most).2]):=by
 have E:Ue x d cuts ds dual most=(if(nA x d cuts ds dual != 0)=true then([],nA x d cuts ds dual)
  else if(decide (most<1)||decide (most>8192))=true then([],2)
  else if((lU x cuts ds dual).2 != 0)=true then([],(lU x cuts ds dual).2)
  else(((asA (lU x cuts ds dual).1).take most.toNat).map (·.column),0)):=rfl
 generalize Ue x d cuts ds dual most=RP at *;refine pcb (fun t=>t == 15) func10 rfl rfl ?_;simp only[go_sem];refine aG hW ?_;simp only[go_sem];refine aA (fun F=>?_) (fun F=>?_)
 ·rw[if_pos F]at E;simp only[go_sem];rw[E];exact .refl _
 rw[if_neg (by rw[F];simp)]at E;have az:CutsB cuts:=⟨fun q aj=>⟨Dn (B6 (by simpa using F) q aj),hq q aj⟩⟩;have ap:∀p∈(lU x cuts ds dual).1,okP p:=fun p J=>IS J
 have al:=HY x cuts ds dual h.n8 h.ty;simp only[go_sem];refine aA (fun F=>?_) (fun F=>?_)
 ·rw[if_pos F]at E;simp only[go_sem];rw[E];exact .refl _
 have a6:1<=most/\most<=8192:=by simp only[Xag,decide_eq_false_iff_not]at F;omega
 rw[if_neg (by rw[F];simp)]at E;simp only[go_sem];refine NC.use (abR x d cuts ds dual h hm az hl hs) fun j1 ba=>?_
 generalize lU x cuts ds dual=A at *;obtain⟨A,e⟩:=A;simp only at E ap al hS;simp only[go_sem];refine aA (fun F=>?_) (fun F=>?_)
 ·rw[if_pos F]at E;simp only[go_sem];rw[E];exact .refl _
 rw[if_neg (by rw[F];simp)]at E;have X:aM bQ j1 (some (mQ A)) j1=some (mQ A):=aB _ _ _;simp only[go_sem];refine hS j1 _ _ X fun r=>?_
 rw[Uo];have X:aM bQ j1 (some (mQ (CO ltP A))) j1=some (mQ (CO ltP A)):=aB _ _ _;generalize aM bQ j1 (some (mQ (CO ltP A)))=H1 at *;have ay:∀p∈CO ltP A,okP p:=fun p J=>ap p ((Kk A).mem_iff.1 J)
 have a7:(CO ltP A).length=A.length:=(Kk A).length_eq;unfold asA at E;generalize CO ltP A=S at *;simp only[go_sem];refine fO fun ai aa aw (ax:aa ai=some (bV [])) N=>?_
 replace X:=N X;obtain⟨Z,X⟩:=X;simp only[go_sem,X];refine⟨fun ρ H=>∃(k:Nat) (j:Nat),k<=S.length/\ρ 4=int most/\ρ 45=.os j1/\ρ 46=int (S.length:Nat)/\ρ 47=int k/\ρ 15=.os j/\H j=some (bV ((S.take k).map (·.column)))/\H j1=some (mQ S)/\(∀p∈S.take k,J6 p=true)/\k<=most.toNat,fun ρ _=>S.length-aR (ρ 47),⟨0,ai,Xaa _,rfl,rfl,rfl,(by simp only[go_sem];rfl),rfl,ax,X,by simp,Xaa _⟩,?_⟩;rintro ρ H ⟨k,j,hk,e4,av,ag,ac,U,R,V,hz,ao⟩;simp only[go_sem,ag,ac];refine aA (fun I=>?_) (fun Y=>?_)
 ·have I:=ltB (by simpa using I);obtain⟨p,J⟩:=aK I;have b1:=inB I;have an:=ay p (Xac J);have ak:=akJ an;have a8:((S.take k).map (·.column)).length=k:=by rw[Xab,Xas];omega
  have a4:S.take (k+1)=S.take k++[p]:=bA J;simp only[go_sem,av,ac,V,aD J,b1,Xab];refine⟨I,?_⟩;refine aL fun a0 ae=>?_
  simp only[go_sem,];refine cJ ae (by simp[jX]) fun ad (ar:ad a0=some (mQ [p])) N=>?_
  replace R:=N R;obtain⟨af,R⟩:=R;replace V:=N V;obtain⟨ab,V⟩:=V;simp only[go_sem,ar,];refine aG (alY p.reduced (Bz an)) ?_;simp only[go_sem,e4,U,R,Xab];have am:((S.take k).length:Int)=(k:Int):=by rw[Xas];omega
  refine aA (fun hc=>?_) (fun hc=>?_)
  ·have O : (S.takeWhile J6).take most.toNat = S.take k := Tl hz hk (by
    by_cases hn:J6 p=true
    ·left;have e1:decide (Lg p.reduced>=0)=false:=by rw[ak,show decide (tO p.reduced<0)=true from hn];rfl
     rw[e1,Xbt]at hc;have:((S.take k).length:Int)=most:=by simpa using hc
     omega
    ·right;refine⟨ao,fun p' ah=>?_⟩;rw[J]at ah;obtain rfl:=Option.some.inj ah;simpa using hn)
   simp only[go_sem,U];rw[E,O];exact .tup _ _ (.cons _ _ _ _ (.row _ _ _ R (ConvE.refl _)) (ConvL.refl _))
  rw[ak]at hc;simp only[Xag,Xbq]at hc;have hn:J6 p=true:=hc.1;have a9:¬(k:Int)=most:=by have:=hc.2;rw[am]at this;simpa using this
  simp only[go_sem,U,ar];refine aZ R ⟨rfl,rfl⟩ (by simp only[go_sem]) (by simp;omega) (fun j2 aq=>?_);have a5:j1≠j2:=fun e=>by rw[<-e,V]at aq;cases aq
  have au:j1≠j:=fun e=>by rw[e,R]at V;cases V
  simp only[go_sem,e4,av,ag,ac,aQ k];refine⟨⟨k+1,j2,I,rfl,rfl,?_,?_,?_,by omega⟩,by simp only[aN];omega⟩
  ·rw[a4,aB];exact congrArg some (adB _ _)
  ·rw[aJ _ _ _ _ a5,aJ _ _ _ _ au];exact V
  ·exact Mv.aO (p:=fun p=>J6 p=true) J hn hz
 have Y:=geB hk (by simpa using Y);subst Y;have O:(S.takeWhile J6).take most.toNat=S.take S.length:=Tl hz (Xaf _) (.inr ⟨ao,fun p J=>by rw[List.getElem?_eq_none (Xaf _)]at J;cases J⟩);simp only[go_sem,U];rw[E,O];exact .tup _ _ (.cons _ _ _ _ (.row _ _ _ R (ConvE.refl _)) (ConvL.refl _))
def exO:Order:=⟨⟨#[111,97]⟩,[1],⟨-1,0,0,0⟩,⟨1,0,50,0⟩,0,0,1,-1,-1,false⟩
def exT:VType:=⟨⟨#[118,97,110]⟩,1,0,0,[5],0,0,0,1000,1000,0,5,1,0⟩
def exN:Network:=⟨[⟨#[104,117,98]⟩,⟨#[97,115,104]⟩],[⟨0,1,0,10,[⟨0,20⟩],[]⟩,⟨1,0,0,10,[⟨0,20⟩],[]⟩]⟩
def exX:Instance:=⟨exN,[exT],[exO],[],[]⟩
def exD:List ByteArray:=[zed 419430410,⟨#[48]⟩]
def exC:Column:=(tM exX 1 [] [] exD).1
def OW:(tM exX 1 [] [] exD).2=(⟨#[45,49,48]⟩,0)/\exC.set=1/\exC.price=419430400:=by decide +kernel
def adK:(Ue exX 1 [] [] exD 5).2=0/\(Ue exX 1 [] [] exD 5).1.length=1:=by decide +kernel
def IW:(dM exX []).2=0/\(dM exX []).1.length=1:=by decide +kernel
def abI:LoadsOk exX 1 where
 dims:=by decide
 orders:=by decide
 types:=by decide
 load:=by intro o F;simp[exX,exO]at F;subst F;simp
 cap:=by intro t E;simp[exX,exT]at E;subst E;simp
def asX:Sq.NetOk exN where
 arcs:=by decide
 travel:=by intro a E;simp[exN]at E;rcases E with rfl|rfl <;> decide +kernel
 slow:=by intro a E;simp[exN]at E;rcases E with rfl|rfl <;> decide
def afI:PrOk exX 1 where
 ev:=⟨asX,⟨by decide,by intro o E;simp[exX,exO]at E;subst E;rfl,by decide⟩,by decide,by decide⟩
 n8:=by decide
 ty:=by decide
 lo:=abI
 ne:=by simp[exX]
def Dt:PC prog 15 [] (.agg (aC exX)):=by
 refine pcd func15 rfl rfl ?_;simp only[go_sem];refine fO fun i0 Y aa (E:Y i0=some (insR ⟨⟨[],[]⟩,[],[],[],[]⟩)) N=>?_
 simp only[go_sem];refine aL fun i2 O=>?_
 simp only[go_sem];refine cJ O (by simp) fun I (U:I i2=some (⟨25,2,[bD exN]⟩)) N=>?_
 replace E:=(N E).2;simp only[go_sem];refine aL fun i3 V=>?_
 simp only[go_sem];refine cJ V (by simp) fun X (Z:X i3=some (ordR exO)) N=>?_
 replace E:=(N E).2;replace U:=(N U).2;simp only[go_sem];refine aL fun i4 F=>?_
 simp only[go_sem];refine cJ F (by simp) fun J (R4:J i4=some (auV exT)) N=>?_
 replace E:=(N E).2;replace U:=(N U).2;replace Z:=(N Z).2;simp only[go_sem,R4,U,Z];refine aI E (by simp;decide) ?_;simp only[go_sem];exact .refl _
def acW(hW:Js exX 1 [] [] exD)(X:X6 (lU exX [] [] exD).1):PC prog 6 [] (boo true):=by
 have Y:MIn exX [] []:=⟨by decide,by decide,by decide,by decide⟩;have hs:∀s∈exD,s.size<=1048576:=by decide +kernel
 have Z:=Xf exX 1 [] [] exD afI Y (fun q O=>by cases O) (by decide) hs hW;rw[show tM exX 1 [] [] exD=(exC,⟨#[45,49,48]⟩,0)from Prod.ext rfl OW.1]at Z;have hn:=asK exX 1 [] [] exD 5 afI Y (fun q O=>by cases O) (by decide) hs hW X;have ha:=Sq.NC.pc2 (Lq exX 1 [] afI (by decide));rw[IW.1]at ha;rw[adK.1]at hn;have I:=adK.2;have V:=IW.2;have U:=OW.2.1;have J:=OW.2.2;generalize (Ue exX 1 [] [] exD 5).1=NL at *;generalize (dM exX []).1=AL at *;generalize exC=c at *;refine pcd func6 rfl rfl ?_;simp only[go_sem];refine aG (CR 419430410 (by decide) (by decide)) ?_;simp only[go_sem];refine aG Dt ?_;simp only[go_sem];refine aG Z ?_;simp only[go_sem];refine aL fun i3 E=>?_
 simp only[go_sem];refine cJ E (by simp[cF]) fun F (R3:F i3=some (bV [c])) N=>?_
 simp only[go_sem];refine aG Dt ?_;simp only[go_sem];refine aG hn ?_;simp only[go_sem];refine aG Dt ?_;simp only[go_sem];refine aG ha ?_;simp only[go_sem,R3,Xab,U,J,I,V];exact cB (a:=true) (by rfl)
end Nu.Ps
namespace Nu.Ps
open Go.Proofs.Tryz
open Go.Aw Go.Aw.D Go.Proofs Ty Go.Nu Go.So
open Dec (nN eH fI eF tY mH)
open Sq (EvalB BestQ tP mO bV fD fT)
def aoO{x:Instance}(h:Acc x)(V:x.orders.length<=8):PrOk x (kN x.types).toNat:=by
 obtain⟨E,F⟩:=Up h;have h1:=h.arcs;have Y:=h.types;have h3:=h.apart;have h4:=h.before;refine⟨⟨⟨by omega,fun a I=>(h.arc a I).travel,fun a I=>by have:=(h.arc a I).slow;omega⟩,?_,by omega,by omega⟩,V,by omega,E,F⟩;obtain⟨t,r,O⟩:=List.exists_cons_of_ne_nil F;have J:fT x=(t.cap.length:Nat):=by unfold fT;rw[O];rfl
 have Z:=(E.cap t (by rw[O];exact Xcw)).1;have X:=E.dims;exact⟨by rw[J];omega,fun o U=>by rw[J,(E.load o U).1];omega,by omega⟩
def Qm(a:Ask3):Bool:=(((((decide ((a.x.orders.length:Int)>3)||decide ((a.x.types.length:Int)>3))||decide ((a.cuts.length:Int)>8))||decide ((a.d.length:Int)>8))||decide ((a.dual.length:Int)>40))||decide (((tU a.x).length:Int)>0))
def Ky(a:Ask3):Bool:= !Qm a&&a.dual.all fun s=> !decide ((s.size:Int)>60)
def alS{a:Ask3}(h:Ky a=true):Acc a.x/\a.x.orders.length<=3/\a.x.types.length<=3/\a.cuts.length<=8/\a.d.length<=8/\a.dual.length<=40/\∀s∈a.dual,s.size<=60:=by unfold Ky Qm at h;simp only[Xai,Xay,Xag,decide_eq_false_iff_not,Xaj]at h;obtain⟨⟨⟨⟨⟨⟨h1,I⟩,V⟩,J⟩,O⟩,U⟩,E⟩:=h;refine⟨UU (Xcg.1 (by omega)),by omega,by omega,by omega,by omega,by omega,fun s F=>?_⟩;have:=E s F;omega
def awE(a:Ask3)(Y:InB a.x)(hl:a.dual.length<=1048576):PC prog 5 [.agg (kJ a)] (boo (Ky a)):=by
 refine pcd func5 rfl rfl ?_;simp only[go_sem];refine⟨_,fun _=>(NC.pc (aoU a.x Y)).qn,?_⟩;simp only[go_sem,Xab];apply aA <;> intro I
 ·have I:Qm a=true:=I;simp only[go_sem];refine cB ?_;unfold Ky;rw[I];rfl
 have I:Qm a=false:=I;have hF:Ky a=a.dual.all fun s=> !decide ((s.size:Int)>60):=by unfold Ky;rw[I];rfl
 rw[hF];simp only[go_sem];refine⟨fun ρ H=>∃(k:Nat),k<=a.dual.length/\ρ 1=.rp (kJ a) 0/\ρ 3=int k/\(∀s∈a.dual.take k,decide ((s.size:Int)>60)=false),fun ρ _=>a.dual.length-aR (ρ 3),⟨0,Xaa _,rfl,(by simp only[go_sem];rfl),by simp⟩,?_⟩;rintro ρ H ⟨k,Z,U,V,X⟩;simp only[go_sem,U,V];refine aA (fun E=>?_) (fun F=>?_)
 ·have E:=ltB (by simpa using E);obtain⟨s,J⟩:=aK E;have b1:=inB E;simp only[go_sem,U,V,aD J,b1];apply aA <;> intro O
  ·simp only[go_sem];refine cB ?_;exact(List.all_eq_false.2 ⟨s,Xac J,by have O:decide ((s.size:Int)>60)=true:=O;rw[O];simp⟩).symm
  ·simp only[go_sem,U,V,aQ k];exact⟨⟨k+1,E,rfl,gR (p:=fun s:ByteArray=>decide ((s.size:Int)>60)=false) J O X⟩,msr E⟩
 have F:=geB Z (by simpa using F);subst F;rw[Xad]at X;simp only[go_sem];exact cB (Xaj.2 fun s J=>by rw[X s J];rfl).symm
def TE(l:List Visit)(hl:l.length<=1048576):PC prog 24 [.sl (l.map aF),.sl (l.map aF)] (boo true):=by
 refine pcd func24 rfl rfl ?_;simp only[go_sem];refine aA (fun V=>absurd V (by simp)) (fun _=>?_);simp only[go_sem];refine⟨fun ρ H=>∃(k:Nat),k<=l.length/\ρ 0=.sl (l.map aF)/\ρ 1=.sl (l.map aF)/\ρ 5=int k,fun ρ _=>l.length-aR (ρ 5),⟨0,Xaa _,rfl,rfl,(by simp only[go_sem];rfl)⟩,?_⟩;rintro ρ H ⟨k,Z,F,J,I⟩;simp only[go_sem,F,I];refine aA (fun E=>?_) (fun X=>?_)
 ·have E:=ltB (by simpa using E);obtain⟨v,Y⟩:=aK E;have U:=inB E;simp only[go_sem];refine dR ?_;simp only[go_sem,F,J,I,aD Y,U,Xab];apply aA <;> intro O
  ·exact absurd O (by simp)
  ·simp only[go_sem,F,J,I,aQ k];exact⟨⟨k+1,E,rfl⟩,msr E⟩
 simp only[go_sem];exact .refl _
def Sh(c:Column)(h1:c.route.rests.length<=1048576)(U:c.route.visits.length<=1048576):PC prog 9 [.agg (aU c),.agg (aU c)] (boo true):=by
 refine pcd func9 rfl rfl ?_;simp only[go_sem];refine aA (fun X=>absurd X (by simp)) (fun _=>?_);simp only[go_sem];refine⟨fun ρ H=>∃(k:Nat),k<=c.route.rests.length/\ρ 2=.rp (aU c) 0/\ρ 3=.rp (aU c) 0/\ρ 5=int k,fun ρ _=>c.route.rests.length-aR (ρ 5),⟨0,Xaa _,rfl,rfl,(by simp only[go_sem];rfl)⟩,?_⟩;rintro ρ H ⟨k,hk,F,I,J⟩;simp only[go_sem,F,J];refine aA (fun E=>?_) (fun Y=>?_)
 ·have E:=ltB (by simpa using E);obtain⟨v,Z⟩:=aK E;have V:=inB E;simp only[go_sem];refine dR ?_;simp only[go_sem,F,I,J,aD Z,V,Xab];apply aA <;> intro O
  ·exact absurd O (by simp)
  ·simp only[go_sem,F,I,J,aQ k];exact⟨⟨k+1,E,rfl⟩,msr E⟩
 simp only[go_sem,F,I];refine aG (TE c.route.visits U) ?_;simp only[go_sem];exact .refl _
end Nu.Ps
namespace Rx
open Go.Aw Go.Aw.D Go.Proofs Ty
open Sq
open Go.Nu
def Dis:List Visit->Prop
 | []=>True
 | v::l=>¬v∈l/\Dis l
def UA:∀(l U:List Visit),Dis l->(∀v∈l,v∈U)->l.length<=U.length
 | [],U,_,_=>Xaa _
 | v::l,U,hd,hs=>by
  obtain⟨a,b,rfl⟩:=List.append_of_mem (hs v (by simp));have:=UA l (a++b) hd.2 fun u E=>by
   have:=hs u (by simp[E]);rcases Xba.1 this with h|h
   ·exact Xby _ h
   ·rcases Xbg.1 h with rfl|h
    ·exact absurd E hd.1
    ·exact List.mem_append_right _ h
  simp only[Xae,Xah]at this |-;omega
def yR(f:Visit->Rat):List Visit->Rat
 | []=>0
 | v::l=>f v+yR f l
def CJ(f:Visit->Rat)(v:Visit)(l:List Visit):yR f (v::l)=f v+yR f l:=rfl
def Jy(f:Visit->Rat):∀a b:List Visit,yR f (a++b)=yR f a+yR f b
 | [],b=>(Rat.zero_add _).symm
 | v::a,b=>by rw[List.cons_append,CJ,CJ,Jy f a b,Rat.add_assoc]
def Yc(f:Visit->Rat):∀(l U:List Visit),Dis l->(∀v∈l,v∈U)->l.length=U.length->yR f l=yR f U/\∀v∈U,v∈l
 | [],U,_,_,h=>by have:U=[]:=Xcg.1 h.symm;subst this;exact⟨rfl,fun v J=>J⟩
 | v::l,U,hd,hs,h=>by
  obtain⟨a,b,rfl⟩:=List.append_of_mem (hs v (by simp));have F:∀u∈l,u∈a++b:=fun u E=>by
   have:=hs u (by simp[E]);rcases Xba.1 this with h|h
   ·exact Xby _ h
   ·rcases Xbg.1 h with rfl|h
    ·exact absurd E hd.1
    ·exact List.mem_append_right _ h
  obtain⟨h1,I⟩:=Yc f l (a++b) hd.2 F (by simp only[Xae,Xah]at h |-;omega);rw[Jy]at h1;refine⟨?_,fun u E=>?_⟩
  ·rw[Jy,CJ,CJ,h1];generalize yR f a=x;generalize yR f b=y;generalize f v=z
   grind
  ·rcases Xba.1 E with E|E
   ·exact List.mem_cons_of_mem _ (I u (Xby _ E))
   ·rcases Xbg.1 E with rfl|E
    ·exact Xcw
    ·exact List.mem_cons_of_mem _ (I u (List.mem_append_right _ E))
def asB{l:List Visit}(h:∀j v,l[j]?=some v->¬v∈l.take j):Dis l:=by
 suffices ∀(b a:List Visit),(∀j v,(a++b)[j]?=some v->¬v∈(a++b).take j)->Dis b from this l [] (by simpa using h)
 intro b;induction b with
 | nil=>intro a _;trivial
 | cons v b ih=>intro a h;refine⟨fun E=>?_,ih (a++[v]) (by simpa using h)⟩;obtain⟨c,d,rfl⟩:=List.append_of_mem E;have:=h (a.length+1+c.length) v (by rw[show a++v::(c++v::d)=(a++v::c)++v::d by simp,List.getElem?_append_right (by simp;omega)];simp only[Xae,Xah];rw[show a.length+1+c.length-(a.length+(c.length+1))=0 by omega];rfl);refine this ?_;rw[show a++v::(c++v::d)=(a++v::c)++v::d by simp,List.take_append_of_le_length (by simp;omega),Xan (by simp;omega)];simp
def Io{v u:Visit}:oT v u=true↔u=v:=by unfold oT;obtain⟨a,b⟩:=v;obtain⟨c,d⟩:=u;simp
def alZ{l:List Visit}{v:Visit}(h:¬v∈l):bJ l v= -1:=by unfold bJ;refine kS (fun y E=>?_) 0;rw[Xdb];intro F;rw[Io.1 F]at E;exact h E
def aeE{l:List Visit}{v:Visit}{j:Nat}(h:l[j]?=some v)(F:¬v∈l.take j):bJ l v=j:=by
 unfold bJ;rw[lW (k:=j) (fun y E=>?_) h (Io.2 rfl) 0]
 ·omega
 ·rw[Xdb];intro I;rw[Io.1 I]at E;exact F E
def Is{v:Visit}:∀{l:List Visit},v∈l->∃j,l[j]?=some v/\¬v∈l.take j
 | u::l,h=>by
  by_cases e:v=u
  ·subst e;exact⟨0,rfl,by simp⟩
  ·have h : v ∈ l := by
    rcases Xbg.1 h with h|h
    ·exact absurd h e
    ·exact h
   obtain⟨j,h1,F⟩:=Is h;refine⟨j+1,h1,fun E=>?_⟩;rw[List.take_succ_cons]at E;rcases Xbg.1 E with E|E
   ·exact e E
   ·exact F E
def Ol{l:List Visit}{v:Visit}(h:bJ l v>=0):v∈l:=by
 false_or_by_contra
 rename_i E;rw[alZ E]at h;omega
structure SeqB(x:Instance)(l:List Visit):Prop where
 ne:l≠[]
 vis:∀v∈l,Vis x v
 twice:∀j v,l[j]?=some v->¬v∈l.take j
 pair:∀i,i<x.orders.length->CY (dO x i)=true->∀d,(⟨(i:Nat),d⟩:Visit)∈l->(⟨(i:Nat),false⟩:Visit)∈l/\(⟨(i:Nat),true⟩:Visit)∈l/\bJ l ⟨(i:Nat),false⟩<bJ l ⟨(i:Nat),true⟩
def GM{O:Order}{i:Nat}(h:CY O=true):gS O (i:Nat)=[⟨(i:Nat),false⟩,⟨(i:Nat),true⟩]:=by unfold CY at h;rw[Xai]at h;unfold gS;rw[if_pos h.1,if_pos h.2];rfl
def aaT{x:Instance}{l:List Visit}(h:rO x l=0):SeqB x l:=by
 unfold rO at h;split at h
 ·cases h
 next X=>
 split at h
 ·cases h
 next c2=>
 split at h
 ·cases h
 next c3=>
 split at h
 ·cases h
 next J=>
 clear h;simp only[Xbu,not_or,Xat,Xao,not_exists,not_and,Xch]at X c2 c3;have J:l.all (xE x.orders l)=true:=by simpa using J
 rw[Xaj]at J;have Y:∀j v,l[j]?=some v->¬v∈l.take j:=fun j v hj O=>by have Z:=(List.getElem?_eq_some_iff.1 hj).1;have:=c3 j (Xar.2 Z);unfold qY at this;rw[decide_eq_false_iff_not]at this;refine this ?_;rw[List.getD,hj];obtain⟨i,h1,h2⟩:=Is O;show bJ (l.take j) v>=0;rw[aeE h1 h2];omega
 have I:∀v∈l,∃i:Nat,v.order=(i:Nat)/\i<x.orders.length:=fun v F=>by have:=X.2 v F;simp only[cK,Xag,decide_eq_false_iff_not]at this;exact⟨v.order.toNat,by omega,by omega⟩
 refine⟨fun e=>X.1 (by rw[e];rfl),fun v F=>?_,Y,fun i hi hb d F=>?_⟩
 ·obtain⟨i,e,hi⟩:=I v F;have E:=J v F;unfold xE at E;rw[Xai]at E;have O:v∈fV x.orders v.order:=by have:=E.1;unfold inV at this;exact Ol (of_decide_eq_true this)
  rw[e,CD hi]at O;obtain⟨d,e2,V⟩:=aoF O;refine⟨i,d,e2,hi,V,?_⟩;have:=c2 v F;unfold wI at this;rw[e,Xaq,gO hi]at this;simpa using this
 ·have E:=J _ F;unfold xE at E;rw[Xai]at E;have U:=E.2;rw[CD hi,GM hb]at U;simp only[qW,Xai,decide_eq_true_eq,Xbm]at U;obtain⟨q1,q2⟩:=U;exact⟨Ol (by omega),Ol (by omega),q2⟩
section
variable{x:Instance}{l:List Visit}{i j:Nat}{d:Bool}
end
end Rx
namespace Rx
open Go.Aw Go.Aw.D Go.Proofs Ty
open Sq
open Go.Nu
def avG(f:Int->Int):List Int->Int
 | []=>0
 | i::M=>f i+avG f M
def avZ(x:Instance)(i:Nat):Bool:=decide ((dO x i).pick.place<0)
def awI(l:List Visit)(j:Nat)(i:Int):Bool:=(l.take j).any fun u=>oT ⟨i,true⟩ u
def avM(x:Instance)(c:Nat)(i:Int):Int:=if avZ x i.toNat=true then(dO x i.toNat).load.getD c 0 else 0
def avQ(x:Instance)(l:List Visit)(j c:Nat)(i:Int):Int:=if awI l j i=true then 0 else avM x c i
def remJ(x:Instance)(l:List Visit)(j c:Nat):Int:=avG (avQ x l j c) (Sq.cZ (cT l).1)
section
variable{x:Instance}{k:Nat}{near:List Int}{l:List Visit}{j c i:Nat}{d:Bool}
structure LdJ(x:Instance)(l:List Visit)(j:Nat)(ld:List Int):Prop where
 len:ld.length=avE x
 le:∀c,ld.getD c 0+remJ x l j c<=(EM x l j).getD c 0
end
end Rx
namespace Rx
open Go.Aw Go.Aw.D Go.Proofs Ty
open Sq
open Go.Nu
def plJ(x:Instance)(t:VType)(l:List Visit)(j:Nat):Int:=sK t (fS x l) j
def miJ(x:Instance)(t:VType)(l:List Visit):Nat->Int
 | 0=>0
 | j+1=>miJ x t l j+mil x.net t (plJ x t l j) (plJ x t l (j+1))
def vJ(l:List Visit)(j:Nat):Visit:=l.getD j ⟨0,false⟩
def stJ(x:Instance)(l:List Visit)(j:Nat):Bool:=HA (dO x (vJ l j).order.toNat) (vJ l j).drop
def mvJ(x:Instance)(k:Nat)(l:List Visit):Nat->Int
 | 0=>0
 | j+1=>mvJ x k l j+if stJ x l j=true then Xx (dO x (vJ l j).order.toNat).now k else 0
def otJ(x:Instance)(k:Nat)(l:List Visit):Nat->Int
 | 0=>0
 | j+1=>otJ x k l j+if stJ x l j=true then Xx (dO x (vJ l j).order.toNat).last k else 0
def duJ(x:Instance)(du:Option (List ByteArray))(l:List Visit):Nat->Rat
 | 0=>0
 | j+1=>duJ x du l j+if stJ x l j=true then duV du (vJ l j).order.toNat else 0
def vlJ(x:Instance)(k:Nat)(du:Option (List ByteArray))(l:List Visit)(j:Nat):Rat:=
 (((mZ x k).perMile*miJ x (mZ x k) l j*16777216+(mvJ x k l j*16+otJ x k l j)*65536:Int):Rat)-duJ x du l j
section
variable{x:Instance}{k:Nat}{near:List Int}{du:Option (List ByteArray)}{dl:List ByteArray}{M:Nat}{p:Part}{q:RP}{l:List Visit}{r:Route}{i j:Nat}{d:Bool}
structure Sim(x:Instance)(k:Nat)(du:Option (List ByteArray))(M:Nat)(l:List Visit)(r:Route)(j:Nat)(p:Part):Prop where
 good:Good x k M p
 vis:p.visits=j
 place:p.place=plJ x (mZ x k) l j
 board:∀o:Nat,p.board.testBit o=true↔CY (dO x o)=true/\(⟨(o:Nat),false⟩:Visit)∈l.take j/\¬(⟨(o:Nat),true⟩:Visit)∈l.take j
 mem:∀o:Nat,p.memory.testBit o=true->∃d,(⟨(o:Nat),d⟩:Visit)∈l.take j
 load:LdJ x l j p.load
 clk:∀m∈dpP x (mZ x k) r (fS x l) j,m.since<=4096/\m.sheet.miles=miJ x (mZ x k) l j/\∃c∈p.clocks,c.ready=m.ready/\c.since<=m.since
 val:tO p.value=vlJ x k du l j
end
end Rx
namespace Rx
open Go.Aw Go.Aw.D Go.Proofs Ty
open Sq
open Go.Nu
section
variable{x:Instance}{k:Nat}{near:List Int}{du:Option (List ByteArray)}{dl:List ByteArray}{M:Nat}{p:Part}{q:RP}{l:List Visit}{r:Route}{i j:Nat}{d:Bool}
end
end Rx
namespace Rx
open Go.Aw Go.Aw.D Go.Proofs Ty
open Sq
open Go.Nu
section
variable{x:Instance}{k:Nat}{near:List Int}{du:Option (List ByteArray)}{dl:List ByteArray}{M:Nat}{p:Part}{q:RP}{l:List Visit}{r:Route}{i j:Nat}{d:Bool}
structure EvalF(x:Instance)(r:Route):Prop where
 ty:cK r.type x.types.length=false
 seq:rO x r.visits=0
 able:C8 x r=0
 fits:zQ x r=0
 best:(kO x r).2=0
 price:fD x r=nF (mJ x r (kO x r).1)
def ajH{set:Int}(hi:i<=62)(h:Gx x set i=false):dN set (i:Int)=true/\NI x i=false:=by
 unfold Gx at h;simp only[Xag]at h;refine⟨?_,h.2⟩;have E:=h.1.2;rw[wH hi,arS]at E;unfold dN;rw[decide_eq_true (show((i:Nat):Int)>=0 by omega),decide_eq_true (show((i:Nat):Int)<=62 by omega),Xaq];generalize set/2^i=m at *;have:¬m%2=0:=by simpa using E
 simp;omega
def aiG{set:Int}{E:List Visit}{v:Visit}(I:x.orders.length<=60)(h:v∈pI x set E):∃i,i<x.orders.length/\dN set ((i:Nat):Int)=true/\v∈fV x.orders (i:Nat):=by
 unfold pI yF at h;obtain⟨i,hi,h⟩:=List.mem_flatMap.1 h;have hi:=Xar.1 hi;unfold Bg at h;split at h
 ·cases h
 next F=>
 exact⟨i,hi,(ajH (by omega) (by simpa using F)).1,(List.mem_filter.1 h).1⟩
def LK(f:Int->List Visit):∀M:List Int,(M.flatMap f).length=(M.map fun i=>(f i).length).sum
 | []=>rfl
 | i::M=>by rw[List.flatMap_cons,Xae,Xbf,List.sum_cons,LK f M]
def Ua(h:tU x=[])(hi:i<x.orders.length):(dO x i).pick.place>=0\/(dO x i).drop.place>=0:=by
 unfold tU at h;simp only[Xbr,List.map_eq_nil_iff]at h;obtain⟨⟨⟨_,_⟩,F⟩,_⟩:=h;unfold tE at F;rw[Xbr]at F;have h:=List.flatMap_eq_nil_iff.1 F.2 i (Xar.2 hi);unfold iC at h;rw[List.map_eq_nil_iff,HU (List.getElem?_eq_getElem hi)]at h;unfold lV at h;simp only[Xcj,Xbr]at h;have e:x.orders[i]=dO x i:=by unfold dO;rw[List.getD,List.getElem?_eq_getElem hi];rfl
 rw[e]at h;obtain⟨⟨⟨⟨⟨_,I⟩,J⟩,_⟩,_⟩,_⟩:=h;have E:=gX I;have O:=gX J;simp only[Xag]at E;have a1:=kY.1 (tR E.1);have a2:=kY.1 (tR E.2);simp only[Xcx,beq_eq_false_iff_ne,ne_eq]at O;omega
end
end Rx
namespace Rx
open Go.Aw Go.Aw.D Go.Proofs Ty
open Sq
open Go.Nu
def FY(u v:Visit):wJ u v=0↔OI u v=true:=by obtain⟨a,b⟩:=u;obtain⟨c,d⟩:=v;unfold wJ OI or2 hU KX;simp only[Xai,Xat,Xbm];cases b <;> cases d <;> simp <;> (repeat' split) <;> omega
def Wp(u v:Visit)(h:OI u v=false):FD u v=decide (wJ u v<0):=by
 have h0:¬wJ u v=0:=fun e=>by rw[(FY u v).1 e]at h;cases h
 obtain⟨a,b⟩:=u;obtain⟨c,d⟩:=v;unfold wJ or2 hU KX at *;unfold FD;rw[Xap];simp only[Xbu,Xai,decide_eq_true_eq,Xat,Xay];cases b <;> cases d <;> simp at h0 |- <;> (repeat' split) <;> (repeat' split at h0) <;> omega
def Nq:∀a b:List Visit,xX a b=decide (Pt a b<0)
 | [],[]=>rfl
 | [],_::_=>rfl
 | _::_,[]=>rfl
 | u::l,v::m=>by
  show(if(!OI u v)=true then FD u v else xX l m)=decide (or2 (wJ u v) (Pt l m)<0);cases h:OI u v with
  | true=>rw[if_neg (by simp),Nq l m];unfold or2;rw[if_pos ((FY u v).2 h)]
  | false=>
   have h0:¬wJ u v=0:=fun e=>by rw[(FY u v).1 e]at h;cases h
   rw[if_pos (by simp),Wp u v h];unfold or2;rw[if_neg h0]
def amW(x:Instance){s i:Nat}(hi:i<=62):Gx x (s:Int) i=(!rG (s:Int) i||NI x i):=by
 unfold Gx;rw[decide_eq_false (show ¬((i:Int)>62)by omega),Xbt,wH hi,arS,Fg (by omega) (by omega),Xaq,Xdd]
 congr 1
 have e:(s:Int)/2^i%2=((s/2^i%2:Nat):Int):=by simp
 rw[e];have E:s/2^i%2<2:=Xbx _ (by decide);generalize s/2^i%2=m at *;rcases(show m=0\/m=1 by omega)with rfl|rfl <;> rfl
def UY{x:Instance}(I:Acc x){i:Int}(h0:0<=i)(h1:i<(x.orders.length:Int)):fV x.orders i=mN x i:=by
 obtain⟨o,F⟩:=aK (show i.toNat<x.orders.length by omega);have E:=I.order o (Xac F);have J:cK i x.orders.length=false:=by unfold cK;simp;omega
 unfold fV mN;rw[if_neg (by rw[J];simp),F];exact Gp E.pick E.drop
def atF{x:Instance}(F:Acc x)(l:List Visit)(v:Visit):aaF x l v=sZ x v.order l:=by
 unfold aaF sZ;rw[List.not_any_eq_all_not];refine Ms fun q J=>?_
 have E:=F.beforeB q J;have e:(decide (q.a<0)||decide (q.a>=(x.orders.length:Int)))=false:=by have:=E.a;rw[decide_eq_false (by omega),decide_eq_false (by omega)];rfl
 unfold FT;rw[e,Xbt,UY F E.a.1 E.a.2];have I:gY l (mN x q.a)=(mN x q.a).all (rN l):=rfl;rw[I,bne];cases(q.b == v.order) <;> cases(mN x q.a).all (rN l) <;> rfl
def PO{x:Instance}{i:Int}{v:Visit}(h:v∈mN x i):v.order=i:=by
 unfold mN at h;split at h
 ·unfold cN at h;rcases Xba.1 h with h|h
  ·split at h
   ·rw[Xaw.1 h]
   ·cases h
  ·split at h
   ·rw[Xaw.1 h]
   ·cases h
 ·cases h
def Et(l:List Visit)(v:Visit):(!decide (bJ l v>=0))=decide (bJ l v<0):=by
 by_cases h:bJ l v>=0
 ·rw[decide_eq_true h,decide_eq_false (by omega)];rfl
 ·rw[decide_eq_false h,decide_eq_true (by omega)];rfl
def asE(l:List Visit)(v:Visit):rN l v=decide (bJ l v>=0):=by have:=Et l v;unfold rN;rw[<-this,Bool.not_not]
def auE(l:List Visit):∀V:List Visit,V.length<=2->V.Nodup->V.filter (fun v=>(!decide (bJ l v>=0))&&BM V l v)=C9 l V V.length
 | [],_,_=>rfl
 | [a],_,_=>by
  have I:BM [a] l a=true:=by
   unfold BM;rw[Xca];have:eqV a a=true:=by unfold eqV;simp
   rw[this];rfl
  rw[List.filter_cons,I,Xbm,Et];show _=Bm l [a] 0++[];rw[Xak];unfold Bm;simp
 | [a,b],_,hn=>by
  have F:a≠b:=by simp at hn;exact hn
  have J:∀u:Visit,eqV u u=true:=fun u=>by unfold eqV;simp
  have E:eqV a b=false:=by
   unfold eqV;obtain⟨o,d⟩:=a;obtain⟨Z,Y⟩:=b;cases h:((o == Z)&&((d == Y)&&true))with
   | false=>rfl
   | true=>simp only[Xai,Xat,Xbm]at h;exact absurd (by rw[h.1,h.2]) F
  have I:BM [a,b] l a=true:=by unfold BM;rw[Xca,J];rfl
  have U:BM [a,b] l b=rN l a:=by unfold BM;rw[Xca,E];show(a::List.takeWhile (fun w=> !eqV w b) [b]).all (rN l)=_;rw[Xca,J];show(rN l a&&true)=_;rw[Xbm]
  rw[List.filter_cons,List.filter_cons,I,U,Xbm,Et,Et,asE];show _=Bm l [a,b] 0++(Bm l [a,b] 1++[]);rw[Xak];unfold Bm;simp;by_cases h1:bJ l a<0 <;> by_cases O:bJ l b<0 <;> by_cases X:0<=bJ l a <;> simp[h1,O,X]
 | _::_::_::_,h,_=>by simp at h
def PG(x:Instance)(i:Int):(mN x i).Nodup:=by
 unfold mN;split
 ·unfold cN;split <;> split <;> simp
 ·exact List.nodup_nil
def Cv{x:Instance}(E:Acc x)(U:x.orders.length<=62)(s:Nat)(l:List Visit):xS x (s:Int) l=pI x (s:Int) l:=by
 unfold xS tK pI yF;rw[List.flatMap_def,List.flatMap_def]
 congr 1
 refine List.map_congr_left fun i hi=>?_
 have hi:=Xar.1 hi;unfold zB Bg IV;rw[amW x (show i<=62 by omega)];cases h1:(!rG (s:Int) (i:Nat)||NI x i)with
 | true=>rw[if_pos (by simp),if_pos rfl]
 | false=>
  rw[Xbt,if_neg (by simp:¬false=true),UY E (by omega) (by omega)];have J:(mN x (i:Nat)).filter (rX x l)=(mN x (i:Nat)).filter fun v=>((!decide (bJ l v>=0))&&BM (mN x (i:Nat)) l v)&&sZ x (i:Nat) l:=
   List.filter_congr fun v I=>by have F:=PO I;unfold rX;rw[atF E,F,UY E (by omega) (by omega)]
  rw[J];cases O:sZ x (i:Nat) l with
  | false=>rw[if_pos (by simp)];simp
  | true=>rw[if_neg (by simp),<-auE l _ (CB x i) (PG x i)];simp
end Rx
namespace Rx
open Go.Aw Go.Aw.D Go.Proofs Ty
open Sq
open Go.Nu
structure Cx(x:Instance)(s:Nat):Prop where
 ck:tU x=[]
 n8:x.orders.length<=8
 pos:0<s
 top:s<2^x.orders.length
section
variable{x:Instance}{s:Nat}{l:List Visit}
def Kp(x:Instance)(s:Nat):List Visit:=(Sq.cZ (s:Int)).flatMap fun i=>fV x.orders i
def Ja:(Kp x s).length=jU x (s:Int):=by unfold Kp;rw[LK];rfl
def mT{a:Int}:a∈Sq.cZ (s:Int)↔∃i:Nat,a=(i:Nat)/\i<63/\s.testBit i=true:=by
 unfold Sq.cZ Sq.qO;rw[Xbe];constructor
 ·rintro⟨i,hi,rfl⟩;obtain⟨h1,E⟩:=List.mem_filter.1 hi;have h1:=Xar.1 h1;rw[jL (by omega) (by omega),Xaq]at E;exact⟨i,rfl,h1,E⟩
 ·rintro⟨i,rfl,h1,E⟩;refine⟨i,List.mem_filter.2 ⟨Xar.2 h1,?_⟩,rfl⟩;rw[jL (by omega) (by omega),Xaq];exact E
def FN(h:Cx x s){i:Nat}(E:s.testBit i=true):i<x.orders.length:=by
 false_or_by_contra
 rename_i F;rw[Xcv (Xbs h.top (Xau (by decide) (by omega)))]at E;cases E
def DG{i:Nat}(hi:i<x.orders.length){v:Visit}(E:v∈fV x.orders (i:Nat)):v.order=(i:Nat):=by
 rw[CD hi]at E;unfold gS at E;rcases Xba.1 E with E|E
 ·split at E
  ·rw[Xaw.1 E]
  ·cases E
 ·split at E
  ·rw[Xaw.1 E]
  ·cases E
def DW(h:Cx x s){v:Visit}:v∈Kp x s↔∃i:Nat,i<x.orders.length/\s.testBit i=true/\v∈fV x.orders (i:Nat):=by
 unfold Kp;rw[List.mem_flatMap];constructor
 ·rintro⟨a,I,F⟩;obtain⟨i,rfl,_,E⟩:=mT.1 I;exact⟨i,FN h E,E,F⟩
 ·rintro⟨i,hi,E,F⟩;have:=h.n8;exact⟨_,mT.2 ⟨i,rfl,by omega,E⟩,F⟩
def Uf(h:Cx x s)(E:Sq.kD x (s:Int) l):∀v∈l,v∈Kp x s:=fun v J=>by obtain⟨a,b,e⟩:=List.append_of_mem J;have:=h.n8;obtain⟨i,hi,F,I⟩:=aiG (by omega) (E a v b e);rw[jL (by omega) (by omega),Xaq]at F;exact(DW h).2 ⟨i,hi,F,I⟩
def RI(h:Cx x s)(E:Sq.kD x (s:Int) l):∀v∈l,∃i:Nat,v.order=(i:Nat)/\i<x.orders.length/\s.testBit i=true:=fun v J=>by obtain⟨i,hi,I,F⟩:=(DW h).1 (Uf h E v J);exact⟨i,DG hi F,hi,I⟩
def ahH{p:List Visit}{v:Visit}(h:v∈pI x (s:Int) p):¬v∈p:=by
 unfold pI yF at h;obtain⟨i,hi,h⟩:=List.mem_flatMap.1 h;unfold Bg at h;split at h
 ·cases h
 have h:=(List.mem_filter.1 h).2;unfold rX at h;simp only[Xai,Xay,decide_eq_false_iff_not]at h;intro F;obtain⟨j,h1,E⟩:=Is F;have:=aeE h1 E;have:=h.1.1;omega
def ajD(E:Sq.kD x (s:Int) l):Dis l:=asB fun j v I F=>by
 have e:l=l.take j++v::l.drop (j+1):=by rw[<-tH I,Xcs]
 exact ahH (E _ _ _ e) F
def E0(h:Cx x s)(E:Sq.kD x (s:Int) l):l.length<=jU x (s:Int):=by rw[<-Ja];exact UA l _ (ajD E) (Uf h E)
def aaR(h:Cx x s)(E:Sq.kD x (s:Int) l)(I:l.length=jU x (s:Int)):pI x (s:Int) l=[]:=by
 cases e:pI x (s:Int) l with
 | nil=>rfl
 | cons v r=>have F:=E0 h (E.snoc (v:=v) (by rw[e];exact Xcw));rw[Xae,I]at F;simp at F;omega
def acO(h:Cx x s)(E:Sq.kD x (s:Int) l)(F:l.length=jU x (s:Int)):∀v∈Kp x s,v∈l:=
 (Yc (fun _=>0) l _ (ajD E) (Uf h E) (by rw[Ja,F])).2
def CG{i:Int}:iY l i=true↔∃v∈l,v.order=i:=by unfold iY;rw[Xao];simp
def Kj(h:Cx x s)(I:Sq.kD x (s:Int) l):(cT l).1=(s:Int)↔∀i:Nat,i<x.orders.length->iY l (i:Nat)=s.testBit i:=by
 have Y:=h.n8;have U:=RI h I;have e:(cT l).1=((wN l:Nat):Int):=by
  rw[<-Je];unfold uH;rw[if_pos];refine Xaj.2 fun v E=>?_
  obtain⟨i,h1,V,_⟩:=U v E;unfold okV;rw[h1];simp;omega
 have F:∀i:Nat,(wN l).testBit i=iY l (i:Nat):=fun i=>by
  rw[Jq];unfold iY;refine sT fun v E=>?_
  obtain⟨k,h1,V,_⟩:=U v E;rw[h1,Xaq,Xap];simp;omega
 rw[e];constructor
 ·intro O i hi;rw[<-F i,show wN l=s by exact_mod_cast O]
 ·intro O;have:wN l=s:=Nat.eq_of_testBit_eq fun i=>by
   by_cases hi:i<x.orders.length
   ·rw[F,O i hi]
   ·have h1 : s.testBit i = false := by
     cases J:s.testBit i with
     | false=>rfl
     | true=>exact absurd (FN h J) hi
    rw[h1,F];cases J:iY l (i:Nat)with
    | false=>rfl
    | true=>obtain⟨v,E,X⟩:=CG.1 J;obtain⟨k,h1,V,_⟩:=U v E;omega
  rw[this]
def Tg(h:Cx x s)(E:Sq.kD x (s:Int) l)(X:l.length=jU x (s:Int)):(cT l).1=(s:Int):=by
 refine(Kj h E).2 fun i hi=>?_
 cases O:s.testBit i with
 | true=>
  have F:=Ua h.ck hi;have J:∃v,v∈fV x.orders (i:Nat):=by
   rw[CD hi];unfold gS;rcases F with F|F
   ·exact⟨⟨(i:Nat),false⟩,Xby _ (by rw[if_pos (decide_eq_true F)];simp)⟩
   ·exact⟨⟨(i:Nat),true⟩,List.mem_append_right _ (by rw[if_pos (decide_eq_true F)];simp)⟩
  obtain⟨v,I⟩:=J;exact CG.2 ⟨v,acO h E X v ((DW h).2 ⟨i,hi,O,I⟩),DG hi I⟩
 | false=>
  cases V:iY l (i:Nat)with
  | false=>rfl
  | true=>
   obtain⟨v,I,Z⟩:=CG.1 V;obtain⟨k,h1,Y,U⟩:=RI h E v I;have:k=i:=by omega
   rw[this,O]at U;cases U
def Xs:∀{a b:List Visit},Dis a->Dis b->(∀v∈a,¬v∈b)->Dis (a++b)
 | [],b,_,hb,_=>hb
 | v::a,b,ha,hb,hd=>by
  refine⟨fun E=>?_,Xs ha.2 hb fun u F=>hd u (List.mem_cons_of_mem _ F)⟩;rcases Xba.1 E with E|E
  ·exact ha.1 E
  ·exact hd v Xcw E
def aoH{i:Nat}(hi:i<x.orders.length):Dis (fV x.orders (i:Nat)):=by rw[CD hi];unfold gS;split <;> split <;> simp[Dis]
def SK:∀M:List Nat,M.Nodup->(∀i∈M,i<x.orders.length)->Dis (M.flatMap fun i=>fV x.orders (i:Nat))
 | [],_,_=>trivial
 | i::M,hn,hM=>by
  obtain⟨h1,I⟩:=List.nodup_cons.1 hn;rw[List.flatMap_cons];refine Xs (aoH (hM i (by simp))) (SK M I fun k E=>hM k (by simp[E])) fun v O J=>?_
  obtain⟨k,E,F⟩:=List.mem_flatMap.1 J;have U:=DG (hM i (by simp)) O;have V:=DG (hM k (by simp[E])) F;have:i=k:=by omega
  exact h1 (this▸E)
def ahL(h:Cx x s):Dis (Kp x s):=by
 have e:Kp x s=((List.range 63).filter fun i=>dN (s:Int) (i:Nat)).flatMap fun i=>fV x.orders (i:Nat):=by unfold Kp Sq.cZ Sq.qO;rw[List.flatMap_map]
 rw[e];refine SK _ (List.nodup_range.filter _) fun i hi=>?_
 obtain⟨h1,E⟩:=List.mem_filter.1 hi;have h1:=Xar.1 h1;rw[jL (by omega) (by omega),Xaq]at E;exact FN h E
def anN(h:Cx x s)(O:Sq.kD x (s:Int) l)(hs:SeqB x l)(ho:(cT l).1=(s:Int)):l.length=jU x (s:Int):=by
 have h1:=E0 h O;have hb:=(Kj h O).1 ho;have h2:(Kp x s).length<=l.length:=UA _ l (ahL h) fun v hv=>by
  obtain⟨i,hi,Z,E⟩:=(DW h).1 hv;obtain⟨u,Y,aa⟩:=CG.1 ((hb i hi).trans Z);obtain⟨a,d,I,ha,J,_⟩:=hs.vis u Y;have e:a=i:=by have:=congrArg Visit.order I;simp only at this;omega
  subst e;rw[CD hi]at E;by_cases F:CY (dO x a)=true
  ·obtain⟨m1,m2,_⟩:=hs.pair a hi F d (I▸Y);rw[GM F]at E;rcases Xbg.1 E with rfl|E
   ·exact m1
   ·rw[Xaw.1 E];exact m2
  ·have F:CY (dO x a)=false:=by simpa using F
   have V:v=u:=by
    rw[I];unfold CY at F;unfold gS at E;unfold stR at J;cases d with
    | false=>
     have U:(dO x a).pick.place>=0:=by simpa using J
     have X:decide ((dO x a).drop.place>=0)=false:=by rw[decide_eq_true U,Xbc]at F;exact F
     rw[X,decide_eq_true U]at E;simpa using E
    | true=>
     have U:(dO x a).drop.place>=0:=by simpa using J
     have X:decide ((dO x a).pick.place>=0)=false:=by rw[decide_eq_true U,Xbm]at F;exact F
     rw[X,decide_eq_true U]at E;simpa using E
   rw[V];exact Y
 rw[Ja]at h2;omega
end
end Rx
namespace Rx
open Go.Aw Go.Aw.D Go.Proofs Ty
open Sq
open Go.Nu
abbrev rtQ(k:Nat)(l:List Visit):Route:=⟨(k:Nat),0,[],l⟩
def auL{x:Instance}(h:Acc x){k:Nat}{t:VType}(ht:x.types[k]?=some t){l:List Visit}(E:(kO x (rtQ k l)).2=0):
  bW x (rtQ k l)=true/\∃c m,c.length=l.length+1/\kR x t (rtQ k l) c 0 (gI t (rtQ k l))=.ok m:=by
 unfold kO at E;by_cases O:(!bW x (rtQ k l)||decide (((rtQ k l).rests.length:Int)>((rtQ k l).visits.length:Int)+1))=true
 ·rw[if_pos O]at E;cases E
 rw[if_neg O]at E;have J:x.types[(rtQ k l).type.toNat]?=some t:=by show x.types[(((k:Nat):Int)).toNat]?=_;rw[Xaq];exact ht
 rw[J]at E;have X:bW x (rtQ k l)=true:=by
  cases e:bW x (rtQ k l)with
  | true=>rfl
  | false=>rw[e]at O;simp at O
 refine⟨X,?_⟩;obtain⟨Z,_⟩:=h.route X J
 change (D9 x t (rtQ k l)).2=0 at E
 have U:=alJ x t (rtQ k l) (l.length+1) (Xaf _);have e:D9 x t (rtQ k l)=match dpP x t (rtQ k l) (fS x l) (l.length+1)with
  | []=>(Hw (B0 x t (fS x l) (cY (rtQ k l)) 0 (gI t (rtQ k l))),F2 (B0 x t (fS x l) (cY (rtQ k l)) 0 (gI t (rtQ k l))))
  | l0::ls=>((ls.foldl Sq.nG l0).sheet,0):=rfl
 change dpP x t (rtQ k l) (fS x l) (l.length+1)=_ at U
 rw[e,U]at E;cases F:dpL x t (rtQ k l) (l.length+1)with
 | nil=>
  exfalso;rw[F]at E
  change F2 (B0 x t (fS x l) (cY (rtQ k l)) 0 (gI t (rtQ k l)))=0 at E
  have I:=oC (r:=rtQ k l) (by show 0<=_;omega);have Y:=Xd x t (rtQ k l) (cY (rtQ k l)) 0 (gI t (rtQ k l)) (by rw[I];omega)
  change B0 x t (fS x l) _ _ _=_ at Y
  rw[Y]at E;obtain⟨e,V⟩:=(VI Z).1 F (cY (rtQ k l)) I ((uG (by rw[I];show 0<=_;omega)).2 (by show[] <+: _;exact List.nil_prefix));rw[V]at E;exact Ea _ _ _ _ V E
 | cons l0 ls=>obtain⟨bs,h1,_,h3⟩:=By (x:=x) (t:=t) (r:=rtQ k l) (l.length+1) l0 (by rw[F];exact Xcw);exact⟨bs,l0,h1,h3⟩
def Su{x:Instance}{t:VType}{r:Route}:∀(a b:List Bool) (k:Nat) (l m:Lab),kR x t r (a++b) k l=.ok m->∃E,kR x t r a k l=.ok E
 | [],b,k,l,m,_=>⟨l,rfl⟩
 | c::a,b,k,l,m,h=>by
  rw[List.cons_append]at h;unfold kR at h |-;cases e:gH x t r k l c with
  | error e'=>rw[e]at h;cases h
  | ok l'=>rw[e]at h;exact Su a b (k+1) l' m h
def adQ{s u:Sta}(h:D4 s u=true):u=s:=by unfold D4 at h;obtain⟨a,b⟩:=s;obtain⟨c,d⟩:=u;simp at h;simp[h]
def E4{l:List Sta}{s u:Sta}(h:u∈l):u∈wW l s:=by
 unfold wW;split
 ·exact h
 ·exact Xby _ h
def MF(l:List Sta)(s:Sta):s∈wW l s:=by
 unfold wW;split
 next I=>obtain⟨u,E,F⟩:=Xao.1 I;rw[<-adQ F];exact E
 ·exact List.mem_append_right _ (by simp)
def TP{t:VType}{l:List Sta}{d dr:Int}{u:Sta}(h:u∈l):u∈mY t l d dr:=E4 (E4 h)
def IL(t:VType)(l:List Sta)(m:Lab)(b:Bool):(⟨gZ t m b,nS m b⟩:Sta)∈mY t l m.ready m.since:=by
 unfold mY gZ nS;cases b with
 | false=>exact E4 (MF _ _)
 | true=>exact MF _ _
def agG{n:Network}{t:VType}{src:Int}{st:Stop}{out:List Sta}{a u:Sta}(h:u∈out):u∈EC n t src st out a:=by
 unfold EC;simp only;split
 ·exact h
 ·split
  ·exact h
  ·exact TP h
def Lt{n:Network}{t:VType}{src:Int}{st:Stop}{u:Sta}:∀(l out:List Sta),u∈out->u∈l.foldl (EC n t src st) out
 | [],out,h=>h
 | a::l,out,h=>Lt l _ (agG h)
def K8{n:Network}{t:VType}{src:Int}{st:Stop}{u a:Sta}(E:∀out,u∈EC n t src st out a):∀(l out:List Sta),a∈l->u∈l.foldl (EC n t src st) out
 | b::l,out,h=>by
  rcases Xbg.1 h with rfl|h
  ·exact Lt l _ (E out)
  ·exact K8 E l _ h
def aiU(x:Instance)(t:VType)(a:Int×List Sta)(v:Visit):Int×List Sta:=((eZ x v).1.place,xP x.net t a.1 (eZ x v).1 a.2)
def stF(x:Instance)(t:VType)(l:List Visit):Int×List Sta:=l.foldl (aiU x t) (t.src,mY t [] t.start 0)
def JH(x:Instance)(t:VType)(l:List Visit)(v:Visit):stF x t (l++[v])=aiU x t (stF x t l) v:=by unfold stF;rw[Xbn];rfl
def Ia{x:Instance}{v:Visit}(h:(bI x v).2=true):eZ x v=((bI x v).1,0):=by unfold eZ;rw[if_pos h]
def akR{x:Instance}{t:VType}{k:Nat}{l:List Visit}(h:∀v∈l,(bI x v).2=true):∀j,j<=l.length->(stF x t (l.take j)).1=iF x t (rtQ k l) j
 | 0,_=>rfl
 | j+1,hj=>by obtain⟨v,E⟩:=aK (show j<l.length by omega);rw[bA E,JH];show(eZ x v).1.place=_;rw[Ia (h v (Xac E))];show(bI x v).1.place=(match (rtQ k l).visits[j]? with|some v=>(bI x v).1.place|none=>0);rw[show(rtQ k l).visits[j]?=some v from E]
def aeT{x:Instance}{t:VType}{k:Nat}{l:List Visit}{c:List Bool}(h0:0<=t.start)(J:∀v∈l,(bI x v).2=true)(hc:c.length=l.length+1):
  ∀j,j<=l.length->∀m,kR x t (rtQ k l) (c.take j) 0 (gI t (rtQ k l))=.ok m->∀b,(⟨gZ t m b,nS m b⟩:Sta)∈(stF x t (l.take j)).2
 | 0,_,m,E,b=>by
  have E:gI t (rtQ k l)=m:=by have E:(Except.ok (gI t (rtQ k l)):Except Int Lab)=.ok m:=E;injection E
  subst E;have e:gI t (rtQ k l)=⟨t.start,0,aX⟩:=by
   unfold gI
   congr 1
   unfold eV;show(if t.start<(0:Int)then(0:Int)else t.start)=t.start;rw[if_neg (by omega)]
  have:=IL t [] ⟨t.start,0,aX⟩ b;rw[e];exact this
 | j+1,hj,m,E,b=>by
  obtain⟨v,X⟩:=aK (show j<l.length by omega);obtain⟨q,Y⟩:=aK (show j<c.length by omega);rw[bA Y]at E;have F:(c.take j).length=j:=by rw[Xas];omega
  rw[qG,F]at E;cases V:kR x t (rtQ k l) (c.take j) 0 (gI t (rtQ k l))with
  | error e=>rw[V]at E;cases E
  | ok m'=>
   rw[V]at E;have E:gH x t (rtQ k l) (0+j) m' q=.ok m:=E;rw[Xce]at E;unfold gH at E;rw[show(rtQ k l).visits[j]?=some v from X]at E;obtain⟨g1,g2,g3,rfl⟩:=JU (k:=0) E;have ih:=aeT h0 J hc j (by omega) m' V q;have I:=Ia (J v (Xac X));have O:=akR (t:=t) (k:=k) J j (by omega);rw[bA X,JH];unfold aiU xP;rw[I,O];refine K8 (fun out=>?_) _ _ ih;have U:fP x.net t.profile (iF x t (rtQ k l) j) (bI x v).1.place (gZ t m' q)=goL x t (iF x t (rtQ k l) j) (bI x v).1.place m' q:=rfl;unfold EC;simp only[U];have Z:((goL x t (iF x t (rtQ k l) j) (bI x v).1.place m' q).2.2 != 0||decide (W (W (nS m' q+(goL x t (iF x t (rtQ k l) j) (bI x v).1.place m' q).1)-gZ t m' q)>t.drive))=false:=by
    rw[g1];have:¬mP x t (iF x t (rtQ k l) j) (bI x v).1.place m' q>t.drive:=by omega
    unfold mP at this;rw[decide_eq_false this];rfl
   have c2:Rx.nH (bI x v).1 (goL x t (iF x t (rtQ k l) j) (bI x v).1.place m' q).1=(W (eV (goL x t (iF x t (rtQ k l) j) (bI x v).1.place m' q).1 (bI x v).1.start+(bI x v).1.service),0):=by unfold Rx.nH;rw[if_neg (by omega)]
   rw[if_neg (by rw[Z];simp),c2,if_neg (by simp)];exact IL t out ⟨W (eV (goL x t (iF x t (rtQ k l) j) (bI x v).1.place m' q).1 (bI x v).1.start+(bI x v).1.service),mP x t (iF x t (rtQ k l) j) (bI x v).1.place m' q,jH x t (iF x t (rtQ k l) j) (bI x v).1 j m' q⟩ b
def Xp{x:Instance}(h:Acc x){k:Nat}{t:VType}(J:x.types[k]?=some t){l:List Visit}(V:(kO x (rtQ k l)).2=0):(∀v∈l,(bI x v).2=true)/\∀j,j<=l.length->(stF x t (l.take j)).2≠[]:=by
 obtain⟨E,c,m,Z,I⟩:=auL h J V;have O:∀v∈l,(bI x v).2=true:=by unfold bW at E;simp only[Xai]at E;exact Xaj.1 E.2
 refine⟨O,fun j X Y=>?_⟩;rw[<-Xcs j c]at I;obtain⟨U,F⟩:=Su _ _ _ _ _ I;have h0:=(h.type t (Xac J)).start.1;have:=aeT (k:=k) h0 O Z j X U F false;rw[Y]at this;cases this
end Rx
namespace Rx
open Go.Aw Go.Aw.D Go.Proofs Ty
open Sq
open Go.Nu
section
variable{x:Instance}{s:Nat}{l:List Visit}
structure SeqF(x:Instance)(l:List Visit):Prop where
 off:(l.any fun v=>wI x v.order)=false
 apart:(x.apart.any fun q=>iY l q.a&&iY l q.b)=false
 before:(x.before.any fun q=> !G9 l q.a q.b)=false
def amD(h:rO x l=0):SeqF x l:=by
 unfold rO at h;split at h
 ·cases h
 split at h
 ·cases h
 next E=>
 split at h
 ·cases h
 split at h
 ·cases h
 split at h
 ·cases h
 next F=>
 split at h
 ·cases h
 next I=>
 exact⟨by simpa using E,by simpa using F,by simpa using I⟩
def Ha(l:List Visit)(i:Nat):Nat:=l.findIdx fun v=>v.order == (i:Int)
def WC{i:Nat}(h:iY l (i:Nat)=true):Ha l i<l.length/\Sq.dO l (Ha l i)=(i:Int):=by
 obtain⟨v,I,F⟩:=CG.1 h;have E:Ha l i<l.length:=List.findIdx_lt_length_of_exists ⟨v,I,by simpa using F⟩;refine⟨E,?_⟩;have J:(l[Ha l i]'(E)).order=(i:Int):=by have:=List.findIdx_getElem (xs:=l) (p:=fun v:Visit=>v.order == (i:Int)) (w:=E);exact Xat.1 this
 unfold Sq.dO;rw[List.getD,List.getElem?_eq_getElem E];exact J
def anO(x:Instance)(i:Int):Oo x i=wI x i:=by unfold Oo wI;cases x.orders[i.toNat]? <;> rfl
def UN(X:Acc x)(Z:SeqF x l){q:Pair}(I:q∈x.before){a b:Nat}(ha:q.a=(a:Nat))(Y:q.b=(b:Nat))(J:iY l (b:Nat)=true):iY l (a:Nat)=true/\Ha l a<Ha l b:=by
 have E:=(X.beforeB q I).ne;have h1:G9 l q.a q.b=true:=by have:=Xbb.1 Z.before q I;simpa using this
 rw[JX E,ha,Y,J]at h1;simp only[Xcb,Xbt,Xai,Xay]at h1;refine⟨h1.1,?_⟩;obtain⟨V,F⟩:=WC h1.1;obtain⟨q1,U⟩:=WC J
 false_or_by_contra
 rename_i hc;have O:Ha l a≠Ha l b:=fun e=>by rw[e,U]at F;omega
 have:GN l (a:Nat) (b:Nat)=true:=Nc.2 ⟨Ha l a,Ha l b,by omega,V,F,U⟩;rw[this]at h1;cases h1.2
def ChI(s:Nat)(l:List Visit)(M:List Nat):Prop:=∀(i u:Nat),M[i]?=some u->∀j,u.testBit j=true->s.testBit i=true->s.testBit j=true/\Ha l j<Ha l i
def abV(h:Cx x s)(hx:Acc x)(hf:SeqF x l)(hb:∀i:Nat,i<x.orders.length->iY l (i:Nat)=s.testBit i){M:List Nat}(X:ChI s l M){q:Pair}(hq:q∈x.before):ChI s l (AY M q):=by
 unfold AY;split
 ·exact X
 next hc=>
 have V:=hx.beforeB q hq;obtain⟨a,ha⟩:=Int.eq_ofNat_of_zero_le V.a.1;obtain⟨b,J⟩:=Int.eq_ofNat_of_zero_le V.b.1;have Y:a<x.orders.length:=by have:=V.a.2;omega
 have Z:b<x.orders.length:=by have:=V.b.2;omega
 simp only[Xbu,decide_eq_true_eq,not_or]at hc;rw[ha,J]at hc |-;rw[Xaq,Xaq];obtain⟨ua,U⟩:=aK (l:=M) (k:=a) (by omega);obtain⟨ub,I⟩:=aK (l:=M) (k:=b) (by omega);rw[Zh U,Zh I];intro i u F j E hs;by_cases e:i=b
 ·subst e;rw[List.getElem?_set_self (by omega)]at F;have F:=Option.some.inj F;subst F;have hB:iY l (i:Nat)=true:=(hb i Z).trans hs;obtain⟨hA,aa⟩:=UN hx hf hq ha J hB;have O:s.testBit a=true:=(hb a Y).symm.trans hA;rw[Nat.testBit_or,Nat.testBit_or,Xbu,Xbu]at E;rcases E with(E|E)|E
  ·exact X i ub I j E hs
  ·obtain⟨h1,h2⟩:=X a ua U j E O;exact⟨h1,by omega⟩
  ·rw[Nat.testBit_two_pow]at E;have:a=j:=by simpa using E
   subst this;exact⟨O,aa⟩
 ·rw[List.getElem?_set_ne (by omega)]at F;exact X i u F j E hs
def QX(h:Cx x s)(E:Acc x)(I:SeqF x l)(F:∀i:Nat,i<x.orders.length->iY l (i:Nat)=s.testBit i):∀(L:List Pair) (M:List Nat),(∀q∈L,q∈x.before)->ChI s l M->ChI s l (L.foldl AY M)
 | [],M,_,hM=>hM
 | q::L,M,hL,hM=>QX h E I F L _ (fun p J=>hL p (by simp[J])) (abV h E I F hM (hL q (by simp)))
def X5(h:Cx x s)(E:Acc x)(I:SeqF x l)(F:∀i:Nat,i<x.orders.length->iY l (i:Nat)=s.testBit i):∀(f:Nat) (M:List Nat),ChI s l M->ChI s l (QH x.before f M)
 | 0,M,hM=>hM
 | f+1,M,hM=>by
  unfold QH;split
  ·exact hM
  ·exact X5 h E I F f _ (QX h E I F x.before M (fun q J=>J) hM)
def Vx(h:Cx x s)(I:Acc x)(O:SeqF x l)(J:∀i:Nat,i<x.orders.length->iY l (i:Nat)=s.testBit i):ChI s l (uI x.orders.length x.before):=by
 unfold uI;refine X5 h I O J _ _ fun i u E j F=>?_
 have E:u=0:=List.eq_of_mem_replicate (Xac E);rw[E,Nat.zero_testBit]at F;cases F
def Uc(h:Cx x s)(X:Acc x)(V:Sq.kD x (s:Int) l)(Y:rO x l=0)(ho:(cT l).1=(s:Int)):xO x (s:Int)=0:=by
 have O:=amD Y;have Z:=(Kj h V).1 ho;have hn:=h.n8;have U:∀{a:Int},0<=a->a<(x.orders.length:Int)->dN (s:Int) a=iY l a:=fun {a} h0 h1=>by obtain⟨i,rfl⟩:=Int.eq_ofNat_of_zero_le h0;rw[jL (by omega) (by omega),Xaq,Z i (by omega)]
 unfold xO;rw[if_neg (by omega)];rw[if_neg (by rw[pK fun a I=>?_];simp;obtain⟨i,rfl,_,E⟩:=mT.1 I;have:=FN h E;exact decide_eq_false (by omega))];rw[if_neg (by rw[pK fun a I=>?_];simp;obtain⟨i,rfl,_,E⟩:=mT.1 I;have hi:=FN h E;obtain⟨v,hv,aa⟩:=CG.1 ((Z i hi).trans E);have:=Xbb.1 O.off v hv;rw[aa]at this;rw[anO];simpa using this)];rw[if_neg (by rw[pK fun q J=>?_];simp;have F:=X.apartB q J;rw[U F.a.1 F.a.2,U F.b.1 F.b.2];have:=Xbb.1 O.apart q J;simpa using this)];rw[if_neg (by
  rw[pK fun q J=>?_];simp;have F:=X.beforeB q J;rw[U F.a.1 F.a.2,U F.b.1 F.b.2];have h1:=Xbb.1 O.before q J;have h1:G9 l q.a q.b=true:=by simpa using h1
  rw[JX F.ne]at h1;cases e1:iY l q.b <;> cases e2:iY l q.a <;> simp_all)]
 rw[if_neg];rw[pK fun a I=>?_]
 ·simp
 obtain⟨i,rfl,ab,E⟩:=mT.1 I;have hi:=FN h E;have hL:=Gd x.orders.length x.before;obtain⟨u,hu⟩:=aK (l:=uI x.orders.length x.before) (k:=i) (by omega);rw[Xaq,Zh hu,jL (by omega) (by omega),Xaq];cases e:u.testBit i with
 | false=>rfl
 | true=>have:=(Vx h X O Z i u hu i e E).2;omega
end
end Rx
namespace Rx
open Go.Aw Go.Aw.D Go.Proofs Ty
open Sq
open Go.Nu
def pR(x:Instance)(r:Route):Int×Int:=if((pU x r).2.2 != 0)=true then(0,(pU x r).2.2)else nF (pU x r).2.1
def Uw{x:Instance}(E:Acc x)(r:Route):pR x r=fD x r:=by unfold pR fD;rw[E.eval r]
def rH(x:Instance)(b:Column×Bool)(l:List Visit):Column×Bool:=
 if((cT l).1 != b.1.set||(pU x ⟨b.1.type,0,[],l⟩).2.2 != 0)=true then b
 else if((pR x ⟨b.1.type,0,[],l⟩).2 != 0||(b.2&& !uK ⟨b.1.type,b.1.set,(pR x ⟨b.1.type,0,[],l⟩).1,⟨b.1.type,0,[],l⟩⟩ b.1))=true then b
 else(⟨b.1.type,b.1.set,(pR x ⟨b.1.type,0,[],l⟩).1,⟨b.1.type,0,[],l⟩⟩,true)
def eJ(x:Instance):Nat->Column×Bool->List Visit->Column×Bool
 | 0,b,_=>b
 | f+1,b,l=>if((xS x b.1.set l).length:Int)=0 then rH x b l else(xS x b.1.set l).foldl (fun b v=>eJ x f b (l++[v])) b
def aaV(x:Instance)(b:Column×Bool)(l:List Visit):(rH x b l).1.type=b.1.type/\(rH x b l).1.set=b.1.set:=by
 unfold rH;split
 ·exact⟨rfl,rfl⟩
 ·split
  ·exact⟨rfl,rfl⟩
  ·exact⟨rfl,rfl⟩
def Ld{α:Type}{g:Column×Bool->α->Column×Bool}(E:∀b v,(g b v).1.type=b.1.type/\(g b v).1.set=b.1.set):∀(vs:List α) (b:Column×Bool),(vs.foldl g b).1.type=b.1.type/\(vs.foldl g b).1.set=b.1.set
 | [],b=>⟨rfl,rfl⟩
 | v::vs,b=>by obtain⟨h1,F⟩:=Ld E vs (g b v);obtain⟨J,I⟩:=E b v;exact⟨h1.trans J,F.trans I⟩
def wQ(x:Instance):∀(f:Nat) (b:Column×Bool) (l:List Visit),(eJ x f b l).1.type=b.1.type/\(eJ x f b l).1.set=b.1.set
 | 0,b,l=>⟨rfl,rfl⟩
 | f+1,b,l=>by
  unfold eJ;split
  ·exact aaV x b l
  ·exact Ld (fun b v=>wQ x f b _) _ b
def zX{x:Instance}{r:Route}(E:(kM x r).2.2=0):rO x r.visits=0/\(kO x r).2=0:=by
 unfold kM at E;split at E
 ·cases E
 split at E
 ·next c=>rw[show rO x r.visits=0 from E]at c;simp at c
 next I=>
 split at E
 ·next c=>rw[show C8 x r=0 from E]at c;simp at c
 split at E
 ·next c=>rw[show zQ x r=0 from E]at c;simp at c
 split at E
 ·next c=>rw[show(kO x r).2=0 from E]at c;simp at c
 next F=>exact⟨by simpa using I,by simpa using F⟩
section
variable{x:Instance}{s k:Nat}{t:VType}
def E3(x:Instance)(s k:Nat)(l:List Visit):Prop:=∀L,l <+: L->Sq.kD x (s:Int) L->¬((cT L).1=(s:Int)/\(kM x (rtQ k L)).2.2=0)
def E3.more{l:List Visit}(h:E3 x s k l)(v:Visit):E3 x s k (l++[v]):=fun L F E=>h L ((List.prefix_append l [v]).trans F) E
def WE(F:Acc x){b:Column×Bool}(E:b.1.type=(k:Int)/\b.1.set=(s:Int)){l:List Visit}(h:¬((cT l).1=(s:Int)/\(kM x (rtQ k l)).2.2=0)):rH x b l=b:=by
 unfold rH;rw[if_pos];rw[E.1,E.2,<-F.eval];cases e:((cT l).1 != (s:Int)||(kM x ⟨(k:Int),0,[],l⟩).2.2 != 0)with
 | true=>rfl
 | false=>simp only[Xag,bne_eq_false_iff_eq]at e;exact absurd e h
def WA{α:Type}{g:Column×Bool->α->Column×Bool}{b:Column×Bool}:∀vs:List α,(∀v∈vs,g b v=b)->vs.foldl g b=b
 | [],_=>rfl
 | v::vs,h=>by rw[List.foldl_cons,h v (by simp)];exact WA vs fun u E=>h u (by simp[E])
def Cz(E:Acc x)(F:x.orders.length<=62):∀(f:Nat) (b:Column×Bool) (l:List Visit),b.1.type=(k:Int)/\b.1.set=(s:Int)->Sq.kD x (s:Int) l->E3 x s k l->eJ x f b l=b
 | 0,_,_,_,_,_=>rfl
 | f+1,b,l,hb,hst,h=>by
  unfold eJ;rw[hb.2,Cv E F];split
  ·exact WE E hb (h l (List.prefix_refl l) hst)
  ·exact WA _ fun v I=>Cz E F f b _ hb (hst.snoc I) (h.more v)
def amL(E:Acc x)(F:x.types[k]?=some t){l:List Visit}(h:(stF x t l).2=[]):E3 x s k l:=fun L J O I=>by obtain⟨r,rfl⟩:=J;have:=(Xp E F (zX I.2).2).2 l.length (by simp);rw[List.take_left]at this;exact this h
def aaL(E:Acc x)(F:x.types[k]?=some t){l:List Visit}{v:Visit}(O:v∈l)(h:(bI x v).2=false):E3 x s k l:=fun L J U I=>by have:=(Xp E F (zX I.2).2).1 v (J.subset O);rw[h]at this;cases this
structure RelS(sr:Sr)(b:Column×Bool):Prop where
 f:b.2=sr.found
 best:b.2=true->sr.best=b.1
def aaP(hx:Acc x)(h:Cx x s){sr:Sr}{b:Column×Bool}(O:RelS sr b)(h1:sr.x=x)(h2:sr.kind=k)(h3:sr.set=(s:Int))(hb:b.1.type=(k:Int)/\b.1.set=(s:Int)){l:List Visit}(Y:Sq.kD x (s:Int) l)(hl:l.length=jU x (s:Int)):
   RelS (KW sr l) (rH x b l):=by
 have ho:=Tg h Y hl;have eP:fD sr.x (mE sr l)=fD x ⟨(k:Int),0,[],l⟩:=by unfold mE;rw[h1,h2]
 have eC:∀p,JS sr l p=⟨(k:Int),(s:Int),p,⟨(k:Int),0,[],l⟩⟩:=fun p=>by unfold JS mE;rw[h2,h3]
 have e0:((s:Int) != (s:Int))=false:=by simp
 have eL : rH x b l = if ((kM x ⟨(k : Int), 0, [], l⟩).2.2 != 0) = true then b
     else if((fD x ⟨(k:Int),0,[],l⟩).2 != 0||(b.2&& !uK ⟨(k:Int),(s:Int),(fD x ⟨(k:Int),0,[],l⟩).1,⟨(k:Int),0,[],l⟩⟩ b.1))=true then b
     else(⟨(k:Int),(s:Int),(fD x ⟨(k:Int),0,[],l⟩).1,⟨(k:Int),0,[],l⟩⟩,true):=by
   unfold rH;rw[hb.1,hb.2,ho,Uw hx,<-hx.eval,e0,Xbt]
 have aa:(kM x ⟨(k:Int),0,[],l⟩).2.2≠0->(fD x ⟨(k:Int),0,[],l⟩).2≠0:=fun I=>by unfold fD;rw[if_pos (show((kM x ⟨(k:Int),0,[],l⟩).2.2 != 0)=true by simpa using I)];exact I
 rw[eL];unfold KW;rw[eP,eC];generalize (kM x ⟨(k:Int),0,[],l⟩).2.2=E at *;generalize fD x ⟨(k:Int),0,[],l⟩=P at *;by_cases U:P.2=0
 . have I:E=0:=Decidable.byContradiction fun I=>aa I U
   have Z:(P.2 != 0)=false:=by simpa using U
   rw[if_pos (show(P.2 == 0)=true by simpa using U),if_neg (show ¬(E != 0)=true by simpa using I),Z,Xbt];cases X:b.2 with
   | false=>have J:sr.found=false:=O.f.symm.trans X;rw[Bool.false_and,if_neg (show ¬false=true by simp)];refine⟨rfl,fun _=>?_⟩;show sA sr.best sr.found _=_;unfold sA;rw[J];rfl
   | true=>
     have J:sr.found=true:=O.f.symm.trans X;have F:=O.best X;rw[Xbc];cases V:uK ⟨(k:Int),(s:Int),P.1,⟨(k:Int),0,[],l⟩⟩ b.1 with
     | true=>rw[if_neg (show ¬(!true)=true by simp)];refine⟨rfl,fun _=>?_⟩;show sA sr.best sr.found _=_;unfold sA;rw[J,F,V];rfl
     | false=>rw[if_pos (show(!false)=true by simp)];refine⟨X,fun _=>?_⟩;show sA sr.best sr.found _=_;unfold sA;rw[J,F,V];rfl
 . rw[if_neg (show ¬(P.2 == 0)=true by simpa using U)];have Z:(P.2 != 0)=true:=by simpa using U
   rw[Z,Bool.true_or];by_cases I:(E != 0)=true
   . rw[if_pos I];exact O
   . rw[if_neg I,if_pos rfl];exact O
def Li(O:Acc x)(h:Cx x s)(ht:x.types[k]?=some t):∀(f g:Nat) (sr:Sr) (b:Column×Bool) (l:List Visit),RelS sr b->sr.x=x->sr.kind=k->sr.set=(s:Int)->sr.total=jU x (s:Int)->b.1.type=(k:Int)/\b.1.set=(s:Int) ->
   Sq.kD x (s:Int) l->jU x (s:Int)-l.length<f->jU x (s:Int)-l.length<g->RelS (nT t f sr l (stF x t l).1 (stF x t l).2) (eJ x g b l)
 | 0,g,sr,b,l,I,h1,V,U,Z,E,hst,hf,hg=>by omega
 | f+1,0,sr,b,l,I,h1,V,U,Z,E,hst,hf,hg=>by omega
 | f+1,g+1,sr,b,l,I,h1,V,U,Z,E,hst,hf,hg=>by
   have hn:=h.n8;have af:=E0 h hst;unfold nT eJ;rw[E.2,Cv O (by omega),Z];by_cases hl:l.length=jU x (s:Int)
   . rw[if_pos (by rw[hl];exact beq_self_eq_true _),aaR h hst hl,if_pos (show(([]:List Visit).length:Int)=0 from rfl)];exact aaP O h I h1 V U E hst hl
   rw[if_neg (by simp;omega),h1,U];by_cases hN:((pI x (s:Int) l).length:Int)=0
   . rw[if_pos hN];have hN:pI x (s:Int) l=[]:=Xcg.1 (by omega);rw[hN];have:rH x b l=b:=WE O E fun hc=>hl (anN h hst (aaT (zX hc.2).1) hc.1)
     rw[this];exact I
   rw[if_neg hN];have ae : ∀ (vs : List Visit) (sr : Sr) (b : Column × Bool), (∀ v ∈ vs, v ∈ pI x (s : Int) l) -> RelS sr b -> sr.x = x -> sr.kind = k -> sr.set = (s : Int) -> sr.total = jU x (s : Int) -> b.1.type = (k : Int) /\ b.1.set = (s : Int) ->
       RelS (vs.foldl (vW t (nT t f) l (stF x t l).1 (stF x t l).2) sr) (vs.foldl (fun b v=>eJ x g b (l++[v])) b):=by
     intro vs;induction vs with
     | nil=>intro sr b _ I _ _ _ _ _;exact I
     | cons v vs ih=>
       intro sr b hv I h1 V U Z E;have ac:=hv v (by simp);have F:=hst.snoc ac;have ab:(l++[v]).length=l.length+1:=by simp
       rw[List.foldl_cons,List.foldl_cons];have hk:=wQ x g b (l++[v]);have X:RelS (vW t (nT t f) l (stF x t l).1 (stF x t l).2 sr v) (eJ x g b (l++[v])):=by
         unfold vW;rw[h1];have aa:=JH x t l v;by_cases J:((eZ x v).2 != 0)=true
         . rw[if_pos J];have ad:(bI x v).2=false:=by
             cases e:(bI x v).2 with
             | false=>rfl
             | true=>rw[Ia e]at J;simp at J
           rw[Cz O (by omega) g b _ E F (aaL O ht (v:=v) (by simp) ad)];exact I
         rw[if_neg J];by_cases Y:(xP x.net t (stF x t l).1 (eZ x v).1 (stF x t l).2).length=0
         . rw[if_pos Y];have hd:(stF x t (l++[v])).2=[]:=by rw[aa];exact Xcg.1 Y
           rw[Cz O (by omega) g b _ E F (amL O ht hd)];exact I
         rw[if_neg Y];have:=Li O h ht f g sr b (l++[v]) I h1 V U Z E F (by rw[ab];omega) (by rw[ab];omega);rw[aa]at this;exact this
       have hB:SameB sr (vW t (nT t f) l (stF x t l).1 (stF x t l).2 sr v):=by
         unfold vW;split
         . exact .refl sr
         . split
           . exact .refl sr
           . exact sI t f _ _ _ _
       exact ih _ _ (fun u hu=>hv u (by simp[hu])) X (hB.x.trans h1) (hB.kind.trans V) (hB.set.trans U) (hB.total.trans Z) ⟨hk.1.trans E.1,hk.2.trans E.2⟩
   exact ae _ sr b (fun v hv=>hv) I h1 V U Z E
def V7(x:Instance)(k s:Nat):Column×Int:=
 if(eJ x 17 (⟨(k:Int),(s:Int),0,⟨0,0,[],[]⟩⟩,false) []).2=true then((eJ x 17 (⟨(k:Int),(s:Int),0,⟨0,0,[],[]⟩⟩,false) []).1,0)else(cA,24)
def abD(J:Acc x)(h:Cx x s)(Y:k<x.types.length):V7 x k s=rA x (k:Nat) (s:Nat):=by
 obtain⟨t,V⟩:=aK Y;have hn:=h.n8;have hT:=uX (x:=x) (set:=(s:Int)) (n:=x.orders.length) (by omega) (by exact_mod_cast h.top) (by omega);have F:KD x (k:Nat) (s:Nat)=false:=by
  unfold KD;have Z:shV .shr .i64 (s:Int) (x.orders.length:Nat)=0:=by rw[NY hn,Nat.div_eq_of_lt h.top];rfl
  have hp:=h.pos;rw[Z,decide_eq_false (by omega),decide_eq_false (by omega),decide_eq_false (by omega)];rfl
 unfold V7 rA;rw[if_neg (show ¬KD x (k:Nat) (s:Nat)=true by rw[F];simp)];by_cases U:xO x (s:Int)=0
 ·rw[if_neg (show ¬(xO x (s:Int) != 0)=true by simpa using U),Xaq,V];show _=(if(C3 x k (s:Int) t).found=true then((C3 x k (s:Int) t).best,0)else(cA,24):Column×Int);have O:=Li J h V 17 17 ⟨x,k,(s:Int),jU x (s:Int),cA,false⟩ (⟨(k:Int),(s:Int),0,⟨0,0,[],[]⟩⟩,false) [] ⟨rfl,fun h=>by cases h⟩ rfl rfl rfl rfl ⟨rfl,rfl⟩ Sq.kD.nil (by simp;omega) (by simp;omega)
  change RelS (C3 x k (s:Int) t) _ at O
  have I:=O.f;have E:=O.best;generalize eJ x 17 (⟨(k:Int),(s:Int),0,⟨0,0,[],[]⟩⟩,false) []=R at *;generalize C3 x k (s:Int) t=Wk at *;cases e:R.2 with
  | true=>rw[e]at I;rw[if_pos rfl,if_pos I.symm,E e]
  | false=>rw[e]at I;rw[if_neg (by simp),if_neg (by rw[<-I];simp)]
 ·rw[if_pos (show(xO x (s:Int) != 0)=true by simpa using U)];rw[Cz J (by omega) 17 _ [] ⟨rfl,rfl⟩ Sq.kD.nil (fun L _ hS X=>U (Uc h J hS (zX X.2).1 X.1))];rfl
end
end Rx
namespace Rx
open Go.Proofs.Tryz
open Go.Aw Go.Aw.D Go.Proofs Ty
open Sq
open Go.Proofs.YtpagaknmdfgfkaaGreatDoor.Nu (ltB geB)
open Mv (bO bR aO)
def Zp(s:Sq.Score):PC prog 286 [.agg (Sq.cH s)] (.tup [int (nF s).1,int (nF s).2]):=Nu.Wq ⟨s.cost,s.moved,s.other,s.work⟩
def Z8(x:Instance)(r:Route)(U:InsB x)(Y:r.visits.length<=1048576):PC prog 244 [.agg (aC x),.agg (bT r)] (.tup [int (pR x r).1,int (pR x r).2]):=by
 have X:=Pn x r U Y;unfold pR;generalize pU x r=E at *;refine pcd func244 rfl rfl ?_;simp only[go_sem];refine aG X ?_;simp only[go_sem];refine aL fun j6 h6=>?_
 simp only[go_sem];refine aL fun O I=>?_
 simp only[go_sem];refine aI (eY (aB _ _ _) I) (by simp[Sq.bP]) ?_;simp only[go_sem];have F:=bE (aB _ _ _) I;refine aI (pO (aB _ _ _) F.symm) (by simp[Sq.cH]) ?_;generalize Z:aM _ O _=HG;have V:HG O=some (⟨259,4,[Sq.cH E.2.1]⟩:Row):=by rw[<-Z,aB];rfl
 simp only[go_sem];apply aA <;> intro J
 ·rw[if_pos J];simp only[go_sem];exact .refl _
 rw[if_neg (by rw[J];simp)];simp only[go_sem,V];refine aG (Zp E.2.1) ?_;simp only[go_sem];exact .refl _
def VW(a b:Column)(F:a.route.visits.length<=1048576)(E:b.route.visits.length<=1048576):PC prog 245 [.agg (aU a),.agg (aU b)] (boo (uK a b)):=by
 refine pcd func245 rfl rfl ?_;simp only[go_sem];unfold uK;apply aA <;> intro E
 ·rw[if_pos E];simp only[go_sem];exact .refl _
 ·rw[if_neg (by rw[E];simp)];simp only[go_sem];refine aG (acK a.route.visits b.route.visits F ‹_›) ?_;simp only[go_sem];rw[Nq];exact .refl _
def vL(s:Nat):Nat->Nat
 | 0=>s
 | k+1=>vL s k/2
def IF(s:Nat):∀k,vL s k=s/2^k
 | 0=>by simp[vL]
 | k+1=>by show vL s k/2=_;rw[IF s k,Nat.div_div_eq_div_mul,Xbk]
def US(x:Instance)(s:Nat)(h0:0<s)(h1:s<2^x.orders.length)(hn:x.orders.length<=8):PC prog 202 [.agg (aC x),int (s:Nat)] (boo true):=by
 have h8:2^x.orders.length<=256:=Xam (Xau (by decide) hn) (by decide);refine pcd func202 rfl rfl ?_;simp only[go_sem];refine⟨fun ρ H=>∃k:Nat,k<=x.orders.length/\ρ 1=int (s:Nat)/\ρ 2=.rp (aC x) 0/\ρ 5=int (vL s k:Nat)/\ρ 6=int (k:Nat),fun ρ _=>x.orders.length-aR (ρ 6),⟨0,Xaa _,rfl,rfl,by simp only[go_sem];rfl,(by simp only[go_sem];rfl)⟩,?_⟩;rintro ρ H ⟨k,hk,O,U,J,V⟩;simp only[go_sem,U,V,Xab];refine aA (fun I=>?_) (fun E=>?_)
 ·simp only[Xai,decide_eq_true_eq]at I;have hq:(vL s k:Int).tdiv 2=((vL s (k+1):Nat):Int):=by show(vL s k:Int).tdiv 2=((vL s k/2:Nat):Int);rw[Xbz (by omega)];rfl
  have Z:=IF s k;have Y:vL s k<=s:=by rw[Z];exact Xcq _ _
  have X:vL s (k+1)<=vL s k:=Xcq _ _;have hw:IntKind.i64.wrap ((vL s k:Int).tdiv 2)=((vL s (k+1):Nat):Int):=by rw[hq,aW (by omega)]
  simp only[go_sem,O,U,J,V,hw,aQ k];exact⟨by decide,⟨⟨k+1,by omega,rfl,rfl⟩,by simp only[aN];omega⟩⟩
 ·have E : x.orders.length <= k := by simp only[Xcx,decide_eq_false_iff_not]at E;omega
  have F:k=x.orders.length:=by omega
  have hz:vL s k=0:=by rw[IF,F];exact Nat.div_eq_of_lt h1
  rw[hz]at J;simp only[go_sem,O,J];refine bR ?_;rw[decide_eq_true (by omega)];rfl
structure SeaC(x:Instance)(s k:Nat):Prop where
 cx:Cx x s
 acc:Acc x
 ins:InsB x
def HR{x:Instance}{s kk:Nat}(h:SeaC x s kk):∀(f:Nat) (b:Column×Bool) (l:List Visit),b.1.set=(s:Int)->b.1.route.visits.length<=16->Sq.kD x (s:Int) l->(eJ x f b l).1.route.visits.length<=16
 | 0,b,l,_,E,_=>E
 | f+1,b,l,F,E,hst=>by
  have X:=h.cx.n8;have V:=uX (x:=x) (set:=(s:Int)) (n:=x.orders.length) (by omega) (by exact_mod_cast h.cx.top) (by omega);have O:=E0 h.cx hst;unfold eJ;split
  ·unfold rH;split
   ·exact E
   ·split
    ·exact E
    ·show l.length<=16;omega
  ·rw[F,Cv h.acc (by omega)];have J:∀(vs:List Visit) (b:Column×Bool),(∀v∈vs,v∈pI x (s:Int) l)->b.1.set=(s:Int)->b.1.route.visits.length<=16->(vs.foldl (fun b v=>eJ x f b (l++[v])) b).1.route.visits.length<=16:=by
    intro vs;induction vs with
    | nil=>intro b _ _ E;exact E
    | cons v vs ih=>intro b I F E;exact ih _ (fun u U=>I u (by simp[U])) ((wQ x f b _).2.trans F) (HR h f b _ F E (hst.snoc (I v (by simp))))
   exact J _ b (fun v E=>E) F E
def IJ{x:Instance}{s kk:Nat}(h:SeaC x s kk):∀(f:Nat) (b:Column×Bool) (l:List Visit),b.1.type=(kk:Int)/\b.1.set=(s:Int)->b.1.route.visits.length<=16->Sq.kD x (s:Int) l->jU x (s:Int)-l.length<f ->
  PC prog 203 [.agg (aC x),.agg (aU b.1),boo b.2,.sl (l.map aF)] (.tup [.agg (aU (eJ x f b l).1),boo (eJ x f b l).2])
 | 0,b,l,hb,hv,hst,hf=>by omega
 | f+1,b,l,hb,hv,hst,hf=>by
  have IH:=IJ h f;have hn:=h.cx.n8;have hT:=uX (x:=x) (set:=(s:Int)) (n:=x.orders.length) (by omega) (by exact_mod_cast h.cx.top) (by omega);have be:=E0 h.cx hst;have hN:=ahK x (s:Int) l (by omega) h.ins.before (by omega);have eW:eJ x (f+1) b l=if((xS x b.1.set l).length:Int)=0 then rH x b l else(xS x b.1.set l).foldl (fun b v=>eJ x f b (l++[v])) b:=rfl
  have bc:∀v∈xS x (s:Int) l,Sq.kD x (s:Int) (l++[v])/\l.length+1<=jU x (s:Int):=fun v hv=>by rw[Cv h.acc (by omega)]at hv;have h2:=hst.snoc hv;have h3:=E0 h.cx h2;rw[Xae]at h3;exact⟨h2,h3⟩
  have a4:=Af x (s:Int) l x.orders.length
  change (xS x (s:Int) l).length<=_ at a4
  rw[hb.2]at eW;generalize eJ x (f+1) b l=RW at *;have bf:l.length<=16:=by omega
  have hO:=I2 ⟨b.1.type,0,[],l⟩ (by show l.length<=1048576;omega);have bb:=Z0 x ⟨b.1.type,0,[],l⟩ h.ins (by show l.length<=1048576;omega);have a5:=Z8 x ⟨b.1.type,0,[],l⟩ h.ins (by show l.length<=1048576;omega);refine pcb (fun t=>t == 5||t == 80) func203 rfl rfl ?_;simp only[go_sem];refine fO fun j5 ax bg (E:ax j5=some (bV [b.1])) N=>?_
  simp only[go_sem];refine fO fun Z az bd (F:az Z=some (bV [cA])) N=>?_
  replace E:=N E;obtain⟨X,E⟩:=E;simp only[go_sem,E];simp only[go_sem,hb.2];refine aG hN ?_;generalize xS x (s:Int) l=vs at *;simp only[go_sem,Xab];refine aA (fun hc=>?_) (fun hc=>?_)
  ·have hc:(vs.length:Int)=0:=by simpa using hc
   rw[if_pos hc]at eW;subst eW;have aa:rH x b l=if((cT l).1 != b.1.set||(pU x ⟨b.1.type,0,[],l⟩).2.2 != 0)=true then b
    else if((pR x ⟨b.1.type,0,[],l⟩).2 != 0||(b.2&& !uK ⟨b.1.type,b.1.set,(pR x ⟨b.1.type,0,[],l⟩).1,⟨b.1.type,0,[],l⟩⟩ b.1))=true then b
    else(⟨b.1.type,b.1.set,(pR x ⟨b.1.type,0,[],l⟩).1,⟨b.1.type,0,[],l⟩⟩,true):=rfl
   generalize rH x b l=LW at *;simp only[go_sem,E];refine aL fun ag an=>?_
   simp only[go_sem,];refine cJ an (by simp[cF]) fun ap (Y:ap ag=some (bV [b.1])) N=>?_
   replace E:=N E;obtain⟨O,E⟩:=E;replace F:=N F;obtain⟨J,F⟩:=F;simp only[go_sem,E];refine aI Y (by simp[]) ?_;generalize I:aM _ ag _=HP;replace E:=kpA I (by first|exact O|exact ne_j11_j5.symm) E;replace F:=kpA I (by first|exact J|exact ne_j11_j8.symm) F;replace Y:HP ag=some (bV [⟨b.1.type,b.1.set,b.1.price,⟨b.1.type,0,[],l⟩⟩]):=upS I;simp only[go_sem,Y,];refine aG hO ?_;simp only[go_sem,E,Y];refine⟨_,fun _=>bb.q rfl,?_⟩;simp only[go_sem,];refine aA (fun hd=>?_) (fun hd=>?_)
   ·rw[if_pos hd]at aa;simp only[go_sem,E];refine aI F (by simp[cF]) ?_;generalize I:aM _ Z _=HP;replace F:HP Z=some (bV [b.1]):=upS I;simp only[go_sem,F];rw[aa];exact .refl _
   rw[if_neg (by rw[hd];simp)]at aa;simp only[go_sem,Y];refine aG a5 ?_;generalize pR x ⟨b.1.type,0,[],l⟩=pr at *;simp only[go_sem,];refine dS so3 Y (by simp[]) ?_;generalize I:aM _ ag _=HP;replace E:=kpA I (by first|exact O|exact ne_j11_j5.symm) E;replace F:=kpA I (by first|exact J|exact ne_j11_j8.symm) F;replace Y:HP ag=some (bV [⟨b.1.type,b.1.set,pr.1,⟨b.1.type,0,[],l⟩⟩]):=upS I;simp only[go_sem,Y,E];refine⟨_,fun _=>(VW ⟨b.1.type,b.1.set,pr.1,⟨b.1.type,0,[],l⟩⟩ b.1 (by show l.length<=1048576;omega) (by omega)).q rfl,?_⟩;simp only[go_sem,];refine aA (fun hd=>?_) (fun hd=>?_)
   ·rw[if_pos hd]at aa;simp only[go_sem,E];refine aI F (by simp[cF]) ?_;generalize I:aM _ Z _=HP;replace F:HP Z=some (bV [b.1]):=upS I;simp only[go_sem,F];rw[aa];exact .refl _
   rw[if_neg (by rw[hd];simp)]at aa;simp only[go_sem,Y];refine aI F (by simp[cF]) ?_;generalize I:aM _ Z _=HP;replace F:HP Z=some (bV [⟨b.1.type,b.1.set,pr.1,⟨b.1.type,0,[],l⟩⟩]):=upS I;simp only[go_sem,F];rw[aa];exact .refl _
  ·have hc:¬(vs.length:Int)=0:=by simpa using hc
   rw[if_neg hc]at eW;subst eW;simp only[go_sem];refine⟨fun ρ H=>∃(k:Nat) (c:Column×Bool),k<=vs.length/\ρ 3=.sl (l.map aF)/\ρ 4=.rp (aC x) 0/\ρ 5=.op j5 0 0/\ρ 8=.op Z 0 0/\ρ 10=.sl (vs.map aF)/\ρ 16=int k/\ρ 2=boo c.2/\c=(vs.take k).foldl (fun b v=>eJ x f b (l++[v])) b/\(c.1.type=(kk:Int)/\c.1.set=(s:Int))/\c.1.route.visits.length<=16/\H j5=some (bV [c.1])/\H Z=some (bV [cA]),fun ρ _=>vs.length-aR (ρ 16),⟨0,b,Xaa _,rfl,rfl,rfl,rfl,rfl,(by simp only[go_sem];rfl),rfl,rfl,hb,hv,E,F⟩,?_⟩;rintro ρ H ⟨k,c,hk,e3,e4,e5,e8,aq,ar,e2,am,ai,a0,E,F⟩;simp only[go_sem,aq,ar];refine aA (fun af=>?_) (fun al=>?_)
   ·have af:=ltB (by simpa using af);obtain⟨v,ao⟩:=aK af;have b1:=inB af;obtain⟨ay,bh⟩:=bc v (Xac ao);have ah:=lH (f:=fun b v=>eJ x f b (l++[v])) (b:=b) ao;rw[<-am]at ah;have ah:(vs.take (k+1)).foldl (fun b v=>eJ x f b (l++[v])) b=eJ x f c (l++[v]):=ah;have hI:=IH c (l++[v]) ai a0 ay (by rw[Xae];simp;omega);have av:=wQ x f c (l++[v]);have a6:(eJ x f c (l++[v])).1.route.visits.length<=16:=HR h f c _ ai.2 a0 ay;generalize eJ x f c (l++[v])=S at *;simp only[go_sem,];refine fO fun aw au a8 (a9:au aw=some (KT [])) N=>?_
    replace E:=N E;obtain⟨ab,E⟩:=E;replace F:=N F;obtain⟨ac,F⟩:=F;simp only[go_sem,e3,];refine aZ a9 ⟨rfl,rfl⟩ (Al (fun v=>dJ v) _) (by simp;omega) (fun j2 aj=>?_);have U:j5≠j2:=bE E aj;have V:Z≠j2:=bE F aj;generalize I:aM (aM _ aw none) j2 _=HP;replace E:=kpB I U (by first|exact ab|exact ne_j80_j5.symm) E;replace F:=kpB I V (by first|exact ac|exact ne_j80_j8.symm) F;have R2:HP j2=some (KT l):=upS I;simp only[go_sem,aq,ar,aD ao,b1,];refine aZ R2 ⟨rfl,rfl⟩ (by simp only[go_sem]) (by simp;omega) (fun j3 ak=>?_);have ae:j5≠j3:=bE E ak;have ad:Z≠j3:=bE F ak;generalize I:aM (aM _ j2 none) j3 _=HP;replace E:=kpB I ae (by first|exact U|exact ne_j2_j5.symm) E;replace F:=kpB I ad (by first|exact V|exact ne_j2_j8.symm) F;have R3:HP j3=some (KT (l++[v])):=by rw[<-I,aB];exact congrArg some (It _ _)
    simp only[go_sem,e4,e5,e2,E];refine PC.useF [j3] (.cons _ _ _ _ (.refl _) (.cons _ _ _ _ (.refl _) (.cons _ _ _ _ (.refl _) (.cons _ _ _ _ (.row _ _ _ (by simp only[Xaw,if_true];exact R3) (ConvE.refl _)) .nil)))) hI ?_;rw[asH];have a7:j5≠j3:=fun e=>by rw[e,R3]at E;have:=congrArg (fun o:Option Row=>o.map (·.e)) E;simp at this
    have ba:Z≠j3:=fun e=>by rw[e,R3]at F;have:=congrArg (fun o:Option Row=>o.map (·.e)) F;simp at this
    replace E:aM HP j3 none j5=some (bV [c.1]):=(aJ _ _ _ _ a7).trans E;replace F:aM HP j3 none Z=some (bV [cA]):=(aJ _ _ _ _ ba).trans F;have bi:Z≠j5:=X.symm;generalize aM HP j3 none=H3 at *;simp only[go_sem,e5,];refine aI E (by simp[cF]) ?_;generalize I:aM _ j5 _=HP;replace F:=kpA I (by first|exact ne_j8_j5|exact X.symm) F;replace E:HP j5=some (bV [S.1]):=upS I;simp only[go_sem,e3,e4,e5,e8,aq,ar,E,F];simp only[go_sem,aQ k];exact⟨⟨k+1,S,af,rfl,rfl,ah.symm,⟨av.1.trans ai.1,av.2.trans ai.2⟩,a6,rfl⟩,by simp only[aN];omega⟩
   have al:=geB hk (by simpa using al);subst al;rw[Xad]at am;simp only[go_sem,e5,e8,e2,E];refine aI F (by simp[cF]) ?_;generalize I:aM _ Z _=HP;replace F:HP Z=some (bV [c.1]):=upS I;simp only[go_sem,e8,F];rw[<-am];exact .refl _
def acQ{x:Instance}{s kk:Nat}(h:SeaC x s kk)(Z:kk<x.types.length):PC prog 145 [.agg (aC x),int (kk:Nat),int (s:Nat)] (.tup [.agg (aU (rA x (kk:Nat) (s:Nat)).1),int (rA x (kk:Nat) (s:Nat)).2]):=by
 have hn:=h.cx.n8;have hT:=uX (x:=x) (set:=(s:Int)) (n:=x.orders.length) (by omega) (by exact_mod_cast h.cx.top) (by omega);have hE:=US x s h.cx.pos h.cx.top h.cx.n8;have hS:=IJ h 17 (⟨(kk:Int),(s:Int),0,⟨0,0,[],[]⟩⟩,false) [] ⟨rfl,rfl⟩ (Xaa _) Sq.kD.nil (by simp;omega);rw[<-abD h.acc h.cx Z];unfold V7;generalize eJ x 17 (⟨(kk:Int),(s:Int),0,⟨0,0,[],[]⟩⟩,false) []=S at *;refine pcd func145 rfl rfl ?_;simp only[go_sem];refine fO fun O J X (E:J O=some (bV [cA])) N=>?_
 simp only[go_sem];refine⟨boo true,fun _=>hE.q rfl,?_⟩;simp only[go_sem];apply aA <;> intro F
 ·exfalso;rw[decide_eq_false (by omega),decide_eq_false (by omega)]at F;cases F
 simp only[go_sem];refine aG hS ?_;simp only[go_sem];refine aL fun Y I=>?_
 simp only[go_sem];refine cJ I (by simp[cF]) fun U (R8:U Y=some (bV [S.1])) N=>?_
 replace E:=(N E).2;simp only[go_sem];apply aA <;> intro F
 ·rw[if_neg (by simpa using F)];simp only[go_sem];refine aI E (by simp only[go_sem]) ?_;generalize V:aM _ O _=HP;replace E:HP O=some (bV [cA]):=upS V;simp only[go_sem,E];exact .refl _
 ·rw[if_pos (by simpa using F)];simp only[go_sem,R8];refine aI E (by simp[cF]) ?_;generalize V:aM _ O _=HP;replace E:HP O=some (bV [S.1]):=upS V;simp only[go_sem,E];exact .refl _
def amS(x:Instance)(ae:tU x=[])(Z:Acc x)(ab:InsB x)(hn:x.orders.length<=8)(ht:x.types.length<=1000):PC prog 84 [.agg (aC x)] (.tup [.sl ((tP x).map aU),int 0]):=by
 have h8:2^x.orders.length<=256:=Xam (Xau (by decide) hn) (by decide);have hp:0<2^x.orders.length:=Nat.two_pow_pos _;refine pcb (fun t=>t == 6) func84 rfl rfl ?_;simp only[go_sem];refine⟨fun ρ H=>∃k:Nat,k<=x.orders.length/\ρ 1=.rp (aC x) 0/\ρ 4=int (2^k:Nat)/\ρ 5=int (k:Nat)/\H=bQ,fun ρ _=>x.orders.length-aR (ρ 5),⟨0,Xaa _,rfl,by simp only[go_sem];rfl,(by simp only[go_sem];rfl),rfl⟩,?_⟩;rintro ρ H ⟨k,hk,F,O,e5,rfl⟩;simp only[go_sem,F,e5,Xab];refine aA (fun E=>?_) (fun I=>?_)
 ·simp only[Xai,decide_eq_true_eq]at E;have ao:0<2^k:=Nat.two_pow_pos _;have ap:2^k<=2^x.orders.length:=Xau (by decide) (by omega);have hw:IntKind.i64.wrap (((2^k:Nat):Int)*2)=((2^(k+1):Nat):Int):=by rw[aW (by omega),Xbk];omega
  simp only[go_sem,F,O,e5,hw,aQ k];exact⟨⟨k+1,by omega,rfl,rfl⟩,by simp only[aN];omega⟩
 have af:k=x.orders.length:=by simp only[Xcx,decide_eq_false_iff_not]at I;omega
 subst af;simp only[go_sem];refine fO fun j ad al (R:ad j=some (bV [])) N=>?_
 simp only[go_sem];refine⟨fun ρ H=>∃(k:Nat) (j:Nat),k<=x.types.length/\ρ 1=.rp (aC x) 0/\ρ 4=int (2^x.orders.length:Nat)/\ρ 7=int k/\ρ 6=.os j/\H j=some (bV (C7 x k)),fun ρ _=>x.types.length-aR (ρ 7),⟨0,j,Xaa _,by simp only[go_sem,F,],O,(by simp only[go_sem];rfl),rfl,R⟩,?_⟩;rintro ρ H ⟨k,j,hk,F,O,U,V,R⟩;simp only[go_sem,F,U];refine aA (fun E=>?_) (fun I=>?_)
 ·have E:=ltB (by simpa using E);have hs:=Dz x k;have ak:=vE x k;have an:k*2^x.orders.length<=256000:=Xam (Nat.mul_le_mul (show k<=1000 by omega) h8) (by decide);generalize aq:C7 x k=A at *;simp only[go_sem];refine⟨fun ρ H=>∃m j:Nat,m<=2^x.orders.length-1/\ρ 1=.rp (aC x) 0/\ρ 4=int (2^x.orders.length:Nat)/\ρ 7=int (k:Nat)/\ρ 8=int (m+1:Nat)/\ρ 6=.os j/\H j=some (bV (A++rY x k m)),fun ρ _=>2^x.orders.length-aR (ρ 8),⟨0,j,Xaa _,by simp only[go_sem,F,],by simp only[go_sem,O,],U,(by simp only[go_sem];rfl),V,by simpa[rY]using R⟩,?_⟩;rintro ρ H ⟨m,j,hm,F,O,U,e8,V,R⟩;simp only[go_sem,O,e8];refine aA (fun ac=>?_) (fun ai=>?_)
  ·have X:m+1<2^x.orders.length:=by have:=of_decide_eq_true ac;omega
   have J:=BA x k m;have aj:=AT x k m;have hB:=acQ (x:=x) (s:=m+1) (kk:=k) ⟨⟨ae,hn,by omega,X⟩,Z,ab⟩ E;have ah:GU x k (m+1)=if((rA x (k:Nat) ((m+1:Nat):Int)).2 == 0)=true then[(rA x (k:Nat) ((m+1:Nat):Int)).1]else[]:=rfl
   rw[ah]at J;generalize rA x (k:Nat) ((m+1:Nat):Int)=B at *;generalize rY x k m=KM at *;simp only[go_sem,F,U,e8];refine aG hB ?_;simp only[go_sem];refine aL fun i9 Y=>?_
   simp only[go_sem];refine cJ Y (by simp[cF]) fun aa (R9:aa i9=some (bV [B.1])) N=>?_
   replace R:=(N R).2;simp only[go_sem];apply aA <;> intro hc
   ·rw[if_pos hc]at J;simp only[go_sem,V,R9];refine aZ R ⟨rfl,rfl⟩ (by simp only[go_sem]) (by simp;omega) (fun j2 am=>?_);simp only[go_sem,F,O,U,e8,mS (show m+1<=4611686018427387904 by omega)];refine⟨⟨m+1,j2,by omega,rfl,rfl,?_⟩,by simp only[aN];omega⟩;rw[J,<-Xax,aB];exact congrArg some (JD _ _)
   ·rw[if_neg (by rw[hc];simp),Xak]at J;simp only[go_sem,F,O,V,U,e8,mS (show m+1<=4611686018427387904 by omega)];refine⟨⟨m+1,j,by omega,rfl,rfl,?_⟩,by simp only[aN];omega⟩;rw[J];exact R
  ·have ag:m=2^x.orders.length-1:=by have:=of_decide_eq_false ai;omega
   subst ag;simp only[go_sem,F,O,V,U,aQ k];refine⟨⟨k+1,j,E,rfl,rfl,?_⟩,msr E⟩;rw[hs];exact R
 have I:=geB hk (by simpa using I);subst I;simp only[go_sem,V];exact .tup _ _ (.cons _ _ _ _ (.row _ _ _ R (ConvE.refl _)) (ConvL.refl _))
end Rx
namespace Nu
open Go.Proofs.Tryz
open Go.Aw Go.Aw.D Go.Proofs Ty Go.Nu
open Dec (nN eH fI eF tY mH)
def YC{x:Instance}{d:Decision}(h:Dec.eH x d=0)(O:x.orders.length<=62)(s:Int):fI d s= !eF d s:=by
 have E:∀i:Int,Dec.vU x i=true->Dec.dN s i=mH s i:=by intro i hi;unfold Dec.vU at hi;simp only[Xai,decide_eq_true_eq]at hi;unfold Dec.dN mH;rw[decide_eq_true hi.1,decide_eq_true (show i<=62 by omega)];rfl
 unfold Dec.eH at h;unfold fI eF;by_cases h1:d.kind=1
 ·rw[if_pos (.inl h1)]at h;rw[if_pos h1,if_pos h1];split at h
  ·next F=>
   simp only[Xai]at F;rw[E d.a F.1.1,E d.b F.1.2];cases mH s d.a <;> cases mH s d.b <;> rfl
  ·cases h
 ·by_cases I:d.kind=2
  ·rw[if_pos (.inr I)]at h;rw[if_neg h1,if_pos I,if_neg h1,if_pos I];split at h
   ·next F=>
    simp only[Xai]at F;rw[E d.a F.1.1,E d.b F.1.2];cases mH s d.a <;> cases mH s d.b <;> rfl
   ·cases h
  ·by_cases J:d.kind=6
   ·rw[if_neg (by omega),if_pos (.inr J)]at h;rw[if_neg h1,if_neg I,if_pos J,if_neg h1,if_neg I,if_pos J];split at h
    ·next F=>rw[E d.a F]
    ·cases h
   ·rw[if_neg h1,if_neg I,if_neg J,if_neg h1,if_neg I,if_neg J];rfl
def aoN{x:Instance}{ds:List Decision}(h:nN x ds=0):∀d∈ds,Dec.eH x d=0:=by
 unfold nN at h;split at h
 ·cases h
 ·exact fun d E=>Dec.xW h _ (Xbe.2 ⟨d,E,rfl⟩)
def V9(x:Instance)(cols:List Column)(ds:List Decision)(ac:nN x ds=0)(hx:x.orders.length<=62)(hl:cols.length<=1048576)(hd:ds.length<=1048576)(ad:∀d∈ds,tY d)(hs:∀c∈cols,0<=c.set/\c.set<=9223372036854775807):
  PC prog 85 [.sl (cols.map aU),.sl (ds.map aS)] (.sl ((inM cols ds).map aU)):=by
 refine pcb (fun t=>t == 5) func85 rfl rfl ?_;simp only[go_sem];refine fO fun j ab Z (R:ab j=some (XZ [])) N=>?_
 clear N Z;simp only[go_sem];refine⟨fun ρ H=>∃(k:Nat) (j:Nat),k<=cols.length/\ρ 0=.sl (cols.map aU)/\ρ 1=.sl (ds.map aS)/\ρ 6=int k/\ρ 5=.os j/\H j=some (XZ (inM (cols.take k) ds)),fun ρ _=>cols.length-aR (ρ 6),⟨0,j,Xaa _,rfl,rfl,(by simp only[go_sem];rfl),rfl,R⟩,?_⟩;rintro ρ H ⟨k,j,hk,O,X,U,e5,R⟩;simp only[go_sem,O,U];refine aA (fun E=>?_) (fun I=>?_)
 ·have E:=ltB (by simpa using E);obtain⟨c,V⟩:=aK E;have b1:=inB E;have J:=hs c (Xac V);have F:inM (cols.take (k+1)) ds=inM (cols.take k) ds++(if(ds.all fun d=>fI d c.set)=true then[c]else[]):=xK (p:=fun c:Column=>ds.all fun d=>fI d c.set) V;have ae:(inM (cols.take k) ds).length<=k:=aaG _ _ _;have Y:(ds.all fun d=> !eF d c.set)=ds.all fun d=>fI d c.set:=by rw[Xap,Xaj,Xaj];exact forall_congr' fun d=>forall_congr' fun aa=>by rw[YC (aoN ac d aa) hx]
  simp only[go_sem,O,X,U,aD V,b1];refine aG (Dec.Vm ds c hd ad J.1 J.2) ?_;rw[Y];simp only[go_sem,];refine aA (fun hb=>?_) (fun hb=>?_)
  ·rw[if_pos hb]at F;simp only[go_sem,O,U,e5,aD V,b1];refine aZ R ⟨rfl,rfl⟩ ⟨rfl,trivial⟩ (by simp only[Xab,Xah,List.length_nil];omega) (fun j' af=>?_);simp only[go_sem,O,X,U,aQ k];refine⟨⟨k+1,j',E,rfl,rfl,?_⟩,by simp only[aN];omega⟩;rw[F];exact kV rfl
  ·rw[if_neg (by rw[hb];simp),Xak]at F;simp only[go_sem,O,X,U,e5,aQ k];exact⟨⟨k+1,j,E,rfl,rfl,by rw[F];exact R⟩,by simp only[aN];omega⟩
 have I:=geB (by omega) (by simpa using I);subst I;rw[Xad]at R;simp only[go_sem,e5];exact .row _ _ _ R (ConvE.refl _)
end Nu
namespace Nu.Ps
open Go.Proofs.Tryz
open Go.Aw Go.Aw.D Go.Proofs Ty Go.Nu Go.So
open Dec (nN eH fI eF tY mH)
open Sq (EvalB BestQ tP mO bV fD fT)
def amA{x:Instance}(h:Acc x):Sq.InsB x:=by have F:=h.types;have J:=h.orders;have I:=h.apart;have E:=h.before;exact⟨Rx.akA h,by omega,by omega,by omega,by omega⟩
def asG{a:Ask3}(h:Ky a=true):tU a.x=[]:=by unfold Ky Qm at h;simp only[Xai,Xay,Xag,decide_eq_false_iff_not]at h;have:=h.1.2;exact Xcg.1 (by omega)
def TL{x:Instance}{c:Column}(F:x.orders.length<=8)(h:c∈tP x):c.route.rests.length<=1048576/\c.route.visits.length<=1048576:=by obtain⟨k,s,h⟩:=mO F h;obtain⟨l,E,_,_,I⟩:=h.is;have:=Sq.uX (x:=x) (Int.le_of_lt h.pos) h.top (by omega);rw[E];exact⟨Xaa _,by show l.length<=1048576;omega⟩
def Qp(x:Instance)(ds:List Decision)(I:tU x=[])(U:x.orders.length<=8)(Y:ds.length<=1048576)(X:∀d∈ds,tY d):
  PC prog 48 [.agg (aC x),.sl (ds.map aS)] (.tup [.sl ((dM x ds).1.map aU),int (dM x ds).2]):=by
 have E:=UU I;have Z:=E.types;have hA:=Rx.amS x I (UU I) (amA E) U (by omega);have F:=Sq.vE x x.types.length;have h8:2^x.orders.length<=256:=Xam (Xau (by decide) U) (by decide);have V:x.types.length*2^x.orders.length<=256000:=Xam (Nat.mul_le_mul (show x.types.length<=1000 by omega) h8) (by decide);have F:(tP x).length<=256000:=Xam F V;unfold dM;refine pcd func48 rfl rfl ?_;simp only[go_sem];refine aG (Dec.XH x ds Y) ?_;simp only[go_sem];apply aA <;> intro J
 ·rw[if_pos J];simp only[go_sem];exact .refl _
 have O:nN x ds=0:=by simpa using J
 rw[if_neg (by rw[J];simp)];simp only[go_sem];refine aG hA ?_;simp only[go_sem];refine aA (fun J=>(by cases J)) (fun _=>?_);simp only[go_sem];refine aG (V9 x (tP x) ds O (by omega) (by omega) Y X fun c hc=>(OQ U hc).b.set) ?_;simp only[go_sem];exact .refl _
end Nu.Ps
namespace Nu.Ps
open Go.Proofs.Tryz
open Go.Aw Go.Aw.D Go.Proofs Ty Go.Nu Go.So
open Dec (nN eH fI eF tY mH)
open Sq (EvalB BestQ tP mO bV fD fT)
structure RefOk(x:Instance)(d:Nat)(cuts:List Cut)(ds:List Decision)(dual:List ByteArray):Prop where
 ok:PrOk x d
 ck:tU x=[]
 m:MIn x cuts ds
 q:∀q∈cuts,q.set<=9223372036854775807
 dec:∀d∈ds,tY d
 len:dual.length<=1048576
 size:∀s∈dual,s.size<=1048576
section
variable{x:Instance}{d:Nat}{cuts:List Cut}{ds:List Decision}{dual:List ByteArray}
def ZN(h:RefOk x d cuts ds dual):
  PC prog 21 [.agg (aC x),.sl (cuts.map dV),.sl (ds.map aS),.sl (dual.map Go.Aw.D.fE)] (int (nA x d cuts ds dual)):=by
 have h3:=h.m.cl;have h4:=h.m.dl;unfold nA;refine pcd func21 rfl rfl ?_;simp only[go_sem];refine aG (Dec.XH x ds h4) ?_;simp only[go_sem];apply aA <;> intro F
 ·rw[if_pos F];simp only[go_sem];exact .refl _
 rw[if_neg (by rw[F];simp)];simp only[go_sem];refine⟨fun ρ H=>∃(k:Nat),k<=cuts.length/\ρ 1=.sl (cuts.map dV)/\ρ 2=.sl (ds.map aS)/\ρ 3=.sl (dual.map Go.Aw.D.fE)/\ρ 4=.rp (aC x) 0/\ρ 10=int k/\(∀e∈(cuts.map (pT x d)).take k,e=0),fun ρ _=>cuts.length-aR (ρ 10),⟨0,Xaa _,rfl,rfl,rfl,rfl,(by simp only[go_sem];rfl),by simp⟩,?_⟩;rintro ρ H ⟨k,hk,U,e2,Z,Y,I,V⟩;simp only[go_sem,U,I];refine aA (fun E=>?_) (fun J=>?_)
 ·have E:=ltB (by simpa using E);obtain⟨q,X⟩:=aK E;have b1:=inB E;have aa:=h.q q (Xac X);have O:(cuts.map (pT x d))[k]?=some (pT x d q):=by rw[List.getElem?_map,X];rfl
  simp only[go_sem];refine lQ [(0,true),(1,true),(2,true),(3,true),(4,true),(5,false),(6,true)] (by kernel_rfl) ?_;simp only[go_sem,U,Y,I,aD X,b1,Xab];refine aG (abE x d q h.ok.lo h.ok.ne (by omega)) ?_;simp only[go_sem];apply aA <;> intro F
  ·have he:=Dec.oM V O F;rw[if_pos (by rw[he];simpa using F),he];simp only[go_sem];exact .refl _
  ·simp only[go_sem,U,e2,Z,Y,I,aQ k];exact⟨⟨k+1,E,rfl,gR (p:=fun e:Int=>e=0) O (by simpa using F) V⟩,msr E⟩
 have J:=geB hk (by simpa using J);subst J;rw[Xan (by rw[Xab];exact Xaf _)]at V;rw[if_neg (by rw[Dec.mX V];simp)];simp only[go_sem,U,e2,Z,Y,Xab];refine aG (adX x cuts ds h.m) ?_;simp only[go_sem];apply aA <;> intro F
 ·rw[if_pos F];simp only[go_sem];exact .refl _
 ·rw[if_neg (by rw[F];simp)];simp only[go_sem];exact .refl _
abbrev ajF(l:List Priced):Row:=⟨72,8,l.map cG⟩
def arN(l:List Priced)(p:Priced):(⟨72,8,l.map cG++[cG p]⟩:Row)=ajF (l++[p]):=by show _=(⟨72,8,(l++[p]).map cG⟩:Row);rw[Xal];rfl
def aoZ(h:RefOk x d cuts ds dual)(hq:CutsB cuts):
  PC prog 22 [.agg (aC x),.sl (cuts.map dV),.sl (ds.map aS),.sl (dual.map Go.Aw.D.fE)] (.tup [.sl ((lU x cuts ds dual).1.map cG),int (lU x cuts ds dual).2]):=by
 have Y:=Az x ds h.ok.n8 h.ok.ty;have aa:∀c∈(dM x ds).1,ColQ x c:=fun c V=>OQ h.ok.n8 (AK V).1
 have J:lU x cuts ds dual=(if((dM x ds).2 != 0)=true then([],(dM x ds).2)
  else if Dec.gW ((dM x ds).1.map fun c=>(cO x c cuts ds dual).2)≠0 then([],Dec.gW ((dM x ds).1.map fun c=>(cO x c cuts ds dual).2))
  else((dM x ds).1.map fun c=>⟨c,(cO x c cuts ds dual).1⟩,0)):=rfl
 have hA:=Qp x ds h.ck h.ok.n8 h.m.dl h.dec;refine pcb (fun t=>t == 12) func22 rfl rfl ?_;simp only[go_sem];generalize lU x cuts ds dual=RP at *;refine aG hA ?_;generalize dM x ds=A at *;obtain⟨A,e⟩:=A;simp only at Y aa J;simp only[go_sem];refine aA (fun O=>?_) (fun O=>?_)
 ·rw[if_pos O]at J;simp only[go_sem];rw[J];exact .refl _
 rw[if_neg (by rw[O];simp)]at J;simp only[go_sem];refine fO fun j ac ae (R:ac j=some (ajF [])) N=>?_
 simp only[go_sem];refine⟨fun ρ H=>∃(k:Nat) (j:Nat),k<=A.length/\ρ 1=.sl (cuts.map dV)/\ρ 2=.sl (ds.map aS)/\ρ 3=.sl (dual.map Go.Aw.D.fE)/\ρ 4=.rp (aC x) 0/\ρ 10=.sl (A.map aU)/\ρ 13=int k/\ρ 12=.os j/\H j=some (ajF ((A.take k).map fun c=>⟨c,(cO x c cuts ds dual).1⟩))/\(∀e∈(A.map fun c=>(cO x c cuts ds dual).2).take k,e=0),fun ρ _=>A.length-aR (ρ 13),⟨0,j,Xaa _,rfl,rfl,rfl,rfl,rfl,(by simp only[go_sem];rfl),rfl,R,by simp⟩,?_⟩;rintro ρ H ⟨k,j,hk,e1,e2,e3,e4,F,I,X,R,hz⟩;simp only[go_sem,F,I];refine aA (fun E=>?_) (fun U=>?_)
 ·have E:=ltB (by simpa using E);obtain⟨c,V⟩:=aK E;have b1:=inB E;have ab:=aa c (Xac V);have Z:(A.map fun c=>(cO x c cuts ds dual).2)[k]?=some (cO x c cuts ds dual).2:=by rw[List.getElem?_map,V];rfl
  have ad:((A.take (k+1)).map fun c=>(⟨c,(cO x c cuts ds dual).1⟩:Priced))=((A.take k).map fun c=>⟨c,(cO x c cuts ds dual).1⟩)++[⟨c,(cO x c cuts ds dual).1⟩]:=by rw[bA V,Xal];rfl
  have ag:((A.take k).map fun c=>(⟨c,(cO x c cuts ds dual).1⟩:Priced)).length<=A.length:=by rw[Xab,Xas];omega
  generalize ((A.take k).map fun c=>(⟨c,(cO x c cuts ds dual).1⟩:Priced))=L at *;simp only[go_sem,];refine lQ [(0,true),(1,true),(2,true),(3,true),(4,true),(5,true),(6,true),(7,true),(8,false),(9,true),(10,true),(11,true),(12,true),(13,true)] (by kernel_rfl) ?_;simp only[go_sem,e1,e2,e3,e4,F,I,aD V,b1,Xab];refine aG (RQ x c cuts ds dual h.m ab.b hq ab.price h.len h.size) ?_;simp only[go_sem,];refine aA (fun O=>?_) (fun O=>?_)
  ·have he:=Dec.oM hz Z O;rw[if_pos (by rw[he];simpa using O),he]at J;simp only[go_sem];rw[J];exact .refl _
  ·simp only[go_sem,F,I,X,aD V,b1,Xab];refine Sq.HL (a:=cG ⟨c,(cO x c cuts ds dual).1⟩) rfl ⟨jX _,?_⟩;refine aZ R ⟨rfl,rfl⟩ (by simp only[go_sem]) (by simp;omega) (fun j2 af=>?_);simp only[go_sem,e1,e2,e3,e4,F,I,aQ k];refine⟨⟨k+1,j2,E,rfl,rfl,?_,gR (p:=fun e:Int=>e=0) Z (by simpa using O) hz⟩,by simp only[aN];omega⟩;rw[ad,aB];exact congrArg some (arN _ _)
 have U:=geB hk (by simpa using U);subst U;rw[Xan (by rw[Xab];exact Xaf _)]at hz;rw[if_neg (by rw[Dec.mX hz];simp)]at J;rw[Xad]at R;simp only[go_sem,X];rw[J];exact .tup _ _ (.cons _ _ _ _ (.row _ _ _ R (ConvE.refl _)) (ConvL.refl _))
def aeK(h:RefOk x d cuts ds dual):
  PC prog 8 [.agg (aC x),.sl (cuts.map dV),.sl (ds.map aS),.sl (dual.map Go.Aw.D.fE)] (.tup [.agg (aU (tM x d cuts ds dual).1),str (tM x d cuts ds dual).2.1,int (tM x d cuts ds dual).2.2]):=by
 have E:tM x d cuts ds dual=(if(nA x d cuts ds dual != 0)=true then(Sq.cA,emp,nA x d cuts ds dual)
  else if((lU x cuts ds dual).2 != 0)=true then(Sq.cA,emp,(lU x cuts ds dual).2)
  else match (lU x cuts ds dual).1 with
  | []=>(Sq.cA,emp,24)
  | p::l=>((tN p l).column,(tN p l).reduced,0)):=rfl
 generalize tM x d cuts ds dual=RP at *;refine pcd func8 rfl rfl ?_;simp only[go_sem];refine fO fun V ai ak (F:ai V=some (bV [Sq.cA])) N=>?_
 clear N ak;simp only[go_sem];refine aG (ZN h) ?_;simp only[go_sem];apply aA <;> intro Y
 ·rw[if_pos Y]at E;simp only[go_sem];refine aI F (by simp only[go_sem]) ?_;generalize E:aM _ V _=HP;replace F:HP V=some (bV [Sq.cA]):=upS E;clear E;simp only[go_sem,F];rw[E];exact .refl _
 rw[if_neg (by rw[Y];simp)]at E;have al:CutsB cuts:=⟨fun q aj=>⟨Dn (B6 (by simpa using Y) q aj),h.q q aj⟩⟩;have X:∀p∈(lU x cuts ds dual).1,okP p:=fun p hp=>IS hp
 have aa:=HY x cuts ds dual h.ok.n8 h.ok.ty;simp only[go_sem];refine aG (aoZ h al) ?_;generalize lU x cuts ds dual=A at *;obtain⟨A,e⟩:=A;simp only at E X aa;simp only[go_sem];apply aA <;> intro Y
 ·rw[if_pos Y]at E;simp only[go_sem];refine aI F (by simp only[go_sem]) ?_;generalize E:aM _ V _=HP;replace F:HP V=some (bV [Sq.cA]):=upS E;clear E;simp only[go_sem,F];rw[E];exact .refl _
 rw[if_neg (by rw[Y];simp)]at E;simp only[go_sem,Xab];apply aA <;> intro Y
 ·have h0:A.length=0:=by simpa using Y
  obtain rfl:=Xcg.1 h0;simp only[go_sem];refine aI F (by simp only[go_sem]) ?_;generalize E:aM _ V _=HP;replace F:HP V=some (bV [Sq.cA]):=upS E;clear E;simp only[go_sem,F];rw[E];exact .refl _
 have h0:A.length≠0:=by simpa using Y
 obtain⟨p,l,rfl⟩:∃p l,A=p::l:=by
  cases A with
  | nil=>exact absurd rfl h0
  | cons p l=>exact⟨p,l,rfl⟩
 simp only at E;obtain⟨PL,hPL⟩:∃PL,PL=p::l:=⟨_,rfl⟩;have ab:PL.length=l.length+1:=by rw[hPL];rfl
 have ah:PL[0]?=some (tN p (l.take 0)):=by rw[hPL];rfl
 rw[<-hPL]at X;rw[<-hPL,ab]at aa;rw[<-hPL];simp only[go_sem];refine⟨fun ρ H=>∃(k at_:Nat),k<=l.length/\ρ 8=.op V 0 0/\ρ 12=.sl (PL.map cG)/\ρ 13=int (at_:Nat)/\ρ 14=int (k+1:Nat)/\PL[at_]?=some (tN p (l.take k))/\H V=some (bV [Sq.cA]),fun ρ _=>l.length+1-aR (ρ 14),⟨0,0,Xaa _,rfl,rfl,(by simp only[go_sem];rfl),(by simp only[go_sem];rfl),ah,F⟩,?_⟩;clear F;rintro ρ H ⟨k,at_,hk,e8,J,ae,Z,I,F⟩;simp only[go_sem,J,Z,Xab,ab];refine aA (fun O=>?_) (fun ac=>?_)
 ·have O:k<l.length:=by have:=of_decide_eq_true O;omega
  obtain⟨q,hq⟩:=aK O;have ad:PL[k+1]?=some q:=by rw[hPL];simpa using hq
  have hm:=Nd (p:=p) hq;have af:okP q:=X q (Xac ad);have ag:okP (tN p (l.take k)):=X _ (Xac I);have b1:=inB (show k+1<PL.length by omega);have U:=(List.getElem?_eq_some_iff.1 I).1;have b2:=inB U;generalize tN p (l.take k)=M at *;have g1:=aD (f:=cG) ad;have g2:=aD (f:=cG) I;simp only[go_sem];refine lQ [(0,true),(1,true),(2,true),(3,true),(4,true),(5,true),(6,true),(7,true),(8,true),(9,true),(10,false),(11,true)] (by kernel_rfl) ?_;simp only[go_sem,J,ae,Z,g1,g2,b1,b2,Xab];refine aG (nX q.reduced M.reduced (Bz af) (Bz ag)) ?_;simp only[go_sem];rw[D0 af ag];apply aA <;> intro hc
  ·rw[if_pos hc]at hm;simp only[go_sem,e8,J,Z,mS (show k+1<=4611686018427387904 by omega)];exact⟨⟨k+1,k+1,O,rfl,rfl,by rw[hm];exact ad,F⟩,by simp only[aN];omega⟩
  ·rw[if_neg (by rw[hc];simp)]at hm;simp only[go_sem,e8,J,ae,Z,mS (show k+1<=4611686018427387904 by omega)];exact⟨⟨k+1,at_,O,rfl,rfl,by rw[hm];exact I,F⟩,by simp only[aN];omega⟩
 have ac:k=l.length:=by have:=of_decide_eq_false ac;omega
 subst ac;rw[Xad]at I;have U:=(List.getElem?_eq_some_iff.1 I).1;have b2:=inB U;have g2:=aD (f:=cG) I;generalize tN p l=M at *;simp only[go_sem];refine lQ [(0,true),(1,true),(2,true),(3,true),(4,true),(5,true),(6,true),(7,true),(8,true),(9,true),(10,false),(11,true),(12,true)] (by kernel_rfl) ?_;simp only[go_sem,e8,J,ae,g2,b2,Xab];refine aI F (by simp[cF]) ?_;generalize E:aM _ V _=HP;replace F:HP V=some (bV [M.column]):=upS E;clear E;simp only[go_sem,e8,F];rw[E];exact .refl _
end
end Nu.Ps
namespace Nu.Ps
open Go.Proofs.Tryz
open Go.Aw Go.Aw.D Go.Proofs Ty Go.Nu Go.So
open Dec (nN eH fI eF tY mH)
open Sq (EvalB BestQ tP mO bV fD fT)
def UD{x:Instance}{d:Nat}{cuts:List Cut}{ds:List Decision}{dual:List ByteArray}(J:x.orders.length<=8):(tM x d cuts ds dual).1.route.rests.length<=1048576/\(tM x d cuts ds dual).1.route.visits.length<=1048576:=by
 have E:Sq.cA.route.rests.length<=1048576/\Sq.cA.route.visits.length<=1048576:=by decide
 have F:∀p∈(lU x cuts ds dual).1,p.column.route.rests.length<=1048576/\p.column.route.visits.length<=1048576:=fun p I=>TL J (AK (Xk I).1).1
 unfold tM;split
 ·exact E
 split
 ·exact E
 generalize (lU x cuts ds dual).1=A at *;cases A with
 | nil=>exact E
 | cons p l=>exact F _ (Ke l p)
structure AskIn(a:Ask3):Prop where
 x:InB a.x
 len:a.dual.length<=1048576
 size:∀s∈a.dual,s.size<=1048576
 q:∀q∈a.cuts,q.set<=9223372036854775807
 dec:∀d∈a.d,tY d
def ajZ{a:Ask3}(h:AskIn a)(F:Ky a=true):RefOk a.x (kN a.x.types).toNat a.cuts a.d a.dual:=by obtain⟨E,V,I,O,U,J,_⟩:=alS F;exact⟨aoO E (by omega),asG F,⟨by omega,by omega,by omega,by omega⟩,h.q,h.dec,h.len,h.size⟩
def Ko(J:PC prog 6 [] (boo true))(a:Ask3)(h:AskIn a):PC prog 3 [.agg (kJ a)] (boo true):=by
 have Y:=awE a h.x h.len;refine pcd func3 rfl rfl ?_;simp only[go_sem];refine aG Y ?_;simp only[go_sem];apply aA <;> intro Z
 ·simp only[go_sem];refine aG J ?_;simp only[go_sem];exact .refl _
 have hf:Ky a=true:=by simpa using Z
 have E:=ajZ h hf;have hO:=Xf a.x _ a.cuts a.d a.dual E.ok E.m E.q E.len E.size (abY _ _ _ _ _ E.ok E.m);have hB:=aeK E;obtain⟨X,s2⟩:=UD (x:=a.x) (d:=(kN a.x.types).toNat) (cuts:=a.cuts) (ds:=a.d) (dual:=a.dual) E.ok.n8;generalize tM a.x (kN a.x.types).toNat a.cuts a.d a.dual=B at *;have hS:=Sh B.1 X s2;simp only[go_sem];refine aG hO ?_;simp only[go_sem];refine aL fun i3 I=>?_
 simp only[go_sem];refine cJ I (by simp[cF]) fun O (V:O i3=some (bV [B.1])) N=>?_
 clear N I;simp only[go_sem];refine aG hB ?_;simp only[go_sem];refine aL fun i6 F=>?_
 simp only[go_sem];refine cJ F (by simp[cF]) fun U (R6:U i6=some (bV [B.1])) N=>?_
 replace V:=(N V).2;clear N F;simp only[go_sem,R6,V];refine aG hS ?_;simp only[go_sem];refine⟨boo true,fun _=>J.q rfl,?_⟩;simp only[go_sem];exact cB (by simp)
end Nu.Ps
namespace Nu.Ps
open Go.Proofs.Tryz
open Go.Aw Go.Aw.D Go.Proofs Ty Go.Nu Go.So
open Dec (nN eH fI eF tY mH)
open Sq (EvalB BestQ tP mO bV fD)
def EP(k r:Int):List AV:=[.sl [],int k,int r]
def zO(m:Nat)(ts:List VType):List (List AV):=List.replicate m (EP 2 1)++ts.map fun t=>EP 1 t.count
abbrev RN(L:List (List AV)):Row:=⟨184,3,L⟩
def apC(x:Instance)(hx:x.orders.length<=62)(ht:x.types.length<=1000):PC prog 71 [.agg (aC x),.sl [],.sl []] (.sl (zO (cZ (KL x:Nat)).length x.types)):=by
 have ak:(cZ (KL x:Nat)).length<=63:=by unfold cZ qO;rw[Xab];exact Xam (Xcp _ _) (by rw[Xbd];exact Xaf _)
 refine pcb (fun t=>t == 7) func71 rfl rfl ?_;simp only[go_sem];refine fO fun j ag aj (R:ag j=some (RN [])) N=>?_
 simp only[go_sem];refine aG (agO x hx) ?_;simp only[go_sem];refine aG (mU (KL x:Nat)) ?_;generalize cZ (KL x:Nat)=M at *;simp only[go_sem,Xab];refine⟨fun ρ H=>∃(k:Nat) (j:Nat),k<=M.length/\ρ 1=.sl []/\ρ 2=.sl []/\ρ 3=.rp (aC x) 0/\ρ 19=int (M.length:Nat)/\ρ 20=int k/\ρ 7=.os j/\H j=some (RN (List.replicate k (EP 2 1))),fun ρ _=>M.length-aR (ρ 20),⟨0,j,Xaa _,rfl,rfl,rfl,rfl,(by simp only[go_sem];rfl),rfl,R⟩,?_⟩;rintro ρ H ⟨k,j,hk,V,O,e3,ab,U,I,R⟩;simp only[go_sem,ab,U];refine aA (fun E=>?_) (fun F=>?_)
 ·have E:=ltB (by simpa using E);simp only[go_sem,I];refine aZ R ⟨rfl,rfl⟩ (by simp only[go_sem]) (by simp;omega) (fun j2 ae=>?_);simp only[go_sem,V,O,e3,ab,U,aQ k];refine⟨⟨k+1,j2,E,rfl,rfl,?_⟩,by simp only[aN];omega⟩;rw[aB,List.replicate_succ'];rfl
 have F:=geB hk (by simpa using F);subst F;simp only[go_sem,e3,Xab];refine⟨fun ρ H=>∃(k:Nat) (j:Nat),k<=x.types.length/\ρ 1=.sl []/\ρ 2=.sl []/\ρ 28=.sl (x.types.map bF)/\ρ 29=int (x.types.length:Nat)/\ρ 30=int k/\ρ 7=.os j/\H j=some (RN (zO M.length (x.types.take k))),fun ρ _=>x.types.length-aR (ρ 30),⟨0,j,Xaa _,by simp only[go_sem,V,],by simp only[go_sem,O,],by simp only[go_sem,],by simp only[go_sem,],(by simp only[go_sem,];rfl),I,by simpa[zO]using R⟩,?_⟩;rintro ρ H ⟨k,j,hk,V,O,aa,Y,J,I,R⟩;simp only[go_sem,Y,J];refine aA (fun E=>?_) (fun F=>?_)
 ·have E:=ltB (by simpa using E);obtain⟨t,hv⟩:=aK E;have b1:=inB E;have hs:zO M.length (x.types.take (k+1))=zO M.length (x.types.take k)++[EP 1 t.count]:=by unfold zO;rw[bA hv,Xal,Xax];rfl
  have hl:(zO M.length (x.types.take k)).length=M.length+k:=by unfold zO;rw[Xae,Xct,Xab,Xas];omega
  generalize zO M.length (x.types.take k)=L at *;simp only[go_sem,aa,J,aD hv,b1];refine aL fun i9 X=>?_
  simp only[go_sem,];refine cJ X (by simp[iP]) fun Z (R9:Z i9=some (auV t)) N=>?_
  replace R:=N R;obtain⟨ac,R⟩:=R;simp only[go_sem,I,R9];refine aZ R ⟨rfl,rfl⟩ (by simp only[go_sem]) (by simp;omega) (fun j2 ae=>?_);simp only[go_sem,V,O,aa,Y,J,aQ k];refine⟨⟨k+1,j2,E,rfl,rfl,?_⟩,by simp only[aN];omega⟩;rw[aB,hs];rfl
 have F:=geB hk (by simpa using F);subst F;rw[Xad]at R;simp only[go_sem,V,List.length_nil];refine⟨fun ρ H=>ρ 2=.sl []/\ρ 7=.os j/\ρ 42=int 0/\ρ 43=int 0/\H j=some (RN (zO M.length x.types)),fun _ _=>0,⟨by simp only[go_sem,O,],I,(by simp only[go_sem];rfl),rfl,R⟩,?_⟩;rintro ρ H ⟨O,I,ad,af,R⟩;simp only[go_sem,ad,af];refine aA (fun hb=>absurd hb (by simp)) (fun _=>?_);simp only[go_sem,O,List.length_nil];refine⟨fun ρ H=>ρ 7=.os j/\ρ 60=int 0/\ρ 61=int 0/\H j=some (RN (zO M.length x.types)),fun _ _=>0,⟨I,(by simp only[go_sem];rfl),rfl,R⟩,?_⟩;rintro ρ H ⟨I,ah,ai,R⟩;simp only[go_sem,ah,ai];refine aA (fun hb=>absurd hb (by simp)) (fun _=>?_);simp only[go_sem,I];exact .row _ _ _ R (ConvE.refl _)
def ahU(x:Instance)(F:x.orders.length<=62)(E:x.types.length<=1000):PC prog 42 [.agg (aC x),.sl [],.sl []] (int (zO (cZ (KL x:Nat)).length x.types).length):=by refine pcd func42 rfl rfl ?_;simp only[go_sem];refine aG (apC x F E) ?_;simp only[go_sem];exact .refl _
def acF:Js exX 1 [] [] exD:=by
 have hM:MIn exX [] []:=⟨by decide,by decide,by decide,by decide⟩;have hw:nA exX 1 [] [] exD=0:=by decide +kernel
 have hc:nN exX []=0:=by decide +kernel
 have U:exD.length=(zO (cZ (KL exX:Nat)).length exX.types).length:=by decide +kernel
 have J:=Dec.afK exX [] (by decide);have O:=ahU exX (by decide) (by decide);unfold Js;rw[hw];rw[hc]at J;generalize exX=x at *;generalize exD=dual at *;rw[<-U]at O;refine pcd func17 rfl rfl ?_;simp only[go_sem];refine aG J ?_;simp only[go_sem];refine aA (fun E=>absurd E (by simp)) (fun _=>?_);simp only[go_sem,List.length_nil];refine⟨fun ρ _=>ρ 1=.sl []/\ρ 2=.sl []/\ρ 3=.sl (dual.map Go.Aw.D.fE)/\ρ 4=.rp (aC x) 0/\ρ 20=int 0/\ρ 21=int 0,fun _ _=>0,⟨rfl,rfl,rfl,rfl,(by simp only[go_sem];rfl),rfl⟩,?_⟩;rintro ρ H ⟨V,Y,X,Z,I,F⟩;simp only[go_sem,I,F];refine aA (fun E=>absurd E (by simp)) (fun _=>?_);simp only[go_sem,V,Y,X,Z,Xab];refine aG O ?_;simp only[go_sem,];refine aA (fun E=>absurd E (by simp)) (fun _=>?_);simp only[go_sem];exact .refl _
def Pj(j:Nat)(gf:Nat)(H0:aH)(K:AV->aH->Prop)(I:∀r,K r H0):bM prog 92 [.os j,int 0,int (1:Nat),wJ gf] H0 K:=by refine bM.body (c:=f92.body.getD .skip) (fun _=>false) mixed func92 rfl (by kernel_rfl) ?_;unfold f92;simp only[Xbo];simp only[go_sem];refine⟨fun ρ H=>ρ 2=int (1:Nat)/\ρ 8=int 1/\H=H0,fun _ _=>0,⟨rfl,by simp only[go_sem];rfl,rfl⟩,?_⟩;rintro ρ H ⟨F,J,rfl⟩;simp only[go_sem,F,J];refine aA (fun E=>absurd (of_decide_eq_true E) (by omega)) (fun _=>?_);simp only[go_sem];exact I _
def aaE(j:Nat)(gf:Nat)(H0:aH)(K:AV->aH->Prop)(V:∀r,K r H0):bM prog 52 [.os j,int (1:Nat),wJ gf] H0 K:=by
 refine bM.body (c:=f52.body.getD .skip) (fun _=>false) mixed func52 rfl (by kernel_rfl) ?_;unfold f52;simp only[Xbo];simp only[go_sem];refine⟨fun ρ H=>ρ 0=.os j/\ρ 1=int (1:Nat)/\ρ 2=wJ gf/\ρ 6=int 20/\ρ 7=int 0/\ρ 8=int 20/\H=H0,fun _ _=>0,⟨rfl,rfl,rfl,rfl,rfl,rfl,rfl⟩,?_⟩;rintro ρ H ⟨J,E,O,I,U,X,rfl⟩;simp only[go_sem,E,X];refine aA (fun F=>absurd (of_decide_eq_true F) (by omega)) (fun _=>?_);simp only[go_sem,J,E,O,U];refine Pj j gf _ _ fun r=>?_
 simp only[go_sem,];refine⟨fun ρ H'=>ρ 1=int (1:Nat)/\ρ 6=int 20/\H'=H,fun _ _=>0,⟨E,I,rfl⟩,?_⟩;rintro ρ H' ⟨E,I,rfl⟩;simp only[go_sem,E,I];refine aA (fun F=>absurd (of_decide_eq_true F) (by omega)) (fun _=>?_);simp only[go_sem];exact V _
def amO(p:Priced):X6 [p]:=fun j H0 K F E=>by
 have e:aM H0 j (some (mQ (CO ltP [p])))=H0:=qL F;rw[e]at E;refine bM.body (c:=f25.body.getD .skip) (fun _=>false) mixed func25 rfl (by kernel_rfl) ?_;unfold f25;simp only[Xbo];simp only[go_sem];simp only[go_sem,F,Xah,List.length_nil];refine aaE j _ _ _ fun r=>?_
 simp only[go_sem];exact E _
def akU:PC prog 6 [] (boo true):=by
 have F:(lU exX [] [] exD).1.length=1:=by decide +kernel
 have E:X6 (lU exX [] [] exD).1:=by
  generalize (lU exX [] [] exD).1=A at *
  match A,F with
  | [p],_=>exact amO p
 exact acW acF E
end Nu.Ps
section
open Go.Aw Go.Aw.D
theorem inB_of{x:Instance}(h:F1 1048576 x):InB x:=by obtain⟨⟨O,F⟩,E,I,V,U⟩:=h;exact⟨O.1,O.2,F.1,fun a X=>⟨(F.2 a X).2.2.2.2.1.1,(F.2 a X).2.2.2.2.2.1⟩,E.1,fun t J=>⟨(E.2 t J).1,(E.2 t J).2.2.2.2.1.1⟩,I.1,fun t J=>⟨(I.2 t J).1,(I.2 t J).2.1.1⟩,V.1,U.1⟩
theorem askIn_of{a:Ask3}(h:akO 1048576 a):Nu.Ps.AskIn a:=⟨inB_of h.1,h.2.2.2.1,h.2.2.2.2,fun q E=>(h.2.1.2 q E).2.1.2,fun d F=>h.2.2.1.2 d F⟩
theorem pricingBest_holds:Rows.PricingBestUptoCardSaid:=pricingBest.card fun a E=>Nu.Ps.Ko Nu.Ps.akU a (askIn_of E)
#print axioms pricingBest_holds
end
end Go.Proofs.YtpagaknmdfgfkaaGreatDoor
