import Derived.Test.YtpagaknmdfgfkaaGreatDoorPn14
import Derived.Test.YtpagaknmdfgfkaaGreatDoorPn17
set_option linter.unusedSimpArgs false
set_option linter.unusedVariables false
set_option linter.defProp false
set_option maxRecDepth 100000
namespace Go.Proofs.YtpagaknmdfgfkaaGreatDoor
namespace Nu.Ps
open Go.Proofs.Tryz
open Go.Aw Go.Aw.D Go.Proofs Ty Go.Nu Go.So
open Dec (nZ eF fL eH uX mM)
open Sq (EvalB BestQ tX nN cD fH)
def DD(x:Instance)(d:Nat)(cuts:List Cut)(ds:List Decision)(dual:List ByteArray)(most:Int):List Column×Int:=
 if(nT x d cuts ds dual != 0)=true then([],nT x d cuts ds dual)
 else if(decide (most<1)||decide (most>8192))=true then([],2)
 else if((lS x cuts ds dual).2 != 0)=true then([],(lS x cuts ds dual).2)
 else(((K9 (lS x cuts ds dual).1).take most.toNat).map (·.column),0)
def SH{S:List Priced}{k m:Nat}(h:∀p∈S.take k,oX p=true)(O:k<=S.length)(E:m=k\/(k<=m/\∀p,S[k]?=some p->oX p=false)):(S.takeWhile oX).take m=S.take k:=by
 rw[Sq.W9 (k:=k) h];have T:(S.take k).length=k:=by rw[Xap];omega
 rcases E with rfl|⟨E,F⟩
 ·rw[List.take_append_of_le_length (by omega),Xan (by omega)]
 ·have : (S.drop k).takeWhile oX = [] := by
   cases J:S.drop k with
   | nil=>rfl
   | cons p r=>
    have I:S[k]?=some p:=by have:=congrArg (fun l:List Priced=>l[0]?) J;simpa using this
    rw[List.takeWhile_cons,F p I];rfl
  rw[this,Xah,Xan (by omega)]
def TR{s:ByteArray}(h:bV s=true):decide (C5 s>=0)= !decide (oK s<0):=by
 unfold C5;rw[if_pos h,<-LU];unfold PE;by_cases E:oK s<0
 ·rw[if_pos E,decide_eq_true E];rfl
 ·rw[if_neg E,decide_eq_false E];split <;> rfl
def TN(L:List Priced)(p:Priced):(⟨43,7,(L.map (·.column)).map aS++[aS p.column]⟩:Row)=cD ((L++[p]).map (·.column)):=by rw[Sq.Ih,Xam];rfl
def adO(A:List Priced):Prop:=∀(j:Nat) (H0:aG) (K:AV->aG->Prop),H0 j=some (fS A)->(∀r,K r (aM H0 j (some (fS (yN ltP A)))))->bK prog 25 [.os j,qW 20] H0 K
def aiO(x:Instance)(d:Nat)(cuts:List Cut)(ds:List Decision)(dual:List ByteArray)(most:Int)(h:PrOk x d)(hm:MIn x cuts ds)(hq:∀q∈cuts,q.set<=9223372036854775807)(hl:dual.length<=1048576)(hs:∀s∈dual,s.size<=1048576)(hW:VF x d cuts ds dual)(hS:adO (lS x cuts ds dual).1):
  PC prog 10 [.agg (aD x),.sl (cuts.map dS),.sl (ds.map aT),.sl (dual.map Go.Aw.D.fJ),int most] (.tup [.sl ((DD x d cuts ds dual most).1.map aS),int (DD x d cuts ds dual most).2]):=by
 have E:DD x d cuts ds dual most=(if(nT x d cuts ds dual != 0)=true then([],nT x d cuts ds dual)
  else if(decide (most<1)||decide (most>8192))=true then([],2)
  else if((lS x cuts ds dual).2 != 0)=true then([],(lS x cuts ds dual).2)
  else(((K9 (lS x cuts ds dual).1).take most.toNat).map (·.column),0)):=rfl
 generalize DD x d cuts ds dual most=RP at *;refine pcb (fun t=>t == 15) func10 rfl rfl ?_;simp only[go_sem];refine aH hW ?_;simp only[go_sem];refine aA (fun F=>?_) (fun F=>?_)
 ·rw[if_pos F]at E;simp only[go_sem];rw[E];exact .refl _
 rw[if_neg (by rw[F];simp)]at E;have a0:CutsB cuts:=⟨fun q ao=>⟨Dw (Bu (by simpa using F) q ao),hq q ao⟩⟩;have aj:∀p∈(lS x cuts ds dual).1,okP p:=fun p J=>Ef J
 have am:=EY x cuts ds dual h.n8 h.ty;simp only[go_sem];refine aA (fun F=>?_) (fun F=>?_)
 ·rw[if_pos F]at E;simp only[go_sem];rw[E];exact .refl _
 have a8:1<=most/\most<=8192:=by simp only[Xag,decide_eq_false_iff_not]at F;omega
 rw[if_neg (by rw[F];simp)]at E;simp only[go_sem];refine NC.use (ajM x d cuts ds dual h hm a0 hl hs) fun T ba=>?_
 generalize lS x cuts ds dual=A at *;obtain⟨A,e⟩:=A;simp only at E aj am hS;simp only[go_sem];refine aA (fun F=>?_) (fun F=>?_)
 ·rw[if_pos F]at E;simp only[go_sem];rw[E];exact .refl _
 rw[if_neg (by rw[F];simp)]at E;have Z:aM bQ T (some (fS A)) T=some (fS A):=aB _ _ _;simp only[go_sem];refine hS T _ _ Z fun r=>?_
 rw[sE];have Z:aM bQ T (some (fS (yN ltP A))) T=some (fS (yN ltP A)):=aB _ _ _;generalize aM bQ T (some (fS (yN ltP A)))=H1 at *;have a5:∀p∈yN ltP A,okP p:=fun p J=>aj p ((AO A).mem_iff.1 J)
 have bc:(yN ltP A).length=A.length:=(AO A).length_eq;unfold K9 at E;generalize yN ltP A=S at *;simp only[go_sem];refine fI fun ai ac a6 (a7:ac ai=some (cD [])) N=>?_
 replace Z:=N Z;obtain⟨ad,Z⟩:=Z;simp only[go_sem,Z];refine⟨fun ρ H=>∃(k:Nat) (j:Nat),k<=S.length/\ρ 4=int most/\ρ 45=.os T/\ρ 46=int (S.length:Nat)/\ρ 47=int k/\ρ 15=.os j/\H j=some (cD ((S.take k).map (·.column)))/\H T=some (fS S)/\(∀p∈S.take k,oX p=true)/\k<=most.toNat,fun ρ _=>S.length-aR (ρ 47),⟨0,ai,Xaa _,rfl,rfl,rfl,(by simp only[go_sem];rfl),rfl,a7,Z,by simp,Xaa _⟩,?_⟩;rintro ρ H ⟨k,j,hk,e4,an,aw,ab,X,R,Y,hz,ap⟩;simp only[go_sem,aw,ab];refine aA (fun I=>?_) (fun aa=>?_)
 ·have I:=ltB (by simpa using I);obtain⟨p,J⟩:=aK I;have b1:=inB I;have al:=a5 p (Xac J);have au:=TR al;have a9:((S.take k).map (·.column)).length=k:=by rw[Xab,Xap];omega
  have ay:S.take (k+1)=S.take k++[p]:=bA J;simp only[go_sem,an,ab,Y,aC J,b1,Xab];refine⟨I,?_⟩;refine aN fun az ag=>?_
  simp only[go_sem,];refine cJ ag (by simp[dW]) fun af (ak:af az=some (fS [p])) N=>?_
  replace R:=N R;obtain⟨ah,R⟩:=R;replace Y:=N Y;obtain⟨ae,Y⟩:=Y;simp only[go_sem,ak,];refine aH (anQ p.reduced (tV al)) ?_;simp only[go_sem,e4,X,R,Xab];have ax:((S.take k).length:Int)=(k:Int):=by rw[Xap];omega
  refine aA (fun hc=>?_) (fun hc=>?_)
  ·have O : (S.takeWhile oX).take most.toNat = S.take k := SH hz hk (by
    by_cases hn:oX p=true
    ·left;have e1:decide (C5 p.reduced>=0)=false:=by rw[au,show decide (oK p.reduced<0)=true from hn];rfl
     rw[e1,Xca]at hc;have:((S.take k).length:Int)=most:=by simpa using hc
     omega
    ·right;refine⟨ap,fun p' av=>?_⟩;rw[J]at av;obtain rfl:=Option.some.inj av;simpa using hn)
   simp only[go_sem,X];rw[E,O];exact .tup _ _ (.cons _ _ _ _ (.row _ _ _ R (ConvE.refl _)) (ConvL.refl _))
  rw[au]at hc;simp only[Xag,Xbw]at hc;have hn:oX p=true:=hc.1;have bb:¬(k:Int)=most:=by have:=hc.2;rw[ax]at this;simpa using this
  simp only[go_sem,X,ak];refine aY R ⟨rfl,rfl⟩ (by simp only[go_sem]) (by simp;omega) (fun j2 aq=>?_);have a4:T≠j2:=fun e=>by rw[<-e,Y]at aq;cases aq
  have ar:T≠j:=fun e=>by rw[e,R]at Y;cases Y
  simp only[go_sem,e4,an,aw,ab,aQ k];refine⟨⟨k+1,j2,I,rfl,rfl,?_,?_,?_,by omega⟩,by simp only[aL];omega⟩
  ·rw[ay,aB];exact congrArg some (TN _ _)
  ·rw[aJ _ _ _ _ a4,aJ _ _ _ _ ar];exact Y
  ·exact Mv.aO (p:=fun p=>oX p=true) J hn hz
 have aa:=geB hk (by simpa using aa);subst aa;have O:(S.takeWhile oX).take most.toNat=S.take S.length:=SH hz (Xaf _) (.inr ⟨ap,fun p J=>by rw[List.getElem?_eq_none (Xaf _)]at J;cases J⟩);simp only[go_sem,X];rw[E,O];exact .tup _ _ (.cons _ _ _ _ (.row _ _ _ R (ConvE.refl _)) (ConvL.refl _))
def exO:Order:=⟨⟨#[111,97]⟩,[1],⟨-1,0,0,0⟩,⟨1,0,50,0⟩,0,0,1,-1,-1,false⟩
def exT:VType:=⟨⟨#[118,97,110]⟩,1,0,0,[5],0,0,0,1000,1000,0,5,1,0⟩
def exN:Network:=⟨[⟨#[104,117,98]⟩,⟨#[97,115,104]⟩],[⟨0,1,0,10,[⟨0,20⟩],[]⟩,⟨1,0,0,10,[⟨0,20⟩],[]⟩]⟩
def exX:Instance:=⟨exN,[exT],[exO],[],[]⟩
def exD:List ByteArray:=[zed 419430410,⟨#[48]⟩]
def exC:Column:=(Gx exX 1 [] [] exD).1
def PB:(Gx exX 1 [] [] exD).2=(⟨#[45,49,48]⟩,0)/\exC.set=1/\exC.price=419430400:=by decide +kernel
def alS:(DD exX 1 [] [] exD 5).2=0/\(DD exX 1 [] [] exD 5).1.length=1:=by decide +kernel
def IA:(dI exX []).2=0/\(dI exX []).1.length=1:=by decide +kernel
def ahP:LoadsOk exX 1 where
 dims:=by decide
 orders:=by decide
 types:=by decide
 load:=by intro o E;simp[exX,exO]at E;subst E;simp
 cap:=by intro t F;simp[exX,exT]at F;subst F;simp
def asH:Sq.NetOk exN where
 arcs:=by decide
 travel:=by intro a E;simp[exN]at E;rcases E with rfl|rfl <;> decide +kernel
 slow:=by intro a E;simp[exN]at E;rcases E with rfl|rfl <;> decide
def XP:PrOk exX 1 where
 ev:=⟨asH,⟨by decide,by intro o E;simp[exX,exO]at E;subst E;rfl,by decide⟩,by decide,by decide⟩
 n8:=by decide
 ty:=by decide
 lo:=ahP
 ne:=by simp[exX]
def DE:PC prog 15 [] (.agg (aD exX)):=by
 refine pcd func15 rfl rfl ?_;simp only[go_sem];refine fI fun i0 T aa (E:T i0=some (insR ⟨⟨[],[]⟩,[],[],[],[]⟩)) N=>?_
 simp only[go_sem];refine aN fun i2 F=>?_
 simp only[go_sem];refine cJ F (by simp) fun X (J:X i2=some (⟨25,2,[bD exN]⟩)) N=>?_
 replace E:=(N E).2;simp only[go_sem];refine aN fun i3 I=>?_
 simp only[go_sem];refine cJ I (by simp) fun Z (R3:Z i3=some (ordR exO)) N=>?_
 replace E:=(N E).2;replace J:=(N J).2;simp only[go_sem];refine aN fun i4 O=>?_
 simp only[go_sem];refine cJ O (by simp) fun Y (R4:Y i4=some (typR exT)) N=>?_
 replace E:=(N E).2;replace J:=(N J).2;replace R3:=(N R3).2;simp only[go_sem,R4,J,R3];refine aI E (by simp;decide) ?_;simp only[go_sem];exact .refl _
def afZ(Z:VF exX 1 [] [] exD)(I:adO (lS exX [] [] exD).1):PC prog 6 [] (boo true):=by
 have hM:MIn exX [] []:=⟨by decide,by decide,by decide,by decide⟩;have hs:∀s∈exD,s.size<=1048576:=by decide +kernel
 have hb:=amU exX 1 [] [] exD XP hM (fun q X=>by cases X) (by decide) hs Z;rw[show Gx exX 1 [] [] exD=(exC,⟨#[45,49,48]⟩,0)from Prod.ext rfl PB.1]at hb;have hn:=aiO exX 1 [] [] exD 5 XP hM (fun q X=>by cases X) (by decide) hs Z I;have ha:=Sq.NC.pc2 (MJ exX 1 [] XP (by decide));rw[IA.1]at ha;rw[alS.1]at hn;have Y:=alS.2;have O:=IA.2;have T:=PB.2.1;have J:=PB.2.2;generalize (DD exX 1 [] [] exD 5).1=NL at *;generalize (dI exX []).1=AL at *;generalize exC=c at *;refine pcd func6 rfl rfl ?_;simp only[go_sem];refine aH (Dd 419430410 (by decide) (by decide)) ?_;simp only[go_sem];refine aH DE ?_;simp only[go_sem];refine aH hb ?_;simp only[go_sem];refine aN fun i3 E=>?_
 simp only[go_sem];refine cJ E (by simp[cP]) fun F (R3:F i3=some (cD [c])) N=>?_
 simp only[go_sem];refine aH DE ?_;simp only[go_sem];refine aH hn ?_;simp only[go_sem];refine aH DE ?_;simp only[go_sem];refine aH ha ?_;simp only[go_sem,R3,Xab,T,J,Y,O];exact cB (a:=true) (by rfl)
end Nu.Ps
namespace Nu.Ps
open Go.Proofs.Tryz
open Go.Aw Go.Aw.D Go.Proofs Ty Go.Nu Go.So
open Dec (nZ eF fL eH uX mM)
open Sq (EvalB BestQ tX nN cD fH fR)
def aqF{x:Instance}(h:Acc x)(Y:x.orders.length<=8):PrOk x (kL x.types).toNat:=by
 obtain⟨E,F⟩:=Ue h;have h1:=h.arcs;have h2:=h.types;have Z:=h.apart;have h4:=h.before;refine⟨⟨⟨by omega,fun a I=>(h.arc a I).travel,fun a I=>by have:=(h.arc a I).slow;omega⟩,?_,by omega,by omega⟩,Y,by omega,E,F⟩;obtain⟨t,r,J⟩:=List.exists_cons_of_ne_nil F;have O:fR x=(t.cap.length:Nat):=by unfold fR;rw[J];rfl
 have hc:=(E.cap t (by rw[J];exact Xcq)).1;have T:=E.dims;exact⟨by rw[O];omega,fun o X=>by rw[O,(E.load o X).1];omega,by omega⟩
def RN(a:Ask3):Bool:=(((((decide ((a.x.orders.length:Int)>3)||decide ((a.x.types.length:Int)>3))||decide ((a.cuts.length:Int)>8))||decide ((a.d.length:Int)>8))||decide ((a.dual.length:Int)>40))||decide (((uG a.x).length:Int)>0))
def KJ(a:Ask3):Bool:= !RN a&&a.dual.all fun s=> !decide ((s.size:Int)>60)
def OF{a:Ask3}(h:KJ a=true):Acc a.x/\a.x.orders.length<=3/\a.x.types.length<=3/\a.cuts.length<=8/\a.d.length<=8/\a.dual.length<=40/\∀s∈a.dual,s.size<=60:=by unfold KJ RN at h;simp only[Xak,Xax,Xag,decide_eq_false_iff_not,Xaj]at h;obtain⟨⟨⟨⟨⟨⟨h1,T⟩,O⟩,X⟩,I⟩,J⟩,F⟩:=h;refine⟨WL (Xbp.1 (by omega)),by omega,by omega,by omega,by omega,by omega,fun s E=>?_⟩;have:=F s E;omega
def awL(a:Ask3)(Z:InB a.x)(hl:a.dual.length<=1048576):PC prog 5 [.agg (kE a)] (boo (KJ a)):=by
 refine pcd func5 rfl rfl ?_;simp only[go_sem];refine⟨_,fun _=>(NC.pc (anA a.x Z)).qn,?_⟩;simp only[go_sem,Xab];apply aA <;> intro I
 ·have I:RN a=true:=I;simp only[go_sem];refine cB ?_;unfold KJ;rw[I];rfl
 have I:RN a=false:=I;have hF:KJ a=a.dual.all fun s=> !decide ((s.size:Int)>60):=by unfold KJ;rw[I];rfl
 rw[hF];simp only[go_sem];refine⟨fun ρ H=>∃(k:Nat),k<=a.dual.length/\ρ 1=.rp (kE a) 0/\ρ 3=int k/\(∀s∈a.dual.take k,decide ((s.size:Int)>60)=false),fun ρ _=>a.dual.length-aR (ρ 3),⟨0,Xaa _,rfl,(by simp only[go_sem];rfl),by simp⟩,?_⟩;rintro ρ H ⟨k,hk,X,Y,T⟩;simp only[go_sem,X,Y];refine aA (fun E=>?_) (fun F=>?_)
 ·have E:=ltB (by simpa using E);obtain⟨s,J⟩:=aK E;have b1:=inB E;simp only[go_sem,X,Y,aC J,b1];apply aA <;> intro O
  ·simp only[go_sem];refine cB ?_;exact(List.all_eq_false.2 ⟨s,Xac J,by have O:decide ((s.size:Int)>60)=true:=O;rw[O];simp⟩).symm
  ·simp only[go_sem,X,Y,aQ k];exact⟨⟨k+1,E,rfl,gS (p:=fun s:ByteArray=>decide ((s.size:Int)>60)=false) J O T⟩,msr E⟩
 have F:=geB hk (by simpa using F);subst F;rw[Xad]at T;simp only[go_sem];exact cB (Xaj.2 fun s J=>by rw[T s J];rfl).symm
def Tc(l:List Visit)(hl:l.length<=1048576):PC prog 24 [.sl (l.map aF),.sl (l.map aF)] (boo true):=by
 refine pcd func24 rfl rfl ?_;simp only[go_sem];refine aA (fun O=>absurd O (by simp)) (fun _=>?_);simp only[go_sem];refine⟨fun ρ H=>∃(k:Nat),k<=l.length/\ρ 0=.sl (l.map aF)/\ρ 1=.sl (l.map aF)/\ρ 5=int k,fun ρ _=>l.length-aR (ρ 5),⟨0,Xaa _,rfl,rfl,(by simp only[go_sem];rfl)⟩,?_⟩;rintro ρ H ⟨k,hk,F,J,I⟩;simp only[go_sem,F,I];refine aA (fun E=>?_) (fun Y=>?_)
 ·have E:=ltB (by simpa using E);obtain⟨v,T⟩:=aK E;have X:=inB E;simp only[go_sem];refine dK ?_;simp only[go_sem,F,J,I,aC T,X,Xab];apply aA <;> intro Z
  ·exact absurd Z (by simp)
  ·simp only[go_sem,F,J,I,aQ k];exact⟨⟨k+1,E,rfl⟩,msr E⟩
 simp only[go_sem];exact .refl _
def Qk(c:Column)(h1:c.route.rests.length<=1048576)(h2:c.route.visits.length<=1048576):PC prog 9 [.agg (aS c),.agg (aS c)] (boo true):=by
 refine pcd func9 rfl rfl ?_;simp only[go_sem];refine aA (fun X=>absurd X (by simp)) (fun _=>?_);simp only[go_sem];refine⟨fun ρ H=>∃(k:Nat),k<=c.route.rests.length/\ρ 2=.rp (aS c) 0/\ρ 3=.rp (aS c) 0/\ρ 5=int k,fun ρ _=>c.route.rests.length-aR (ρ 5),⟨0,Xaa _,rfl,rfl,(by simp only[go_sem];rfl)⟩,?_⟩;rintro ρ H ⟨k,hk,F,I,J⟩;simp only[go_sem,F,J];refine aA (fun E=>?_) (fun O=>?_)
 ·have E:=ltB (by simpa using E);obtain⟨v,Y⟩:=aK E;have Z:=inB E;simp only[go_sem];refine dK ?_;simp only[go_sem,F,I,J,aC Y,Z,Xab];apply aA <;> intro T
  ·exact absurd T (by simp)
  ·simp only[go_sem,F,I,J,aQ k];exact⟨⟨k+1,E,rfl⟩,msr E⟩
 simp only[go_sem,F,I];refine aH (Tc c.route.visits h2) ?_;simp only[go_sem];exact .refl _
end Nu.Ps
namespace Rx
open Go.Aw Go.Aw.D Go.Proofs Ty
open Sq
open Go.Nu
def Dis:List Visit->Prop
 | []=>True
 | v::l=>¬v∈l/\Dis l
def T9:∀(l U:List Visit),Dis l->(∀v∈l,v∈U)->l.length<=U.length
 | [],U,_,_=>Xaa _
 | v::l,U,hd,hs=>by
  obtain⟨a,b,rfl⟩:=List.append_of_mem (hs v (by simp));have:=T9 l (a++b) hd.2 fun u E=>by
   have:=hs u (by simp[E]);rcases Xbb.1 this with h|h
   ·exact Xbt _ h
   ·rcases Xbc.1 h with rfl|h
    ·exact absurd E hd.1
    ·exact Xcw _ h
  simp only[Xae,Xai]at this |-;omega
def yQ(f:Visit->Rat):List Visit->Rat
 | []=>0
 | v::l=>f v+yQ f l
def CD(f:Visit->Rat)(v:Visit)(l:List Visit):yQ f (v::l)=f v+yQ f l:=rfl
def Ky(f:Visit->Rat):∀a b:List Visit,yQ f (a++b)=yQ f a+yQ f b
 | [],b=>(Rat.zero_add _).symm
 | v::a,b=>by rw[Xch,CD,CD,Ky f a b,Rat.add_assoc]
def Yp(f:Visit->Rat):∀(l U:List Visit),Dis l->(∀v∈l,v∈U)->l.length=U.length->yQ f l=yQ f U/\∀v∈U,v∈l
 | [],U,_,_,h=>by have:U=[]:=Xbp.1 h.symm;subst this;exact⟨rfl,fun v J=>J⟩
 | v::l,U,hd,hs,h=>by
  obtain⟨a,b,rfl⟩:=List.append_of_mem (hs v (by simp));have F:∀u∈l,u∈a++b:=fun u E=>by
   have:=hs u (by simp[E]);rcases Xbb.1 this with h|h
   ·exact Xbt _ h
   ·rcases Xbc.1 h with rfl|h
    ·exact absurd E hd.1
    ·exact Xcw _ h
  obtain⟨h1,I⟩:=Yp f l (a++b) hd.2 F (by simp only[Xae,Xai]at h |-;omega);rw[Ky]at h1;refine⟨?_,fun u E=>?_⟩
  ·rw[Ky,CD,CD,h1];generalize yQ f a=x;generalize yQ f b=y;generalize f v=z
   grind
  ·rcases Xbb.1 E with E|E
   ·exact List.mem_cons_of_mem _ (I u (Xbt _ E))
   ·rcases Xbc.1 E with rfl|E
    ·exact Xcq
    ·exact List.mem_cons_of_mem _ (I u (Xcw _ E))
def avX{l:List Visit}(h:∀j v,l[j]?=some v->¬v∈l.take j):Dis l:=by
 suffices ∀(b a:List Visit),(∀j v,(a++b)[j]?=some v->¬v∈(a++b).take j)->Dis b from this l [] (by simpa using h)
 intro b;induction b with
 | nil=>intro a _;trivial
 | cons v b ih=>intro a h;refine⟨fun E=>?_,ih (a++[v]) (by simpa using h)⟩;obtain⟨c,d,rfl⟩:=List.append_of_mem E;have:=h (a.length+1+c.length) v (by rw[show a++v::(c++v::d)=(a++v::c)++v::d by simp,List.getElem?_append_right (by simp;omega)];simp only[Xae,Xai];rw[show a.length+1+c.length-(a.length+(c.length+1))=0 by omega];rfl);refine this ?_;rw[show a++v::(c++v::d)=(a++v::c)++v::d by simp,List.take_append_of_le_length (by simp;omega),Xan (by simp;omega)];simp
def Kl{v u:Visit}:pM v u=true↔u=v:=by unfold pM;obtain⟨a,b⟩:=v;obtain⟨c,d⟩:=u;simp
def aqN{l:List Visit}{v:Visit}(h:¬v∈l):bM l v= -1:=by unfold bM;refine kP (fun y E=>?_) 0;rw[Xcz];intro F;rw[Kl.1 F]at E;exact h E
def aeO{l:List Visit}{v:Visit}{j:Nat}(h:l[j]?=some v)(F:¬v∈l.take j):bM l v=j:=by
 unfold bM;rw[lR (k:=j) (fun y E=>?_) h (Kl.2 rfl) 0]
 ·omega
 ·rw[Xcz];intro I;rw[Kl.1 I]at E;exact F E
def Jw{v:Visit}:∀{l:List Visit},v∈l->∃j,l[j]?=some v/\¬v∈l.take j
 | u::l,h=>by
  by_cases e:v=u
  ·subst e;exact⟨0,rfl,by simp⟩
  ·have h : v ∈ l := by
    rcases Xbc.1 h with h|h
    ·exact absurd h e
    ·exact h
   obtain⟨j,h1,F⟩:=Jw h;refine⟨j+1,h1,fun E=>?_⟩;rw[List.take_succ_cons]at E;rcases Xbc.1 E with E|E
   ·exact e E
   ·exact F E
def O3{l:List Visit}{v:Visit}(h:bM l v>=0):v∈l:=by
 false_or_by_contra
 rename_i E;rw[aqN E]at h;omega
structure SeqB(x:Instance)(l:List Visit):Prop where
 ne:l≠[]
 vis:∀v∈l,Vis x v
 twice:∀j v,l[j]?=some v->¬v∈l.take j
 pair:∀i,i<x.orders.length->Hk (fB x i)=true->∀d,(⟨(i:Nat),d⟩:Visit)∈l->(⟨(i:Nat),false⟩:Visit)∈l/\(⟨(i:Nat),true⟩:Visit)∈l/\bM l ⟨(i:Nat),false⟩<bM l ⟨(i:Nat),true⟩
def GH{O:Order}{i:Nat}(h:Hk O=true):gW O (i:Nat)=[⟨(i:Nat),false⟩,⟨(i:Nat),true⟩]:=by unfold Hk at h;rw[Xak]at h;unfold gW;rw[if_pos h.1,if_pos h.2];rfl
def ZJ{x:Instance}{l:List Visit}(h:sV x l=0):SeqB x l:=by
 unfold sV at h;split at h
 ·cases h
 next X=>
 split at h
 ·cases h
 next c2=>
 split at h
 ·cases h
 next c3=>
 split at h
 ·cases h
 next I=>
 clear h;simp only[Xcm,not_or,Xav,Xas,not_exists,not_and,Xcu]at X c2 c3;have I:l.all (xG x.orders l)=true:=by simpa using I
 rw[Xaj]at I;have Y:∀j v,l[j]?=some v->¬v∈l.take j:=fun j v hj T=>by have ab:=(List.getElem?_eq_some_iff.1 hj).1;have:=c3 j (Xat.2 ab);unfold qU at this;rw[decide_eq_false_iff_not]at this;refine this ?_;rw[List.getD,hj];obtain⟨i,h1,h2⟩:=Jw T;show bM (l.take j) v>=0;rw[aeO h1 h2];omega
 have J:∀v∈l,∃i:Nat,v.order=(i:Nat)/\i<x.orders.length:=fun v E=>by have:=X.2 v E;simp only[cF,Xag,decide_eq_false_iff_not]at this;exact⟨v.order.toNat,by omega,by omega⟩
 refine⟨fun e=>X.1 (by rw[e];rfl),fun v E=>?_,Y,fun i O hb d E=>?_⟩
 ·obtain⟨i,e,O⟩:=J v E;have F:=I v E;unfold xG at F;rw[Xak]at F;have T:v∈fX x.orders v.order:=by have:=F.1;unfold inV at this;exact O3 (of_decide_eq_true this)
  rw[e,Cw O]at T;obtain⟨d,e2,aa⟩:=anB T;refine⟨i,d,e2,O,aa,?_⟩;have:=c2 v E;unfold vP at this;rw[e,Xao,gR O]at this;simpa using this
 ·have F:=I _ E;unfold xG at F;rw[Xak]at F;have Z:=F.2;rw[Cw O,GH hb]at Z;simp only[qM,Xak,decide_eq_true_eq,Xbh]at Z;obtain⟨q1,q2⟩:=Z;exact⟨O3 (by omega),O3 (by omega),q2⟩
section
variable{x:Instance}{l:List Visit}{i j:Nat}{d:Bool}
end
end Rx
namespace Rx
open Go.Aw Go.Aw.D Go.Proofs Ty
open Sq
open Go.Nu
section
variable{x:Instance}{k:Nat}{near:List Int}{l:List Visit}{j c i:Nat}{d:Bool}
end
end Rx
namespace Rx
open Go.Aw Go.Aw.D Go.Proofs Ty
open Sq
open Go.Nu
section
variable{x:Instance}{k:Nat}{near:List Int}{du:Option (List ByteArray)}{dl:List ByteArray}{M:Nat}{p:Part}{q:RP}{l:List Visit}{r:Route}{i j:Nat}{d:Bool}
end
end Rx
namespace Rx
open Go.Aw Go.Aw.D Go.Proofs Ty
open Sq
open Go.Nu
section
variable{x:Instance}{k:Nat}{near:List Int}{du:Option (List ByteArray)}{dl:List ByteArray}{M:Nat}{p:Part}{q:RP}{l:List Visit}{r:Route}{i j:Nat}{d:Bool}
end
end Rx
namespace Rx
open Go.Aw Go.Aw.D Go.Proofs Ty
open Sq
open Go.Nu
section
variable{x:Instance}{k:Nat}{near:List Int}{du:Option (List ByteArray)}{dl:List ByteArray}{M:Nat}{p:Part}{q:RP}{l:List Visit}{r:Route}{i j:Nat}{d:Bool}
def adY{set:Int}(F:i<=62)(h:G5 x set i=false):dO set (i:Int)=true/\O1 x i=false:=by
 unfold G5 at h;simp only[Xag]at h;refine⟨?_,h.2⟩;have E:=h.1.2;rw[wD F,atT]at E;unfold dO;rw[decide_eq_true (show((i:Nat):Int)>=0 by omega),decide_eq_true (show((i:Nat):Int)<=62 by omega),Xao];generalize set/2^i=m at *;have:¬m%2=0:=by simpa using E
 simp;omega
def aiK{set:Int}{E:List Visit}{v:Visit}(J:x.orders.length<=60)(h:v∈pA x set E):∃i,i<x.orders.length/\dO set ((i:Nat):Int)=true/\v∈fX x.orders (i:Nat):=by
 unfold pA yD at h;obtain⟨i,F,h⟩:=List.mem_flatMap.1 h;have F:=Xat.1 F;unfold Bn at h;split at h
 ·cases h
 next I=>
 exact⟨i,F,(adY (by omega) (by simpa using I)).1,(List.mem_filter.1 h).1⟩
def NB(f:Int->List Visit):∀M:List Int,(M.flatMap f).length=(M.map fun i=>(f i).length).sum
 | []=>rfl
 | i::M=>by rw[List.flatMap_cons,Xae,Xba,List.sum_cons,NB f M]
def Ua(h:uG x=[])(F:i<x.orders.length):(fB x i).pick.place>=0\/(fB x i).drop.place>=0:=by
 unfold uG at h;simp only[Xbs,List.map_eq_nil_iff]at h;obtain⟨⟨⟨_,_⟩,I⟩,_⟩:=h;unfold tF at I;rw[Xbs]at I;have h:=List.flatMap_eq_nil_iff.1 I.2 i (Xat.2 F);unfold iE at h;rw[List.map_eq_nil_iff,Kj (List.getElem?_eq_getElem F)]at h;unfold lW at h;simp only[Xbn,Xbs]at h;have e:x.orders[i]=fB x i:=by unfold fB;rw[List.getD,List.getElem?_eq_getElem F];rfl
 rw[e]at h;obtain⟨⟨⟨⟨⟨_,T⟩,J⟩,_⟩,_⟩,_⟩:=h;have E:=hU T;have O:=hU J;simp only[Xag]at E;have a1:=kV.1 (tO E.1);have a2:=kV.1 (tO E.2);simp only[Bool.and_eq_false_iff,beq_eq_false_iff_ne,ne_eq]at O;omega
end
end Rx
namespace Rx
open Go.Aw Go.Aw.D Go.Proofs Ty
open Sq
open Go.Nu
def F3(u v:Visit):qW u v=0↔Ph u v=true:=by obtain⟨a,b⟩:=u;obtain⟨c,d⟩:=v;unfold qW Ph or2 hY KS;simp only[Xak,Xav,Xbh];cases b <;> cases d <;> simp <;> (repeat' split) <;> omega
def Ui(u v:Visit)(h:Ph u v=false):FD u v=decide (qW u v<0):=by
 have h0:¬qW u v=0:=fun e=>by rw[(F3 u v).1 e]at h;cases h
 obtain⟨a,b⟩:=u;obtain⟨c,d⟩:=v;unfold qW or2 hY KS at *;unfold FD;rw[Xar];simp only[Xcm,Xak,decide_eq_true_eq,Xav,Xax];cases b <;> cases d <;> simp at h0 |- <;> (repeat' split) <;> (repeat' split at h0) <;> omega
def Lj:∀a b:List Visit,yH a b=decide (SR a b<0)
 | [],[]=>rfl
 | [],_::_=>rfl
 | _::_,[]=>rfl
 | u::l,v::m=>by
  show(if(!Ph u v)=true then FD u v else yH l m)=decide (or2 (qW u v) (SR l m)<0);cases h:Ph u v with
  | true=>rw[if_neg (by simp),Lj l m];unfold or2;rw[if_pos ((F3 u v).2 h)]
  | false=>
   have h0:¬qW u v=0:=fun e=>by rw[(F3 u v).1 e]at h;cases h
   rw[if_pos (by simp),Ui u v h];unfold or2;rw[if_neg h0]
def alU(x:Instance){s i:Nat}(E:i<=62):G5 x (s:Int) i=(!rK (s:Int) i||O1 x i):=by
 unfold G5;rw[decide_eq_false (show ¬((i:Int)>62)by omega),Xca,wD E,atT,Fz (by omega) (by omega),Xao,Xdb]
 congr 1
 have e:(s:Int)/2^i%2=((s/2^i%2:Nat):Int):=by simp
 rw[e];have F:s/2^i%2<2:=Xby _ (by decide);generalize s/2^i%2=m at *;rcases(show m=0\/m=1 by omega)with rfl|rfl <;> rfl
def VC{x:Instance}(J:Acc x){i:Int}(h0:0<=i)(h1:i<(x.orders.length:Int)):fX x.orders i=mO x i:=by
 obtain⟨o,F⟩:=aK (show i.toNat<x.orders.length by omega);have E:=J.order o (Xac F);have I:cF i x.orders.length=false:=by unfold cF;simp;omega
 unfold fX mO;rw[if_neg (by rw[I];simp),F];exact GR E.pick E.drop
def auC{x:Instance}(F:Acc x)(l:List Visit)(v:Visit):Zu x l v=tD x v.order l:=by
 unfold Zu tD;rw[List.not_any_eq_all_not];refine Mp fun q I=>?_
 have E:=F.beforeB q I;have e:(decide (q.a<0)||decide (q.a>=(x.orders.length:Int)))=false:=by have:=E.a;rw[decide_eq_false (by omega),decide_eq_false (by omega)];rfl
 unfold FJ;rw[e,Xca,VC F E.a.1 E.a.2];have J:iB l (mO x q.a)=(mO x q.a).all (qO l):=rfl;rw[J,bne];cases(q.b == v.order) <;> cases(mO x q.a).all (qO l) <;> rfl
def QM{x:Instance}{i:Int}{v:Visit}(h:v∈mO x i):v.order=i:=by
 unfold mO at h;split at h
 ·unfold cH at h;rcases Xbb.1 h with h|h
  ·split at h
   ·rw[Xaw.1 h]
   ·cases h
  ·split at h
   ·rw[Xaw.1 h]
   ·cases h
 ·cases h
def D5(l:List Visit)(v:Visit):(!decide (bM l v>=0))=decide (bM l v<0):=by
 by_cases h:bM l v>=0
 ·rw[decide_eq_true h,decide_eq_false (by omega)];rfl
 ·rw[decide_eq_false h,decide_eq_true (by omega)];rfl
def asT(l:List Visit)(v:Visit):qO l v=decide (bM l v>=0):=by have:=D5 l v;unfold qO;rw[<-this,Bool.not_not]
def auG(l:List Visit):∀V:List Visit,V.length<=2->V.Nodup->V.filter (fun v=>(!decide (bM l v>=0))&&Bt V l v)=CY l V V.length
 | [],_,_=>rfl
 | [a],_,_=>by
  have F:Bt [a] l a=true:=by
   unfold Bt;rw[List.takeWhile_cons];have:eqV a a=true:=by unfold eqV;simp
   rw[this];rfl
  rw[List.filter_cons,F,Xbh,D5];show _=BJ l [a] 0++[];rw[Xah];unfold BJ;simp
 | [a,b],_,hn=>by
  have I:a≠b:=by simp at hn;exact hn
  have J:∀u:Visit,eqV u u=true:=fun u=>by unfold eqV;simp
  have E:eqV a b=false:=by
   unfold eqV;obtain⟨o,d⟩:=a;obtain⟨T,X⟩:=b;cases h:((o == T)&&((d == X)&&true))with
   | false=>rfl
   | true=>simp only[Xak,Xav,Xbh]at h;exact absurd (by rw[h.1,h.2]) I
  have F:Bt [a,b] l a=true:=by unfold Bt;rw[List.takeWhile_cons,J];rfl
  have Y:Bt [a,b] l b=qO l a:=by unfold Bt;rw[List.takeWhile_cons,E];show(a::List.takeWhile (fun w=> !eqV w b) [b]).all (qO l)=_;rw[List.takeWhile_cons,J];show(qO l a&&true)=_;rw[Xbh]
  rw[List.filter_cons,List.filter_cons,F,Y,Xbh,D5,D5,asT];show _=BJ l [a,b] 0++(BJ l [a,b] 1++[]);rw[Xah];unfold BJ;simp;by_cases h1:bM l a<0 <;> by_cases Z:bM l b<0 <;> by_cases O:0<=bM l a <;> simp[h1,Z,O]
 | _::_::_::_,h,_=>by simp at h
def To(x:Instance)(i:Int):(mO x i).Nodup:=by
 unfold mO;split
 ·unfold cH;split <;> split <;> simp
 ·exact List.nodup_nil
def CJ{x:Instance}(E:Acc x)(X:x.orders.length<=62)(s:Nat)(l:List Visit):yL x (s:Int) l=pA x (s:Int) l:=by
 unfold yL tW pA yD;rw[List.flatMap_def,List.flatMap_def]
 congr 1
 refine List.map_congr_left fun i F=>?_
 have F:=Xat.1 F;unfold zJ Bn Ir;rw[alU x (show i<=62 by omega)];cases h1:(!rK (s:Int) (i:Nat)||O1 x i)with
 | true=>rw[if_pos (by simp),if_pos rfl]
 | false=>
  rw[Xca,if_neg (by simp:¬false=true),VC E (by omega) (by omega)];have I:(mO x (i:Nat)).filter (sF x l)=(mO x (i:Nat)).filter fun v=>((!decide (bM l v>=0))&&Bt (mO x (i:Nat)) l v)&&tD x (i:Nat) l:=
   List.filter_congr fun v J=>by have O:=QM J;unfold sF;rw[auC E,O,VC E (by omega) (by omega)]
  rw[I];cases T:tD x (i:Nat) l with
  | false=>rw[if_pos (by simp)];simp
  | true=>rw[if_neg (by simp),<-auG l _ (Cl x i) (To x i)];simp
end Rx
namespace Rx
open Go.Aw Go.Aw.D Go.Proofs Ty
open Sq
open Go.Nu
structure Cx(x:Instance)(s:Nat):Prop where
 ck:uG x=[]
 n8:x.orders.length<=8
 pos:0<s
 top:s<2^x.orders.length
section
variable{x:Instance}{s:Nat}{l:List Visit}
def KI(x:Instance)(s:Nat):List Visit:=(Sq.dD (s:Int)).flatMap fun i=>fX x.orders i
def Kp:(KI x s).length=jO x (s:Int):=by unfold KI;rw[NB];rfl
def mQ{a:Int}:a∈Sq.dD (s:Int)↔∃i:Nat,a=(i:Nat)/\i<63/\s.testBit i=true:=by
 unfold Sq.dD Sq.rN;rw[Xbe];constructor
 ·rintro⟨i,F,rfl⟩;obtain⟨h1,E⟩:=List.mem_filter.1 F;have h1:=Xat.1 h1;rw[jF (by omega) (by omega),Xao]at E;exact⟨i,rfl,h1,E⟩
 ·rintro⟨i,rfl,h1,E⟩;refine⟨i,List.mem_filter.2 ⟨Xat.2 h1,?_⟩,rfl⟩;rw[jF (by omega) (by omega),Xao];exact E
def Fq(h:Cx x s){i:Nat}(E:s.testBit i=true):i<x.orders.length:=by
 false_or_by_contra
 rename_i F;rw[Xcv (Xbu h.top (Xau (by decide) (by omega)))]at E;cases E
def Eu{i:Nat}(F:i<x.orders.length){v:Visit}(E:v∈fX x.orders (i:Nat)):v.order=(i:Nat):=by
 rw[Cw F]at E;unfold gW at E;rcases Xbb.1 E with E|E
 ·split at E
  ·rw[Xaw.1 E]
  ·cases E
 ·split at E
  ·rw[Xaw.1 E]
  ·cases E
def EJ(h:Cx x s){v:Visit}:v∈KI x s↔∃i:Nat,i<x.orders.length/\s.testBit i=true/\v∈fX x.orders (i:Nat):=by
 unfold KI;rw[List.mem_flatMap];constructor
 ·rintro⟨a,I,F⟩;obtain⟨i,rfl,_,E⟩:=mQ.1 I;exact⟨i,Fq h E,E,F⟩
 ·rintro⟨i,J,E,F⟩;have:=h.n8;exact⟨_,mQ.2 ⟨i,rfl,by omega,E⟩,F⟩
def Uv(h:Cx x s)(E:Sq.kC x (s:Int) l):∀v∈l,v∈KI x s:=fun v I=>by obtain⟨a,b,e⟩:=List.append_of_mem I;have:=h.n8;obtain⟨i,O,F,J⟩:=aiK (by omega) (E a v b e);rw[jF (by omega) (by omega),Xao]at F;exact(EJ h).2 ⟨i,O,F,J⟩
def SB(h:Cx x s)(E:Sq.kC x (s:Int) l):∀v∈l,∃i:Nat,v.order=(i:Nat)/\i<x.orders.length/\s.testBit i=true:=fun v J=>by obtain⟨i,F,I,O⟩:=(EJ h).1 (Uv h E v J);exact⟨i,Eu F O,F,I⟩
def ahB{p:List Visit}{v:Visit}(h:v∈pA x (s:Int) p):¬v∈p:=by
 unfold pA yD at h;obtain⟨i,I,h⟩:=List.mem_flatMap.1 h;unfold Bn at h;split at h
 ·cases h
 have h:=(List.mem_filter.1 h).2;unfold sF at h;simp only[Xak,Xax,decide_eq_false_iff_not]at h;intro E;obtain⟨j,h1,F⟩:=Jw E;have:=aeO h1 F;have:=h.1.1;omega
def aeF(E:Sq.kC x (s:Int) l):Dis l:=avX fun j v F I=>by
 have e:l=l.take j++v::l.drop (j+1):=by rw[<-tT F,Xci]
 exact ahB (E _ _ _ e) I
def FZ(h:Cx x s)(E:Sq.kC x (s:Int) l):l.length<=jO x (s:Int):=by rw[<-Kp];exact T9 l _ (aeF E) (Uv h E)
def Z7(h:Cx x s)(E:Sq.kC x (s:Int) l)(I:l.length=jO x (s:Int)):pA x (s:Int) l=[]:=by
 cases e:pA x (s:Int) l with
 | nil=>rfl
 | cons v r=>have F:=FZ h (E.snoc (v:=v) (by rw[e];exact Xcq));rw[Xae,I]at F;simp at F;omega
def ajH(h:Cx x s)(E:Sq.kC x (s:Int) l)(F:l.length=jO x (s:Int)):∀v∈KI x s,v∈l:=
 (Yp (fun _=>0) l _ (aeF E) (Uv h E) (by rw[Kp,F])).2
def CM{i:Int}:iU l i=true↔∃v∈l,v.order=i:=by unfold iU;rw[Xas];simp
def JM(h:Cx x s)(O:Sq.kC x (s:Int) l):(cU l).1=(s:Int)↔∀i:Nat,i<x.orders.length->iU l (i:Nat)=s.testBit i:=by
 have hn:=h.n8;have J:=SB h O;have e:(cU l).1=((wP l:Nat):Int):=by
  rw[<-Kt];unfold uO;rw[if_pos];refine Xaj.2 fun v E=>?_
  obtain⟨i,h1,Y,_⟩:=J v E;unfold okV;rw[h1];simp;omega
 have F:∀i:Nat,(wP l).testBit i=iU l (i:Nat):=fun i=>by
  rw[Je];unfold iU;refine rX fun v E=>?_
  obtain⟨k,h1,Y,_⟩:=J v E;rw[h1,Xao,Xar];simp;omega
 rw[e];constructor
 ·intro X i T;rw[<-F i,show wP l=s by exact_mod_cast X]
 ·intro X;have:wP l=s:=Nat.eq_of_testBit_eq fun i=>by
   by_cases T:i<x.orders.length
   ·rw[F,X i T]
   ·have h1 : s.testBit i = false := by
     cases I:s.testBit i with
     | false=>rfl
     | true=>exact absurd (Fq h I) T
    rw[h1,F];cases I:iU l (i:Nat)with
    | false=>rfl
    | true=>obtain⟨v,E,Z⟩:=CM.1 I;obtain⟨k,h1,Y,_⟩:=J v E;omega
  rw[this]
def RB(h:Cx x s)(E:Sq.kC x (s:Int) l)(Y:l.length=jO x (s:Int)):(cU l).1=(s:Int):=by
 refine(JM h E).2 fun i J=>?_
 cases T:s.testBit i with
 | true=>
  have F:=Ua h.ck J;have O:∃v,v∈fX x.orders (i:Nat):=by
   rw[Cw J];unfold gW;rcases F with F|F
   ·exact⟨⟨(i:Nat),false⟩,Xbt _ (by rw[if_pos (decide_eq_true F)];simp)⟩
   ·exact⟨⟨(i:Nat),true⟩,Xcw _ (by rw[if_pos (decide_eq_true F)];simp)⟩
  obtain⟨v,I⟩:=O;exact CM.2 ⟨v,ajH h E Y v ((EJ h).2 ⟨i,J,T,I⟩),Eu J I⟩
 | false=>
  cases Z:iU l (i:Nat)with
  | false=>rfl
  | true=>
   obtain⟨v,I,ho⟩:=CM.1 Z;obtain⟨k,h1,h2,X⟩:=SB h E v I;have:k=i:=by omega
   rw[this,T]at X;cases X
def Xa:∀{a b:List Visit},Dis a->Dis b->(∀v∈a,¬v∈b)->Dis (a++b)
 | [],b,_,hb,_=>hb
 | v::a,b,ha,hb,hd=>by
  refine⟨fun E=>?_,Xa ha.2 hb fun u F=>hd u (List.mem_cons_of_mem _ F)⟩;rcases Xbb.1 E with E|E
  ·exact ha.1 E
  ·exact hd v Xcq E
def alV{i:Nat}(E:i<x.orders.length):Dis (fX x.orders (i:Nat)):=by rw[Cw E];unfold gW;split <;> split <;> simp[Dis]
def Qd:∀M:List Nat,M.Nodup->(∀i∈M,i<x.orders.length)->Dis (M.flatMap fun i=>fX x.orders (i:Nat))
 | [],_,_=>trivial
 | i::M,hn,hM=>by
  obtain⟨h1,J⟩:=List.nodup_cons.1 hn;rw[List.flatMap_cons];refine Xa (alV (hM i (by simp))) (Qd M J fun k E=>hM k (by simp[E])) fun v I O=>?_
  obtain⟨k,E,F⟩:=List.mem_flatMap.1 O;have T:=Eu (hM i (by simp)) I;have X:=Eu (hM k (by simp[E])) F;have:i=k:=by omega
  exact h1 (this▸E)
def alH(h:Cx x s):Dis (KI x s):=by
 have e:KI x s=((List.range 63).filter fun i=>dO (s:Int) (i:Nat)).flatMap fun i=>fX x.orders (i:Nat):=by unfold KI Sq.dD Sq.rN;rw[List.flatMap_map]
 rw[e];refine Qd _ (List.nodup_range.filter _) fun i F=>?_
 obtain⟨h1,E⟩:=List.mem_filter.1 F;have h1:=Xat.1 h1;rw[jF (by omega) (by omega),Xao]at E;exact Fq h E
def aoI(h:Cx x s)(T:Sq.kC x (s:Int) l)(hs:SeqB x l)(ho:(cU l).1=(s:Int)):l.length=jO x (s:Int):=by
 have h1:=FZ h T;have hb:=(JM h T).1 ho;have h2:(KI x s).length<=l.length:=T9 _ l (alH h) fun v hv=>by
  obtain⟨i,hi,X,E⟩:=(EJ h).1 hv;obtain⟨u,Z,ab⟩:=CM.1 ((hb i hi).trans X);obtain⟨a,d,I,ha,J,_⟩:=hs.vis u Z;have e:a=i:=by have:=congrArg Visit.order I;simp only at this;omega
  subst e;rw[Cw hi]at E;by_cases F:Hk (fB x a)=true
  ·obtain⟨m1,m2,_⟩:=hs.pair a hi F d (I▸Z);rw[GH F]at E;rcases Xbc.1 E with rfl|E
   ·exact m1
   ·rw[Xaw.1 E];exact m2
  ·have F:Hk (fB x a)=false:=by simpa using F
   have aa:v=u:=by
    rw[I];unfold Hk at F;unfold gW at E;unfold stR at J;cases d with
    | false=>
     have O:(fB x a).pick.place>=0:=by simpa using J
     have Y:decide ((fB x a).drop.place>=0)=false:=by rw[decide_eq_true O,Xaz]at F;exact F
     rw[Y,decide_eq_true O]at E;simpa using E
    | true=>
     have O:(fB x a).drop.place>=0:=by simpa using J
     have Y:decide ((fB x a).pick.place>=0)=false:=by rw[decide_eq_true O,Xbh]at F;exact F
     rw[Y,decide_eq_true O]at E;simpa using E
   rw[aa];exact Z
 rw[Kp]at h2;omega
end
end Rx
namespace Rx
open Go.Aw Go.Aw.D Go.Proofs Ty
open Sq
open Go.Nu
abbrev rtQ(k:Nat)(l:List Visit):Route:=⟨(k:Nat),0,[],l⟩
def auB{x:Instance}(h:Acc x){k:Nat}{t:VType}(ht:x.types[k]?=some t){l:List Visit}(E:(lL x (rtQ k l)).2=0):
  bW x (rtQ k l)=true/\∃c m,c.length=l.length+1/\kO x t (rtQ k l) c 0 (gK t (rtQ k l))=.ok m:=by
 unfold lL at E;by_cases O:(!bW x (rtQ k l)||decide (((rtQ k l).rests.length:Int)>((rtQ k l).visits.length:Int)+1))=true
 ·rw[if_pos O]at E;cases E
 rw[if_neg O]at E;have J:x.types[(rtQ k l).type.toNat]?=some t:=by show x.types[(((k:Nat):Int)).toNat]?=_;rw[Xao];exact ht
 rw[J]at E;have X:bW x (rtQ k l)=true:=by
  cases e:bW x (rtQ k l)with
  | true=>rfl
  | false=>rw[e]at O;simp at O
 refine⟨X,?_⟩;obtain⟨hB,_⟩:=h.route X J
 change (Ei x t (rtQ k l)).2=0 at E
 have T:=amW x t (rtQ k l) (l.length+1) (Xaf _);have e:Ei x t (rtQ k l)=match dpP x t (rtQ k l) (gB x l) (l.length+1)with
  | []=>(HY (Bs x t (gB x l) (cV (rtQ k l)) 0 (gK t (rtQ k l))),Fy (Bs x t (gB x l) (cV (rtQ k l)) 0 (gK t (rtQ k l))))
  | l0::ls=>((ls.foldl Sq.nB l0).sheet,0):=rfl
 change dpP x t (rtQ k l) (gB x l) (l.length+1)=_ at T
 rw[e,T]at E;cases F:dpL x t (rtQ k l) (l.length+1)with
 | nil=>
  exfalso;rw[F]at E
  change Fy (Bs x t (gB x l) (cV (rtQ k l)) 0 (gK t (rtQ k l)))=0 at E
  have I:=nM (r:=rtQ k l) (by show 0<=_;omega);have Y:=X3 x t (rtQ k l) (cV (rtQ k l)) 0 (gK t (rtQ k l)) (by rw[I];omega)
  change Bs x t (gB x l) _ _ _=_ at Y
  rw[Y]at E;obtain⟨e,Z⟩:=(UE hB).1 F (cV (rtQ k l)) I ((uW (by rw[I];show 0<=_;omega)).2 (by show[] <+: _;exact List.nil_prefix));rw[Z]at E;exact EN _ _ _ _ Z E
 | cons l0 ls=>obtain⟨bs,h1,_,h3⟩:=B9 (x:=x) (t:=t) (r:=rtQ k l) (l.length+1) l0 (by rw[F];exact Xcq);exact⟨bs,l0,h1,h3⟩
def Q0{x:Instance}{t:VType}{r:Route}:∀(a b:List Bool) (k:Nat) (l m:Lab),kO x t r (a++b) k l=.ok m->∃E,kO x t r a k l=.ok E
 | [],b,k,l,m,_=>⟨l,rfl⟩
 | c::a,b,k,l,m,h=>by
  rw[Xch]at h;unfold kO at h |-;cases e:gI x t r k l c with
  | error e'=>rw[e]at h;cases h
  | ok l'=>rw[e]at h;exact Q0 a b (k+1) l' m h
def ahZ{s u:Sta}(h:Eg s u=true):u=s:=by unfold Eg at h;obtain⟨a,b⟩:=s;obtain⟨c,d⟩:=u;simp at h;simp[h]
def FN{l:List Sta}{s u:Sta}(h:u∈l):u∈xF l s:=by
 unfold xF;split
 ·exact h
 ·exact Xbt _ h
def LY(l:List Sta)(s:Sta):s∈xF l s:=by
 unfold xF;split
 next F=>obtain⟨u,E,I⟩:=Xas.1 F;rw[<-ahZ I];exact E
 ·exact Xcw _ (by simp)
def V0{t:VType}{l:List Sta}{d dr:Int}{u:Sta}(h:u∈l):u∈mW t l d dr:=FN (FN h)
def IQ(t:VType)(l:List Sta)(m:Lab)(b:Bool):(⟨iA t m b,nO m b⟩:Sta)∈mW t l m.ready m.since:=by
 unfold mW iA nO;cases b with
 | false=>exact FN (LY _ _)
 | true=>exact LY _ _
def afL{n:Network}{t:VType}{src:Int}{st:Stop}{out:List Sta}{a u:Sta}(h:u∈out):u∈Ea n t src st out a:=by
 unfold Ea;simp only;split
 ·exact h
 ·split
  ·exact h
  ·exact V0 h
def Na{n:Network}{t:VType}{src:Int}{st:Stop}{u:Sta}:∀(l out:List Sta),u∈out->u∈l.foldl (Ea n t src st) out
 | [],out,h=>h
 | a::l,out,h=>Na l _ (afL h)
def L9{n:Network}{t:VType}{src:Int}{st:Stop}{u a:Sta}(E:∀out,u∈Ea n t src st out a):∀(l out:List Sta),a∈l->u∈l.foldl (Ea n t src st) out
 | b::l,out,h=>by
  rcases Xbc.1 h with rfl|h
  ·exact Na l _ (E out)
  ·exact L9 E l _ h
def ahD(x:Instance)(t:VType)(a:Int×List Sta)(v:Visit):Int×List Sta:=((eQ x v).1.place,yA x.net t a.1 (eQ x v).1 a.2)
def stF(x:Instance)(t:VType)(l:List Visit):Int×List Sta:=l.foldl (ahD x t) (t.src,mW t [] t.start 0)
def Jz(x:Instance)(t:VType)(l:List Visit)(v:Visit):stF x t (l++[v])=ahD x t (stF x t l) v:=by unfold stF;rw[Xbm];rfl
def Jq{x:Instance}{v:Visit}(h:(bI x v).2=true):eQ x v=((bI x v).1,0):=by unfold eQ;rw[if_pos h]
def agN{x:Instance}{t:VType}{k:Nat}{l:List Visit}(h:∀v∈l,(bI x v).2=true):∀j,j<=l.length->(stF x t (l.take j)).1=iF x t (rtQ k l) j
 | 0,_=>rfl
 | j+1,hj=>by obtain⟨v,E⟩:=aK (show j<l.length by omega);rw[bA E,Jz];show(eQ x v).1.place=_;rw[Jq (h v (Xac E))];show(bI x v).1.place=(match (rtQ k l).visits[j]? with|some v=>(bI x v).1.place|none=>0);rw[show(rtQ k l).visits[j]?=some v from E]
def alI{x:Instance}{t:VType}{k:Nat}{l:List Visit}{c:List Bool}(h0:0<=t.start)(X:∀v∈l,(bI x v).2=true)(hc:c.length=l.length+1):
  ∀j,j<=l.length->∀m,kO x t (rtQ k l) (c.take j) 0 (gK t (rtQ k l))=.ok m->∀b,(⟨iA t m b,nO m b⟩:Sta)∈(stF x t (l.take j)).2
 | 0,_,m,E,b=>by
  have E:gK t (rtQ k l)=m:=by have E:(Except.ok (gK t (rtQ k l)):Except Int Lab)=.ok m:=E;injection E
  subst E;have e:gK t (rtQ k l)=⟨t.start,0,aX⟩:=by
   unfold gK
   congr 1
   unfold eN;show(if t.start<(0:Int)then(0:Int)else t.start)=t.start;rw[if_neg (by omega)]
  have:=IQ t [] ⟨t.start,0,aX⟩ b;rw[e];exact this
 | j+1,hj,m,E,b=>by
  obtain⟨v,T⟩:=aK (show j<l.length by omega);obtain⟨q,hq⟩:=aK (show j<c.length by omega);rw[bA hq]at E;have I:(c.take j).length=j:=by rw[Xap];omega
  rw[qG,I]at E;cases J:kO x t (rtQ k l) (c.take j) 0 (gK t (rtQ k l))with
  | error e=>rw[J]at E;cases E
  | ok m'=>
   rw[J]at E;have E:gI x t (rtQ k l) (0+j) m' q=.ok m:=E;rw[Xcg]at E;unfold gI at E;rw[show(rtQ k l).visits[j]?=some v from T]at E;obtain⟨g1,g2,g3,rfl⟩:=Il (k:=0) E;have ih:=alI h0 X hc j (by omega) m' J q;have F:=Jq (X v (Xac T));have O:=agN (t:=t) (k:=k) X j (by omega);rw[bA T,Jz];unfold ahD yA;rw[F,O];refine L9 (fun out=>?_) _ _ ih;have Y:fO x.net t.profile (iF x t (rtQ k l) j) (bI x v).1.place (iA t m' q)=goL x t (iF x t (rtQ k l) j) (bI x v).1.place m' q:=rfl;unfold Ea;simp only[Y];have Z:((goL x t (iF x t (rtQ k l) j) (bI x v).1.place m' q).2.2 != 0||decide (W (W (nO m' q+(goL x t (iF x t (rtQ k l) j) (bI x v).1.place m' q).1)-iA t m' q)>t.drive))=false:=by
    rw[g1];have:¬mP x t (iF x t (rtQ k l) j) (bI x v).1.place m' q>t.drive:=by omega
    unfold mP at this;rw[decide_eq_false this];rfl
   have c2:Rx.nE (bI x v).1 (goL x t (iF x t (rtQ k l) j) (bI x v).1.place m' q).1=(W (eN (goL x t (iF x t (rtQ k l) j) (bI x v).1.place m' q).1 (bI x v).1.start+(bI x v).1.service),0):=by unfold Rx.nE;rw[if_neg (by omega)]
   rw[if_neg (by rw[Z];simp),c2,if_neg (by simp)];exact IQ t out ⟨W (eN (goL x t (iF x t (rtQ k l) j) (bI x v).1.place m' q).1 (bI x v).1.start+(bI x v).1.service),mP x t (iF x t (rtQ k l) j) (bI x v).1.place m' q,iY x t (iF x t (rtQ k l) j) (bI x v).1 j m' q⟩ b
def XW{x:Instance}(h:Acc x){k:Nat}{t:VType}(I:x.types[k]?=some t){l:List Visit}(Y:(lL x (rtQ k l)).2=0):(∀v∈l,(bI x v).2=true)/\∀j,j<=l.length->(stF x t (l.take j)).2≠[]:=by
 obtain⟨E,c,m,X,J⟩:=auB h I Y;have O:∀v∈l,(bI x v).2=true:=by unfold bW at E;simp only[Xak]at E;exact Xaj.1 E.2
 refine⟨O,fun j T he=>?_⟩;rw[<-Xci j c]at J;obtain⟨Z,F⟩:=Q0 _ _ _ _ _ J;have h0:=(h.type t (Xac I)).start.1;have:=alI (k:=k) h0 O X j T Z F false;rw[he]at this;cases this
end Rx
namespace Rx
open Go.Aw Go.Aw.D Go.Proofs Ty
open Sq
open Go.Nu
section
variable{x:Instance}{s:Nat}{l:List Visit}
structure SeqF(x:Instance)(l:List Visit):Prop where
 off:(l.any fun v=>vP x v.order)=false
 apart:(x.apart.any fun q=>iU l q.a&&iU l q.b)=false
 before:(x.before.any fun q=> !HE l q.a q.b)=false
def amQ(h:sV x l=0):SeqF x l:=by
 unfold sV at h;split at h
 ·cases h
 split at h
 ·cases h
 next F=>
 split at h
 ·cases h
 split at h
 ·cases h
 split at h
 ·cases h
 next E=>
 split at h
 ·cases h
 next I=>
 exact⟨by simpa using F,by simpa using E,by simpa using I⟩
def Ht(l:List Visit)(i:Nat):Nat:=l.findIdx fun v=>v.order == (i:Int)
def X5{i:Nat}(h:iU l (i:Nat)=true):Ht l i<l.length/\Sq.fB l (Ht l i)=(i:Int):=by
 obtain⟨v,F,J⟩:=CM.1 h;have E:Ht l i<l.length:=List.findIdx_lt_length_of_exists ⟨v,F,by simpa using J⟩;refine⟨E,?_⟩;have I:(l[Ht l i]'(E)).order=(i:Int):=by have:=List.findIdx_getElem (xs:=l) (p:=fun v:Visit=>v.order == (i:Int)) (w:=E);exact Xav.1 this
 unfold Sq.fB;rw[List.getD,List.getElem?_eq_getElem E];exact I
def alW(x:Instance)(i:Int):O8 x i=vP x i:=by unfold O8 vP;cases x.orders[i.toNat]? <;> rfl
def Ww(Y:Acc x)(X:SeqF x l){q:Pair}(O:q∈x.before){a b:Nat}(ha:q.a=(a:Nat))(Z:q.b=(b:Nat))(F:iU l (b:Nat)=true):iU l (a:Nat)=true/\Ht l a<Ht l b:=by
 have E:=(Y.beforeB q O).ne;have h1:HE l q.a q.b=true:=by have:=Xbf.1 X.before q O;simpa using this
 rw[JF E,ha,Z,F]at h1;simp only[Xct,Xca,Xak,Xax]at h1;refine⟨h1.1,?_⟩;obtain⟨p1,I⟩:=X5 h1.1;obtain⟨q1,J⟩:=X5 F
 false_or_by_contra
 rename_i hc;have T:Ht l a≠Ht l b:=fun e=>by rw[e,J]at I;omega
 have:GN l (a:Nat) (b:Nat)=true:=Lr.2 ⟨Ht l a,Ht l b,by omega,p1,I,J⟩;rw[this]at h1;cases h1.2
def ChI(s:Nat)(l:List Visit)(M:List Nat):Prop:=∀(i u:Nat),M[i]?=some u->∀j,u.testBit j=true->s.testBit i=true->s.testBit j=true/\Ht l j<Ht l i
def afS(h:Cx x s)(hx:Acc x)(hf:SeqF x l)(hb:∀i:Nat,i<x.orders.length->iU l (i:Nat)=s.testBit i){M:List Nat}(X:ChI s l M){q:Pair}(hq:q∈x.before):ChI s l (A8 M q):=by
 unfold A8;split
 ·exact X
 next hc=>
 have Y:=hx.beforeB q hq;obtain⟨a,ha⟩:=Int.eq_ofNat_of_zero_le Y.a.1;obtain⟨b,T⟩:=Int.eq_ofNat_of_zero_le Y.b.1;have aa:a<x.orders.length:=by have:=Y.a.2;omega
 have Z:b<x.orders.length:=by have:=Y.b.2;omega
 simp only[Xcm,decide_eq_true_eq,not_or]at hc;rw[ha,T]at hc |-;rw[Xao,Xao];obtain⟨ua,I⟩:=aK (l:=M) (k:=a) (by omega);obtain⟨ub,O⟩:=aK (l:=M) (k:=b) (by omega);rw[ZF I,ZF O];intro i u F j E hs;by_cases e:i=b
 ·subst e;rw[List.getElem?_set_self (by omega)]at F;have F:=Option.some.inj F;subst F;have hB:iU l (i:Nat)=true:=(hb i Z).trans hs;obtain⟨hA,ab⟩:=Ww hx hf hq ha T hB;have J:s.testBit a=true:=(hb a aa).symm.trans hA;rw[Nat.testBit_or,Nat.testBit_or,Xcm,Xcm]at E;rcases E with(E|E)|E
  ·exact X i ub O j E hs
  ·obtain⟨h1,h2⟩:=X a ua I j E J;exact⟨h1,by omega⟩
  ·rw[Nat.testBit_two_pow]at E;have:a=j:=by simpa using E
   subst this;exact⟨J,ab⟩
 ·rw[List.getElem?_set_ne (by omega)]at F;exact X i u F j E hs
def QJ(h:Cx x s)(I:Acc x)(F:SeqF x l)(E:∀i:Nat,i<x.orders.length->iU l (i:Nat)=s.testBit i):∀(L:List Pair) (M:List Nat),(∀q∈L,q∈x.before)->ChI s l M->ChI s l (L.foldl A8 M)
 | [],M,_,hM=>hM
 | q::L,M,hL,hM=>QJ h I F E L _ (fun p J=>hL p (by simp[J])) (afS h I F E hM (hL q (by simp)))
def Yw(h:Cx x s)(I:Acc x)(F:SeqF x l)(E:∀i:Nat,i<x.orders.length->iU l (i:Nat)=s.testBit i):∀(f:Nat) (M:List Nat),ChI s l M->ChI s l (Q5 x.before f M)
 | 0,M,hM=>hM
 | f+1,M,hM=>by
  unfold Q5;split
  ·exact hM
  ·exact Yw h I F E f _ (QJ h I F E x.before M (fun q J=>J) hM)
def Wu(h:Cx x s)(O:Acc x)(J:SeqF x l)(I:∀i:Nat,i<x.orders.length->iU l (i:Nat)=s.testBit i):ChI s l (uN x.orders.length x.before):=by
 unfold uN;refine Yw h O J I _ _ fun i u E j F=>?_
 have E:u=0:=List.eq_of_mem_replicate (Xac E);rw[E,Nat.zero_testBit]at F;cases F
def UV(h:Cx x s)(X:Acc x)(aa:Sq.kC x (s:Int) l)(Y:sV x l=0)(ho:(cU l).1=(s:Int)):xP x (s:Int)=0:=by
 have O:=amQ Y;have hb:=(JM h aa).1 ho;have hn:=h.n8;have T:∀{a:Int},0<=a->a<(x.orders.length:Int)->dO (s:Int) a=iU l a:=fun {a} h0 h1=>by obtain⟨i,rfl⟩:=Int.eq_ofNat_of_zero_le h0;rw[jF (by omega) (by omega),Xao,hb i (by omega)]
 unfold xP;rw[if_neg (by omega)];rw[if_neg (by rw[pI fun a J=>?_];simp;obtain⟨i,rfl,_,E⟩:=mQ.1 J;have:=Fq h E;exact decide_eq_false (by omega))];rw[if_neg (by rw[pI fun a J=>?_];simp;obtain⟨i,rfl,_,E⟩:=mQ.1 J;have hi:=Fq h E;obtain⟨v,hv,Z⟩:=CM.1 ((hb i hi).trans E);have:=Xbf.1 O.off v hv;rw[Z]at this;rw[alW];simpa using this)];rw[if_neg (by rw[pI fun q I=>?_];simp;have F:=X.apartB q I;rw[T F.a.1 F.a.2,T F.b.1 F.b.2];have:=Xbf.1 O.apart q I;simpa using this)];rw[if_neg (by
  rw[pI fun q I=>?_];simp;have F:=X.beforeB q I;rw[T F.a.1 F.a.2,T F.b.1 F.b.2];have h1:=Xbf.1 O.before q I;have h1:HE l q.a q.b=true:=by simpa using h1
  rw[JF F.ne]at h1;cases e1:iU l q.b <;> cases e2:iU l q.a <;> simp_all)]
 rw[if_neg];rw[pI fun a J=>?_]
 ·simp
 obtain⟨i,rfl,ab,E⟩:=mQ.1 J;have hi:=Fq h E;have hL:=GZ x.orders.length x.before;obtain⟨u,hu⟩:=aK (l:=uN x.orders.length x.before) (k:=i) (by omega);rw[Xao,ZF hu,jF (by omega) (by omega),Xao];cases e:u.testBit i with
 | false=>rfl
 | true=>have:=(Wu h X O hb i u hu i e E).2;omega
end
end Rx
namespace Rx
open Go.Aw Go.Aw.D Go.Proofs Ty
open Sq
open Go.Nu
def pN(x:Instance)(r:Route):Int×Int:=if((pQ x r).2.2 != 0)=true then(0,(pQ x r).2.2)else oM (pQ x r).2.1
def VW{x:Instance}(E:Acc x)(r:Route):pN x r=fH x r:=by unfold pN fH;rw[E.eval r]
def rI(x:Instance)(b:Column×Bool)(l:List Visit):Column×Bool:=
 if((cU l).1 != b.1.set||(pQ x ⟨b.1.type,0,[],l⟩).2.2 != 0)=true then b
 else if((pN x ⟨b.1.type,0,[],l⟩).2 != 0||(b.2&& !uQ ⟨b.1.type,b.1.set,(pN x ⟨b.1.type,0,[],l⟩).1,⟨b.1.type,0,[],l⟩⟩ b.1))=true then b
 else(⟨b.1.type,b.1.set,(pN x ⟨b.1.type,0,[],l⟩).1,⟨b.1.type,0,[],l⟩⟩,true)
def eI(x:Instance):Nat->Column×Bool->List Visit->Column×Bool
 | 0,b,_=>b
 | f+1,b,l=>if((yL x b.1.set l).length:Int)=0 then rI x b l else(yL x b.1.set l).foldl (fun b v=>eI x f b (l++[v])) b
def Y9(x:Instance)(b:Column×Bool)(l:List Visit):(rI x b l).1.type=b.1.type/\(rI x b l).1.set=b.1.set:=by
 unfold rI;split
 ·exact⟨rfl,rfl⟩
 ·split
  ·exact⟨rfl,rfl⟩
  ·exact⟨rfl,rfl⟩
def MF{α:Type}{g:Column×Bool->α->Column×Bool}(E:∀b v,(g b v).1.type=b.1.type/\(g b v).1.set=b.1.set):∀(vs:List α) (b:Column×Bool),(vs.foldl g b).1.type=b.1.type/\(vs.foldl g b).1.set=b.1.set
 | [],b=>⟨rfl,rfl⟩
 | v::vs,b=>by obtain⟨h1,I⟩:=MF E vs (g b v);obtain⟨F,J⟩:=E b v;exact⟨h1.trans F,I.trans J⟩
def xJ(x:Instance):∀(f:Nat) (b:Column×Bool) (l:List Visit),(eI x f b l).1.type=b.1.type/\(eI x f b l).1.set=b.1.set
 | 0,b,l=>⟨rfl,rfl⟩
 | f+1,b,l=>by
  unfold eI;split
  ·exact Y9 x b l
  ·exact MF (fun b v=>xJ x f b _) _ b
def AJ{x:Instance}{r:Route}(E:(kK x r).2.2=0):sV x r.visits=0/\(lL x r).2=0:=by
 unfold kK at E;split at E
 ·cases E
 split at E
 ·next c=>rw[show sV x r.visits=0 from E]at c;simp at c
 next I=>
 split at E
 ·next c=>rw[show D9 x r=0 from E]at c;simp at c
 split at E
 ·next c=>rw[show A5 x r=0 from E]at c;simp at c
 split at E
 ·next c=>rw[show(lL x r).2=0 from E]at c;simp at c
 next F=>exact⟨by simpa using I,by simpa using F⟩
section
variable{x:Instance}{s k:Nat}{t:VType}
def F1(x:Instance)(s k:Nat)(l:List Visit):Prop:=∀L,l <+: L->Sq.kC x (s:Int) L->¬((cU L).1=(s:Int)/\(kK x (rtQ k L)).2.2=0)
def F1.more{l:List Visit}(h:F1 x s k l)(v:Visit):F1 x s k (l++[v]):=fun L E F=>h L ((List.prefix_append l [v]).trans E) F
def Xw(F:Acc x){b:Column×Bool}(E:b.1.type=(k:Int)/\b.1.set=(s:Int)){l:List Visit}(h:¬((cU l).1=(s:Int)/\(kK x (rtQ k l)).2.2=0)):rI x b l=b:=by
 unfold rI;rw[if_pos];rw[E.1,E.2,<-F.eval];cases e:((cU l).1 != (s:Int)||(kK x ⟨(k:Int),0,[],l⟩).2.2 != 0)with
 | true=>rfl
 | false=>simp only[Xag,bne_eq_false_iff_eq]at e;exact absurd e h
def XR{α:Type}{g:Column×Bool->α->Column×Bool}{b:Column×Bool}:∀vs:List α,(∀v∈vs,g b v=b)->vs.foldl g b=b
 | [],_=>rfl
 | v::vs,h=>by rw[Xbv,h v (by simp)];exact XR vs fun u E=>h u (by simp[E])
def CT(E:Acc x)(F:x.orders.length<=62):∀(f:Nat) (b:Column×Bool) (l:List Visit),b.1.type=(k:Int)/\b.1.set=(s:Int)->Sq.kC x (s:Int) l->F1 x s k l->eI x f b l=b
 | 0,_,_,_,_,_=>rfl
 | f+1,b,l,hb,hst,h=>by
  unfold eI;rw[hb.2,CJ E F];split
  ·exact Xw E hb (h l (List.prefix_refl l) hst)
  ·exact XR _ fun v I=>CT E F f b _ hb (hst.snoc I) (h.more v)
def alZ(F:Acc x)(I:x.types[k]?=some t){l:List Visit}(h:(stF x t l).2=[]):F1 x s k l:=fun L E O J=>by obtain⟨r,rfl⟩:=E;have:=(XW F I (AJ J.2).2).2 l.length (by simp);rw[List.take_left]at this;exact this h
def aaE(I:Acc x)(J:x.types[k]?=some t){l:List Visit}{v:Visit}(F:v∈l)(h:(bI x v).2=false):F1 x s k l:=fun L E T O=>by have:=(XW I J (AJ O.2).2).1 v (E.subset F);rw[h]at this;cases this
structure RelS(sr:Sr)(b:Column×Bool):Prop where
 f:b.2=sr.found
 best:b.2=true->sr.best=b.1
def ZH(hx:Acc x)(h:Cx x s){sr:Sr}{b:Column×Bool}(T:RelS sr b)(h1:sr.x=x)(h2:sr.kind=k)(h3:sr.set=(s:Int))(hb:b.1.type=(k:Int)/\b.1.set=(s:Int)){l:List Visit}(aa:Sq.kC x (s:Int) l)(hl:l.length=jO x (s:Int)):
   RelS (K4 sr l) (rI x b l):=by
 have ho:=RB h aa hl;have eP:fH sr.x (mD sr l)=fH x ⟨(k:Int),0,[],l⟩:=by unfold mD;rw[h1,h2]
 have eC:∀p,Jc sr l p=⟨(k:Int),(s:Int),p,⟨(k:Int),0,[],l⟩⟩:=fun p=>by unfold Jc mD;rw[h2,h3]
 have e0:((s:Int) != (s:Int))=false:=by simp
 have eL : rI x b l = if ((kK x ⟨(k : Int), 0, [], l⟩).2.2 != 0) = true then b
     else if((fH x ⟨(k:Int),0,[],l⟩).2 != 0||(b.2&& !uQ ⟨(k:Int),(s:Int),(fH x ⟨(k:Int),0,[],l⟩).1,⟨(k:Int),0,[],l⟩⟩ b.1))=true then b
     else(⟨(k:Int),(s:Int),(fH x ⟨(k:Int),0,[],l⟩).1,⟨(k:Int),0,[],l⟩⟩,true):=by
   unfold rI;rw[hb.1,hb.2,ho,VW hx,<-hx.eval,e0,Xca]
 have ab:(kK x ⟨(k:Int),0,[],l⟩).2.2≠0->(fH x ⟨(k:Int),0,[],l⟩).2≠0:=fun J=>by unfold fH;rw[if_pos (show((kK x ⟨(k:Int),0,[],l⟩).2.2 != 0)=true by simpa using J)];exact J
 rw[eL];unfold K4;rw[eP,eC];generalize (kK x ⟨(k:Int),0,[],l⟩).2.2=E at *;generalize fH x ⟨(k:Int),0,[],l⟩=P at *;by_cases X:P.2=0
 . have J:E=0:=Decidable.byContradiction fun J=>ab J X
   have Z:(P.2 != 0)=false:=by simpa using X
   rw[if_pos (show(P.2 == 0)=true by simpa using X),if_neg (show ¬(E != 0)=true by simpa using J),Z,Xca];cases Y:b.2 with
   | false=>have I:sr.found=false:=T.f.symm.trans Y;rw[Bool.false_and,if_neg (show ¬false=true by simp)];refine⟨rfl,fun _=>?_⟩;show sL sr.best sr.found _=_;unfold sL;rw[I];rfl
   | true=>
     have I:sr.found=true:=T.f.symm.trans Y;have F:=T.best Y;rw[Xaz];cases O:uQ ⟨(k:Int),(s:Int),P.1,⟨(k:Int),0,[],l⟩⟩ b.1 with
     | true=>rw[if_neg (show ¬(!true)=true by simp)];refine⟨rfl,fun _=>?_⟩;show sL sr.best sr.found _=_;unfold sL;rw[I,F,O];rfl
     | false=>rw[if_pos (show(!false)=true by simp)];refine⟨Y,fun _=>?_⟩;show sL sr.best sr.found _=_;unfold sL;rw[I,F,O];rfl
 . rw[if_neg (show ¬(P.2 == 0)=true by simpa using X)];have Z:(P.2 != 0)=true:=by simpa using X
   rw[Z,Bool.true_or];by_cases J:(E != 0)=true
   . rw[if_pos J];exact T
   . rw[if_neg J,if_pos rfl];exact T
def L1(O:Acc x)(h:Cx x s)(ht:x.types[k]?=some t):∀(f g:Nat) (sr:Sr) (b:Column×Bool) (l:List Visit),RelS sr b->sr.x=x->sr.kind=k->sr.set=(s:Int)->sr.total=jO x (s:Int)->b.1.type=(k:Int)/\b.1.set=(s:Int) ->
   Sq.kC x (s:Int) l->jO x (s:Int)-l.length<f->jO x (s:Int)-l.length<g->RelS (nL t f sr l (stF x t l).1 (stF x t l).2) (eI x g b l)
 | 0,g,sr,b,l,I,h1,h2,T,Y,E,hst,hf,hg=>by omega
 | f+1,0,sr,b,l,I,h1,h2,T,Y,E,hst,hf,hg=>by omega
 | f+1,g+1,sr,b,l,I,h1,h2,T,Y,E,hst,hf,hg=>by
   have hn:=h.n8;have af:=FZ h hst;unfold nL eI;rw[E.2,CJ O (by omega),Y];by_cases hl:l.length=jO x (s:Int)
   . rw[if_pos (by rw[hl];exact beq_self_eq_true _),Z7 h hst hl,if_pos (show(([]:List Visit).length:Int)=0 from rfl)];exact ZH O h I h1 h2 T E hst hl
   rw[if_neg (by simp;omega),h1,T];by_cases hN:((pA x (s:Int) l).length:Int)=0
   . rw[if_pos hN];have hN:pA x (s:Int) l=[]:=Xbp.1 (by omega);rw[hN];have:rI x b l=b:=Xw O E fun hc=>hl (aoI h hst (ZJ (AJ hc.2).1) hc.1)
     rw[this];exact I
   rw[if_neg hN];have ad : ∀ (vs : List Visit) (sr : Sr) (b : Column × Bool), (∀ v ∈ vs, v ∈ pA x (s : Int) l) -> RelS sr b -> sr.x = x -> sr.kind = k -> sr.set = (s : Int) -> sr.total = jO x (s : Int) -> b.1.type = (k : Int) /\ b.1.set = (s : Int) ->
       RelS (vs.foldl (wE t (nL t f) l (stF x t l).1 (stF x t l).2) sr) (vs.foldl (fun b v=>eI x g b (l++[v])) b):=by
     intro vs;induction vs with
     | nil=>intro sr b _ I _ _ _ _ _;exact I
     | cons v vs ih=>
       intro sr b hv I h1 h2 T Y E;have ac:=hv v (by simp);have F:=hst.snoc ac;have ab:(l++[v]).length=l.length+1:=by simp
       rw[Xbv,Xbv];have hk:=xJ x g b (l++[v]);have X:RelS (wE t (nL t f) l (stF x t l).1 (stF x t l).2 sr v) (eI x g b (l++[v])):=by
         unfold wE;rw[h1];have aa:=Jz x t l v;by_cases J:((eQ x v).2 != 0)=true
         . rw[if_pos J];have ae:(bI x v).2=false:=by
             cases e:(bI x v).2 with
             | false=>rfl
             | true=>rw[Jq e]at J;simp at J
           rw[CT O (by omega) g b _ E F (aaE O ht (v:=v) (by simp) ae)];exact I
         rw[if_neg J];by_cases Z:(yA x.net t (stF x t l).1 (eQ x v).1 (stF x t l).2).length=0
         . rw[if_pos Z];have hd:(stF x t (l++[v])).2=[]:=by rw[aa];exact Xbp.1 Z
           rw[CT O (by omega) g b _ E F (alZ O ht hd)];exact I
         rw[if_neg Z];have:=L1 O h ht f g sr b (l++[v]) I h1 h2 T Y E F (by rw[ab];omega) (by rw[ab];omega);rw[aa]at this;exact this
       have hB:SameB sr (wE t (nL t f) l (stF x t l).1 (stF x t l).2 sr v):=by
         unfold wE;split
         . exact .refl sr
         . split
           . exact .refl sr
           . exact sX t f _ _ _ _
       exact ih _ _ (fun u hu=>hv u (by simp[hu])) X (hB.x.trans h1) (hB.kind.trans h2) (hB.set.trans T) (hB.total.trans Y) ⟨hk.1.trans E.1,hk.2.trans E.2⟩
   exact ad _ sr b (fun v hv=>hv) I h1 h2 T Y E
def Vp(x:Instance)(k s:Nat):Column×Int:=
 if(eI x 17 (⟨(k:Int),(s:Int),0,⟨0,0,[],[]⟩⟩,false) []).2=true then((eI x 17 (⟨(k:Int),(s:Int),0,⟨0,0,[],[]⟩⟩,false) []).1,0)else(cO,24)
def Zc(O:Acc x)(h:Cx x s)(hk:k<x.types.length):Vp x k s=rG x (k:Nat) (s:Nat):=by
 obtain⟨t,X⟩:=aK hk;have hn:=h.n8;have hT:=vI (x:=x) (set:=(s:Int)) (n:=x.orders.length) (by omega) (by exact_mod_cast h.top) (by omega);have F:KT x (k:Nat) (s:Nat)=false:=by
  unfold KT;have Z:shV .shr .i64 (s:Int) (x.orders.length:Nat)=0:=by rw[Ob hn,Nat.div_eq_of_lt h.top];rfl
  have hp:=h.pos;rw[Z,decide_eq_false (by omega),decide_eq_false (by omega),decide_eq_false (by omega)];rfl
 unfold Vp rG;rw[if_neg (show ¬KT x (k:Nat) (s:Nat)=true by rw[F];simp)];by_cases T:xP x (s:Int)=0
 ·rw[if_neg (show ¬(xP x (s:Int) != 0)=true by simpa using T),Xao,X];show _=(if(Da x k (s:Int) t).found=true then((Da x k (s:Int) t).best,0)else(cO,24):Column×Int);have J:=L1 O h X 17 17 ⟨x,k,(s:Int),jO x (s:Int),cO,false⟩ (⟨(k:Int),(s:Int),0,⟨0,0,[],[]⟩⟩,false) [] ⟨rfl,fun h=>by cases h⟩ rfl rfl rfl rfl ⟨rfl,rfl⟩ Sq.kC.nil (by simp;omega) (by simp;omega)
  change RelS (Da x k (s:Int) t) _ at J
  have I:=J.f;have E:=J.best;generalize eI x 17 (⟨(k:Int),(s:Int),0,⟨0,0,[],[]⟩⟩,false) []=R at *;generalize Da x k (s:Int) t=Wk at *;cases e:R.2 with
  | true=>rw[e]at I;rw[if_pos rfl,if_pos I.symm,E e]
  | false=>rw[e]at I;rw[if_neg (by simp),if_neg (by rw[<-I];simp)]
 ·rw[if_pos (show(xP x (s:Int) != 0)=true by simpa using T)];rw[CT O (by omega) 17 _ [] ⟨rfl,rfl⟩ Sq.kC.nil (fun L _ hS Y=>T (UV h O hS (AJ Y.2).1 Y.1))];rfl
end
end Rx
namespace Rx
open Go.Proofs.Tryz
open Go.Aw Go.Aw.D Go.Proofs Ty
open Sq
open Go.Proofs.YtpagaknmdfgfkaaGreatDoor.Nu (ltB geB)
open Mv (bP bS aO)
def YX(s:Sq.Score):PC prog 286 [.agg (Sq.cE s)] (.tup [int (oM s).1,int (oM s).2]):=Nu.Wh ⟨s.cost,s.moved,s.other,s.work⟩
def acC(x:Instance)(r:Route)(X:InsB x)(Y:r.visits.length<=1048576):PC prog 244 [.agg (aD x),.agg (bT r)] (.tup [int (pN x r).1,int (pN x r).2]):=by
 have T:=PX x r X Y;unfold pN;generalize pQ x r=E at *;refine pcd func244 rfl rfl ?_;simp only[go_sem];refine aH T ?_;simp only[go_sem];refine aN fun j6 h6=>?_
 simp only[go_sem];refine aN fun J O=>?_
 simp only[go_sem];refine aI (eT (aB _ _ _) O) (by simp[Sq.bR]) ?_;simp only[go_sem];have F:=bE (aB _ _ _) O;refine aI (oZ (aB _ _ _) F.symm) (by simp[Sq.cE]) ?_;generalize Z:aM _ J _=HG;have R7:HG J=some (⟨259,4,[Sq.cE E.2.1]⟩:Row):=by rw[<-Z,aB];rfl
 simp only[go_sem];apply aA <;> intro I
 ·rw[if_pos I];simp only[go_sem];exact .refl _
 rw[if_neg (by rw[I];simp)];simp only[go_sem,R7];refine aH (YX E.2.1) ?_;simp only[go_sem];exact .refl _
def U3(a b:Column)(F:a.route.visits.length<=1048576)(E:b.route.visits.length<=1048576):PC prog 245 [.agg (aS a),.agg (aS b)] (boo (uQ a b)):=by
 refine pcd func245 rfl rfl ?_;simp only[go_sem];unfold uQ;apply aA <;> intro E
 ·rw[if_pos E];simp only[go_sem];exact .refl _
 ·rw[if_neg (by rw[E];simp)];simp only[go_sem];refine aH (ahW a.route.visits b.route.visits F ‹_›) ?_;simp only[go_sem];rw[Lj];exact .refl _
def vN(s:Nat):Nat->Nat
 | 0=>s
 | k+1=>vN s k/2
def Im(s:Nat):∀k,vN s k=s/2^k
 | 0=>by simp[vN]
 | k+1=>by show vN s k/2=_;rw[Im s k,Nat.div_div_eq_div_mul,Xbj]
def Vw(x:Instance)(s:Nat)(h0:0<s)(h1:s<2^x.orders.length)(hn:x.orders.length<=8):PC prog 202 [.agg (aD x),int (s:Nat)] (boo true):=by
 have h8:2^x.orders.length<=256:=Xal (Xau (by decide) hn) (by decide);refine pcd func202 rfl rfl ?_;simp only[go_sem];refine⟨fun ρ H=>∃k:Nat,k<=x.orders.length/\ρ 1=int (s:Nat)/\ρ 2=.rp (aD x) 0/\ρ 5=int (vN s k:Nat)/\ρ 6=int (k:Nat),fun ρ _=>x.orders.length-aR (ρ 6),⟨0,Xaa _,rfl,rfl,by simp only[go_sem];rfl,(by simp only[go_sem];rfl)⟩,?_⟩;rintro ρ H ⟨k,hk,O,X,J,Y⟩;simp only[go_sem,X,Y,Xab];refine aA (fun I=>?_) (fun E=>?_)
 ·simp only[Xak,decide_eq_true_eq]at I;have hq:(vN s k:Int).tdiv 2=((vN s (k+1):Nat):Int):=by show(vN s k:Int).tdiv 2=((vN s k/2:Nat):Int);rw[Xce (by omega)];rfl
  have hb:=Im s k;have Z:vN s k<=s:=by rw[hb];exact Xcp _ _
  have T:vN s (k+1)<=vN s k:=Xcp _ _;have hw:IntKind.i64.wrap ((vN s k:Int).tdiv 2)=((vN s (k+1):Nat):Int):=by rw[hq,aU (by omega)]
  simp only[go_sem,O,X,J,Y,hw,aQ k];exact⟨by decide,⟨⟨k+1,by omega,rfl,rfl⟩,by simp only[aL];omega⟩⟩
 ·have E : x.orders.length <= k := by simp only[Bool.and_eq_false_iff,decide_eq_false_iff_not]at E;omega
  have F:k=x.orders.length:=by omega
  have hz:vN s k=0:=by rw[Im,F];exact Nat.div_eq_of_lt h1
  rw[hz]at J;simp only[go_sem,O,J];refine bS ?_;rw[decide_eq_true (by omega)];rfl
structure SeaC(x:Instance)(s k:Nat):Prop where
 cx:Cx x s
 acc:Acc x
 ins:InsB x
def JT{x:Instance}{s kk:Nat}(h:SeaC x s kk):∀(f:Nat) (b:Column×Bool) (l:List Visit),b.1.set=(s:Int)->b.1.route.visits.length<=16->Sq.kC x (s:Int) l->(eI x f b l).1.route.visits.length<=16
 | 0,b,l,_,E,_=>E
 | f+1,b,l,I,E,hst=>by
  have Y:=h.cx.n8;have X:=vI (x:=x) (set:=(s:Int)) (n:=x.orders.length) (by omega) (by exact_mod_cast h.cx.top) (by omega);have O:=FZ h.cx hst;unfold eI;split
  ·unfold rI;split
   ·exact E
   ·split
    ·exact E
    ·show l.length<=16;omega
  ·rw[I,CJ h.acc (by omega)];have J:∀(vs:List Visit) (b:Column×Bool),(∀v∈vs,v∈pA x (s:Int) l)->b.1.set=(s:Int)->b.1.route.visits.length<=16->(vs.foldl (fun b v=>eI x f b (l++[v])) b).1.route.visits.length<=16:=by
    intro vs;induction vs with
    | nil=>intro b _ _ E;exact E
    | cons v vs ih=>intro b F I E;exact ih _ (fun u T=>F u (by simp[T])) ((xJ x f b _).2.trans I) (JT h f b _ I E (hst.snoc (F v (by simp))))
   exact J _ b (fun v E=>E) I E
def I0{x:Instance}{s kk:Nat}(h:SeaC x s kk):∀(f:Nat) (b:Column×Bool) (l:List Visit),b.1.type=(kk:Int)/\b.1.set=(s:Int)->b.1.route.visits.length<=16->Sq.kC x (s:Int) l->jO x (s:Int)-l.length<f ->
  PC prog 203 [.agg (aD x),.agg (aS b.1),boo b.2,.sl (l.map aF)] (.tup [.agg (aS (eI x f b l).1),boo (eI x f b l).2])
 | 0,b,l,hb,hv,hst,hf=>by omega
 | f+1,b,l,hb,hv,hst,hf=>by
  have IH:=I0 h f;have hn:=h.cx.n8;have hT:=vI (x:=x) (set:=(s:Int)) (n:=x.orders.length) (by omega) (by exact_mod_cast h.cx.top) (by omega);have be:=FZ h.cx hst;have hN:=adW x (s:Int) l (by omega) h.ins.before (by omega);have eW:eI x (f+1) b l=if((yL x b.1.set l).length:Int)=0 then rI x b l else(yL x b.1.set l).foldl (fun b v=>eI x f b (l++[v])) b:=rfl
  have a5:∀v∈yL x (s:Int) l,Sq.kC x (s:Int) (l++[v])/\l.length+1<=jO x (s:Int):=fun v hv=>by rw[CJ h.acc (by omega)]at hv;have h2:=hst.snoc hv;have h3:=FZ h.cx h2;rw[Xae]at h3;exact⟨h2,h3⟩
  have bc:=AE x (s:Int) l x.orders.length
  change (yL x (s:Int) l).length<=_ at bc
  rw[hb.2]at eW;generalize eI x (f+1) b l=RW at *;have bd:l.length<=16:=by omega
  have hO:=Kb ⟨b.1.type,0,[],l⟩ (by show l.length<=1048576;omega);have ba:=abH x ⟨b.1.type,0,[],l⟩ h.ins (by show l.length<=1048576;omega);have a9:=acC x ⟨b.1.type,0,[],l⟩ h.ins (by show l.length<=1048576;omega);refine pcb (fun t=>t == 5||t == 80) func203 rfl rfl ?_;simp only[go_sem];refine fI fun j5 ax bf (E:ax j5=some (cD [b.1])) N=>?_
  simp only[go_sem];refine fI fun j8 ay bg (F:ay j8=some (cD [cO])) N=>?_
  replace E:=N E;obtain⟨T,E⟩:=E;simp only[go_sem,E];simp only[go_sem,hb.2];refine aH hN ?_;generalize yL x (s:Int) l=vs at *;simp only[go_sem,Xab];refine aA (fun hc=>?_) (fun hc=>?_)
  ·have hc:(vs.length:Int)=0:=by simpa using hc
   rw[if_pos hc]at eW;subst eW;have aa:rI x b l=if((cU l).1 != b.1.set||(pQ x ⟨b.1.type,0,[],l⟩).2.2 != 0)=true then b
    else if((pN x ⟨b.1.type,0,[],l⟩).2 != 0||(b.2&& !uQ ⟨b.1.type,b.1.set,(pN x ⟨b.1.type,0,[],l⟩).1,⟨b.1.type,0,[],l⟩⟩ b.1))=true then b
    else(⟨b.1.type,b.1.set,(pN x ⟨b.1.type,0,[],l⟩).1,⟨b.1.type,0,[],l⟩⟩,true):=rfl
   generalize rI x b l=LW at *;simp only[go_sem,E];refine aN fun ag ao=>?_
   simp only[go_sem,];refine cJ ao (by simp[cP]) fun aq (Z:aq ag=some (cD [b.1])) N=>?_
   replace E:=N E;obtain⟨J,E⟩:=E;replace F:=N F;obtain⟨O,F⟩:=F;simp only[go_sem,E];refine aI Z (by simp[]) ?_;generalize I:aM _ ag _=HP;replace E:=kpA I (by first|exact J|exact ne_j11_j5.symm) E;replace F:=kpA I (by first|exact O|exact ne_j11_j8.symm) F;replace Z:HP ag=some (cD [⟨b.1.type,b.1.set,b.1.price,⟨b.1.type,0,[],l⟩⟩]):=upS I;simp only[go_sem,Z,];refine aH hO ?_;simp only[go_sem,E,Z];refine⟨_,fun _=>ba.q rfl,?_⟩;simp only[go_sem,];refine aA (fun hd=>?_) (fun hd=>?_)
   ·rw[if_pos hd]at aa;simp only[go_sem,E];refine aI F (by simp[cP]) ?_;generalize I:aM _ j8 _=HP;replace F:HP j8=some (cD [b.1]):=upS I;simp only[go_sem,F];rw[aa];exact .refl _
   rw[if_neg (by rw[hd];simp)]at aa;simp only[go_sem,Z];refine aH a9 ?_;generalize pN x ⟨b.1.type,0,[],l⟩=pr at *;simp only[go_sem,];refine dP so3 Z (by simp[]) ?_;generalize I:aM _ ag _=HP;replace E:=kpA I (by first|exact J|exact ne_j11_j5.symm) E;replace F:=kpA I (by first|exact O|exact ne_j11_j8.symm) F;replace Z:HP ag=some (cD [⟨b.1.type,b.1.set,pr.1,⟨b.1.type,0,[],l⟩⟩]):=upS I;simp only[go_sem,Z,E];refine⟨_,fun _=>(U3 ⟨b.1.type,b.1.set,pr.1,⟨b.1.type,0,[],l⟩⟩ b.1 (by show l.length<=1048576;omega) (by omega)).q rfl,?_⟩;simp only[go_sem,];refine aA (fun hd=>?_) (fun hd=>?_)
   ·rw[if_pos hd]at aa;simp only[go_sem,E];refine aI F (by simp[cP]) ?_;generalize I:aM _ j8 _=HP;replace F:HP j8=some (cD [b.1]):=upS I;simp only[go_sem,F];rw[aa];exact .refl _
   rw[if_neg (by rw[hd];simp)]at aa;simp only[go_sem,Z];refine aI F (by simp[cP]) ?_;generalize I:aM _ j8 _=HP;replace F:HP j8=some (cD [⟨b.1.type,b.1.set,pr.1,⟨b.1.type,0,[],l⟩⟩]):=upS I;simp only[go_sem,F];rw[aa];exact .refl _
  ·have hc:¬(vs.length:Int)=0:=by simpa using hc
   rw[if_neg hc]at eW;subst eW;simp only[go_sem];refine⟨fun ρ H=>∃(k:Nat) (c:Column×Bool),k<=vs.length/\ρ 3=.sl (l.map aF)/\ρ 4=.rp (aD x) 0/\ρ 5=.op j5 0 0/\ρ 8=.op j8 0 0/\ρ 10=.sl (vs.map aF)/\ρ 16=int k/\ρ 2=boo c.2/\c=(vs.take k).foldl (fun b v=>eI x f b (l++[v])) b/\(c.1.type=(kk:Int)/\c.1.set=(s:Int))/\c.1.route.visits.length<=16/\H j5=some (cD [c.1])/\H j8=some (cD [cO]),fun ρ _=>vs.length-aR (ρ 16),⟨0,b,Xaa _,rfl,rfl,rfl,rfl,rfl,(by simp only[go_sem];rfl),rfl,rfl,hb,hv,E,F⟩,?_⟩;rintro ρ H ⟨k,c,hk,e3,e4,e5,e8,ap,am,e2,an,ai,av,E,F⟩;simp only[go_sem,ap,am];refine aA (fun af=>?_) (fun al=>?_)
   ·have af:=ltB (by simpa using af);obtain⟨v,ar⟩:=aK af;have b1:=inB af;obtain⟨a0,bi⟩:=a5 v (Xac ar);have ah:=jX (f:=fun b v=>eI x f b (l++[v])) (b:=b) ar;rw[<-an]at ah;have ah:(vs.take (k+1)).foldl (fun b v=>eI x f b (l++[v])) b=eI x f c (l++[v]):=ah;have hI:=IH c (l++[v]) ai av a0 (by rw[Xae];simp;omega);have aw:=xJ x f c (l++[v]);have bb:(eI x f c (l++[v])).1.route.visits.length<=16:=JT h f c _ ai.2 av a0;generalize eI x f c (l++[v])=S at *;simp only[go_sem,];refine fI fun az au a7 (a8:au az=some (KG [])) N=>?_
    replace E:=N E;obtain⟨ac,E⟩:=E;replace F:=N F;obtain⟨ab,F⟩:=F;simp only[go_sem,e3,];refine aY a8 ⟨rfl,rfl⟩ (zS (fun v=>dG v) _) (by simp;omega) (fun j2 ak=>?_);have X:j5≠j2:=bE E ak;have Y:j8≠j2:=bE F ak;generalize I:aM (aM _ az none) j2 _=HP;replace E:=kpB I X (by first|exact ac|exact ne_j80_j5.symm) E;replace F:=kpB I Y (by first|exact ab|exact ne_j80_j8.symm) F;have R2:HP j2=some (KG l):=upS I;simp only[go_sem,ap,am,aC ar,b1,];refine aY R2 ⟨rfl,rfl⟩ (by simp only[go_sem]) (by simp;omega) (fun j3 aj=>?_);have ad:j5≠j3:=bE E aj;have ae:j8≠j3:=bE F aj;generalize I:aM (aM _ j2 none) j3 _=HP;replace E:=kpB I ad (by first|exact X|exact ne_j2_j5.symm) E;replace F:=kpB I ae (by first|exact Y|exact ne_j2_j8.symm) F;have R3:HP j3=some (KG (l++[v])):=by rw[<-I,aB];exact congrArg some (Kx _ _)
    simp only[go_sem,e4,e5,e2,E];refine PC.useF [j3] (.cons _ _ _ _ (.refl _) (.cons _ _ _ _ (.refl _) (.cons _ _ _ _ (.refl _) (.cons _ _ _ _ (.row _ _ _ (by simp only[Xaw,if_true];exact R3) (ConvE.refl _)) .nil)))) hI ?_;rw[auU];have a6:j5≠j3:=fun e=>by rw[e,R3]at E;have:=congrArg (fun o:Option Row=>o.map (·.e)) E;simp at this
    have a4:j8≠j3:=fun e=>by rw[e,R3]at F;have:=congrArg (fun o:Option Row=>o.map (·.e)) F;simp at this
    replace E:aM HP j3 none j5=some (cD [c.1]):=(aJ _ _ _ _ a6).trans E;replace F:aM HP j3 none j8=some (cD [cO]):=(aJ _ _ _ _ a4).trans F;have bh:j8≠j5:=T.symm;generalize aM HP j3 none=H3 at *;simp only[go_sem,e5,];refine aI E (by simp[cP]) ?_;generalize I:aM _ j5 _=HP;replace F:=kpA I (by first|exact ne_j8_j5|exact T.symm) F;replace E:HP j5=some (cD [S.1]):=upS I;simp only[go_sem,e3,e4,e5,e8,ap,am,E,F];simp only[go_sem,aQ k];exact⟨⟨k+1,S,af,rfl,rfl,ah.symm,⟨aw.1.trans ai.1,aw.2.trans ai.2⟩,bb,rfl⟩,by simp only[aL];omega⟩
   have al:=geB hk (by simpa using al);subst al;rw[Xad]at an;simp only[go_sem,e5,e8,e2,E];refine aI F (by simp[cP]) ?_;generalize I:aM _ j8 _=HP;replace F:HP j8=some (cD [c.1]):=upS I;simp only[go_sem,e8,F];rw[<-an];exact .refl _
def afE{x:Instance}{s kk:Nat}(h:SeaC x s kk)(Z:kk<x.types.length):PC prog 145 [.agg (aD x),int (kk:Nat),int (s:Nat)] (.tup [.agg (aS (rG x (kk:Nat) (s:Nat)).1),int (rG x (kk:Nat) (s:Nat)).2]):=by
 have hn:=h.cx.n8;have hT:=vI (x:=x) (set:=(s:Int)) (n:=x.orders.length) (by omega) (by exact_mod_cast h.cx.top) (by omega);have hE:=Vw x s h.cx.pos h.cx.top h.cx.n8;have hS:=I0 h 17 (⟨(kk:Int),(s:Int),0,⟨0,0,[],[]⟩⟩,false) [] ⟨rfl,rfl⟩ (Xaa _) Sq.kC.nil (by simp;omega);rw[<-Zc h.acc h.cx Z];unfold Vp;generalize eI x 17 (⟨(kk:Int),(s:Int),0,⟨0,0,[],[]⟩⟩,false) []=S at *;refine pcd func145 rfl rfl ?_;simp only[go_sem];refine fI fun T J Y (E:J T=some (cD [cO])) N=>?_
 simp only[go_sem];refine⟨boo true,fun _=>hE.q rfl,?_⟩;simp only[go_sem];apply aA <;> intro O
 ·exfalso;rw[decide_eq_false (by omega),decide_eq_false (by omega)]at O;cases O
 simp only[go_sem];refine aH hS ?_;simp only[go_sem];refine aN fun i8 I=>?_
 simp only[go_sem];refine cJ I (by simp[cP]) fun F (R8:F i8=some (cD [S.1])) N=>?_
 replace E:=(N E).2;simp only[go_sem];apply aA <;> intro O
 ·rw[if_neg (by simpa using O)];simp only[go_sem];refine aI E (by simp only[go_sem]) ?_;generalize X:aM _ T _=HP;replace E:HP T=some (cD [cO]):=upS X;simp only[go_sem,E];exact .refl _
 ·rw[if_pos (by simpa using O)];simp only[go_sem,R8];refine aI E (by simp[cP]) ?_;generalize X:aM _ T _=HP;replace E:HP T=some (cD [S.1]):=upS X;simp only[go_sem,E];exact .refl _
def aqR(x:Instance)(ah:uG x=[])(ab:Acc x)(ac:InsB x)(hn:x.orders.length<=8)(ht:x.types.length<=1000):PC prog 84 [.agg (aD x)] (.tup [.sl ((tX x).map aS),int 0]):=by
 have h8:2^x.orders.length<=256:=Xal (Xau (by decide) hn) (by decide);have hp:0<2^x.orders.length:=Nat.two_pow_pos _;refine pcb (fun t=>t == 6) func84 rfl rfl ?_;simp only[go_sem];refine⟨fun ρ H=>∃k:Nat,k<=x.orders.length/\ρ 1=.rp (aD x) 0/\ρ 4=int (2^k:Nat)/\ρ 5=int (k:Nat)/\H=bQ,fun ρ _=>x.orders.length-aR (ρ 5),⟨0,Xaa _,rfl,by simp only[go_sem];rfl,(by simp only[go_sem];rfl),rfl⟩,?_⟩;rintro ρ H ⟨k,hk,J,O,e5,rfl⟩;simp only[go_sem,J,e5,Xab];refine aA (fun E=>?_) (fun F=>?_)
 ·simp only[Xak,decide_eq_true_eq]at E;have ar:0<2^k:=Nat.two_pow_pos _;have ao:2^k<=2^x.orders.length:=Xau (by decide) (by omega);have hw:IntKind.i64.wrap (((2^k:Nat):Int)*2)=((2^(k+1):Nat):Int):=by rw[aU (by omega),Xbj];omega
  simp only[go_sem,J,O,e5,hw,aQ k];exact⟨⟨k+1,by omega,rfl,rfl⟩,by simp only[aL];omega⟩
 have af:k=x.orders.length:=by simp only[Bool.and_eq_false_iff,decide_eq_false_iff_not]at F;omega
 subst af;simp only[go_sem];refine fI fun j ad ak (R:ad j=some (cD [])) N=>?_
 simp only[go_sem];refine⟨fun ρ H=>∃(k:Nat) (j:Nat),k<=x.types.length/\ρ 1=.rp (aD x) 0/\ρ 4=int (2^x.orders.length:Nat)/\ρ 7=int k/\ρ 6=.os j/\H j=some (cD (BC x k)),fun ρ _=>x.types.length-aR (ρ 7),⟨0,j,Xaa _,by simp only[go_sem,J,],O,(by simp only[go_sem];rfl),rfl,R⟩,?_⟩;rintro ρ H ⟨k,j,hk,J,O,T,X,R⟩;simp only[go_sem,J,T];refine aA (fun E=>?_) (fun F=>?_)
 ·have E:=ltB (by simpa using E);have hs:=zZ x k;have an:=vB x k;have am:k*2^x.orders.length<=256000:=Xal (Nat.mul_le_mul (show k<=1000 by omega) h8) (by decide);generalize al:BC x k=A at *;simp only[go_sem];refine⟨fun ρ H=>∃m j:Nat,m<=2^x.orders.length-1/\ρ 1=.rp (aD x) 0/\ρ 4=int (2^x.orders.length:Nat)/\ρ 7=int (k:Nat)/\ρ 8=int (m+1:Nat)/\ρ 6=.os j/\H j=some (cD (A++tA x k m)),fun ρ _=>2^x.orders.length-aR (ρ 8),⟨0,j,Xaa _,by simp only[go_sem,J,],by simp only[go_sem,O,],T,(by simp only[go_sem];rfl),X,by simpa[tA]using R⟩,?_⟩;rintro ρ H ⟨m,j,hm,J,O,T,e8,X,R⟩;simp only[go_sem,O,e8];refine aA (fun aj=>?_) (fun ae=>?_)
  ·have Z:m+1<2^x.orders.length:=by have:=of_decide_eq_true aj;omega
   have I:=BQ x k m;have ap:=wM x k m;have hB:=afE (x:=x) (s:=m+1) (kk:=k) ⟨⟨ah,hn,by omega,Z⟩,ab,ac⟩ E;have ag:Gl x k (m+1)=if((rG x (k:Nat) ((m+1:Nat):Int)).2 == 0)=true then[(rG x (k:Nat) ((m+1:Nat):Int)).1]else[]:=rfl
   rw[ag]at I;generalize rG x (k:Nat) ((m+1:Nat):Int)=B at *;generalize tA x k m=KM at *;simp only[go_sem,J,T,e8];refine aH hB ?_;simp only[go_sem];refine aN fun i9 Y=>?_
   simp only[go_sem];refine cJ Y (by simp[cP]) fun aa (R9:aa i9=some (cD [B.1])) N=>?_
   replace R:=(N R).2;simp only[go_sem];apply aA <;> intro hc
   ·rw[if_pos hc]at I;simp only[go_sem,X,R9];refine aY R ⟨rfl,rfl⟩ (by simp only[go_sem]) (by simp;omega) (fun j2 aq=>?_);simp only[go_sem,J,O,T,e8,mC (show m+1<=4611686018427387904 by omega)];refine⟨⟨m+1,j2,by omega,rfl,rfl,?_⟩,by simp only[aL];omega⟩;rw[I,<-Xaq,aB];exact congrArg some (Ih _ _)
   ·rw[if_neg (by rw[hc];simp),Xah]at I;simp only[go_sem,J,O,X,T,e8,mC (show m+1<=4611686018427387904 by omega)];refine⟨⟨m+1,j,by omega,rfl,rfl,?_⟩,by simp only[aL];omega⟩;rw[I];exact R
  ·have ai:m=2^x.orders.length-1:=by have:=of_decide_eq_false ae;omega
   subst ai;simp only[go_sem,J,O,X,T,aQ k];refine⟨⟨k+1,j,E,rfl,rfl,?_⟩,msr E⟩;rw[hs];exact R
 have F:=geB hk (by simpa using F);subst F;simp only[go_sem,X];exact .tup _ _ (.cons _ _ _ _ (.row _ _ _ R (ConvE.refl _)) (ConvL.refl _))
end Rx
namespace Nu
open Go.Proofs.Tryz
open Go.Aw Go.Aw.D Go.Proofs Ty Go.Nu
open Dec (nZ eF fL eH uX mM)
def ZY{x:Instance}{d:Decision}(h:Dec.eF x d=0)(T:x.orders.length<=62)(s:Int):fL d s= !eH d s:=by
 have E:∀i:Int,Dec.wI x i=true->Dec.dO s i=mM s i:=by intro i O;unfold Dec.wI at O;simp only[Xak,decide_eq_true_eq]at O;unfold Dec.dO mM;rw[decide_eq_true O.1,decide_eq_true (show i<=62 by omega)];rfl
 unfold Dec.eF at h;unfold fL eH;by_cases h1:d.kind=1
 ·rw[if_pos (.inl h1)]at h;rw[if_pos h1,if_pos h1];split at h
  ·next F=>
   simp only[Xak]at F;rw[E d.a F.1.1,E d.b F.1.2];cases mM s d.a <;> cases mM s d.b <;> rfl
  ·cases h
 ·by_cases I:d.kind=2
  ·rw[if_pos (.inr I)]at h;rw[if_neg h1,if_pos I,if_neg h1,if_pos I];split at h
   ·next F=>
    simp only[Xak]at F;rw[E d.a F.1.1,E d.b F.1.2];cases mM s d.a <;> cases mM s d.b <;> rfl
   ·cases h
  ·by_cases J:d.kind=6
   ·rw[if_neg (by omega),if_pos (.inr J)]at h;rw[if_neg h1,if_neg I,if_pos J,if_neg h1,if_neg I,if_pos J];split at h
    ·next F=>rw[E d.a F]
    ·cases h
   ·rw[if_neg h1,if_neg I,if_neg J,if_neg h1,if_neg I,if_neg J];rfl
def apB{x:Instance}{ds:List Decision}(h:nZ x ds=0):∀d∈ds,Dec.eF x d=0:=by
 unfold nZ at h;split at h
 ·cases h
 ·exact fun d E=>Dec.xY h _ (Xbe.2 ⟨d,E,rfl⟩)
def U2(x:Instance)(E:List Column)(ds:List Decision)(ad:nZ x ds=0)(hx:x.orders.length<=62)(hl:E.length<=1048576)(hd:ds.length<=1048576)(ac:∀d∈ds,uX d)(hs:∀c∈E,0<=c.set/\c.set<=9223372036854775807):
  PC prog 85 [.sl (E.map aS),.sl (ds.map aT)] (.sl ((inM E ds).map aS)):=by
 refine pcb (fun t=>t == 5) func85 rfl rfl ?_;simp only[go_sem];refine fI fun j Z ab (R:Z j=some (XB [])) N=>?_
 clear N ab;simp only[go_sem];refine⟨fun ρ H=>∃(k:Nat) (j:Nat),k<=E.length/\ρ 0=.sl (E.map aS)/\ρ 1=.sl (ds.map aT)/\ρ 6=int k/\ρ 5=.os j/\H j=some (XB (inM (E.take k) ds)),fun ρ _=>E.length-aR (ρ 6),⟨0,j,Xaa _,rfl,rfl,(by simp only[go_sem];rfl),rfl,R⟩,?_⟩;rintro ρ H ⟨k,j,hk,T,e1,O,e5,R⟩;simp only[go_sem,T,O];refine aA (fun F=>?_) (fun J=>?_)
 ·have F:=ltB (by simpa using F);obtain⟨c,Y⟩:=aK F;have b1:=inB F;have X:=hs c (Xac Y);have I:inM (E.take (k+1)) ds=inM (E.take k) ds++(if(ds.all fun d=>fL d c.set)=true then[c]else[]):=xN (p:=fun c:Column=>ds.all fun d=>fL d c.set) Y;have af:(inM (E.take k) ds).length<=k:=acE _ _ _;have ae:(ds.all fun d=> !eH d c.set)=ds.all fun d=>fL d c.set:=by rw[Xar,Xaj,Xaj];exact forall_congr' fun d=>forall_congr' fun aa=>by rw[ZY (apB ad d aa) hx]
  simp only[go_sem,T,e1,O,aC Y,b1];refine aH (Dec.VQ ds c hd ac X.1 X.2) ?_;rw[ae];simp only[go_sem,];refine aA (fun hb=>?_) (fun hb=>?_)
  ·rw[if_pos hb]at I;simp only[go_sem,T,O,e5,aC Y,b1];refine aY R ⟨rfl,rfl⟩ ⟨rfl,trivial⟩ (by simp only[Xab,Xai,List.length_nil];omega) (fun j' ag=>?_);simp only[go_sem,T,e1,O,aQ k];refine⟨⟨k+1,j',F,rfl,rfl,?_⟩,by simp only[aL];omega⟩;rw[I];exact kZ rfl
  ·rw[if_neg (by rw[hb];simp),Xah]at I;simp only[go_sem,T,e1,O,e5,aQ k];exact⟨⟨k+1,j,F,rfl,rfl,by rw[I];exact R⟩,by simp only[aL];omega⟩
 have J:=geB (by omega) (by simpa using J);subst J;rw[Xad]at R;simp only[go_sem,e5];exact .row _ _ _ R (ConvE.refl _)
end Nu
namespace Nu.Ps
open Go.Proofs.Tryz
open Go.Aw Go.Aw.D Go.Proofs Ty Go.Nu Go.So
open Dec (nZ eF fL eH uX mM)
open Sq (EvalB BestQ tX nN cD fH fR)
def aqV{x:Instance}(h:Acc x):Sq.InsB x:=by have I:=h.types;have F:=h.orders;have J:=h.apart;have E:=h.before;exact⟨Rx.adC h,by omega,by omega,by omega,by omega⟩
def atN{a:Ask3}(h:KJ a=true):uG a.x=[]:=by unfold KJ RN at h;simp only[Xak,Xax,Xag,decide_eq_false_iff_not]at h;have:=h.1.2;exact Xbp.1 (by omega)
def T3{x:Instance}{c:Column}(E:x.orders.length<=8)(h:c∈tX x):c.route.rests.length<=1048576/\c.route.visits.length<=1048576:=by obtain⟨k,s,h⟩:=nN E h;obtain⟨l,F,_,_,I⟩:=h.is;have:=Sq.vI (x:=x) (Int.le_of_lt h.pos) h.top (by omega);rw[F];exact⟨Xaa _,by show l.length<=1048576;omega⟩
def QG(x:Instance)(ds:List Decision)(I:uG x=[])(X:x.orders.length<=8)(Z:ds.length<=1048576)(O:∀d∈ds,uX d):
  PC prog 48 [.agg (aD x),.sl (ds.map aT)] (.tup [.sl ((dI x ds).1.map aS),int (dI x ds).2]):=by
 have E:=WL I;have aa:=E.types;have hA:=Rx.aqR x I (WL I) (aqV E) X (by omega);have F:=Sq.vB x x.types.length;have h8:2^x.orders.length<=256:=Xal (Xau (by decide) X) (by decide);have T:x.types.length*2^x.orders.length<=256000:=Xal (Nat.mul_le_mul (show x.types.length<=1000 by omega) h8) (by decide);have F:(tX x).length<=256000:=Xal F T;unfold dI;refine pcd func48 rfl rfl ?_;simp only[go_sem];refine aH (Dec.Yr x ds Z) ?_;simp only[go_sem];apply aA <;> intro J
 ·rw[if_pos J];simp only[go_sem];exact .refl _
 have Y:nZ x ds=0:=by simpa using J
 rw[if_neg (by rw[J];simp)];simp only[go_sem];refine aH hA ?_;simp only[go_sem];refine aA (fun J=>(by cases J)) (fun _=>?_);simp only[go_sem];refine aH (U2 x (tX x) ds Y (by omega) (by omega) Z O fun c hc=>(On X hc).b.set) ?_;simp only[go_sem];exact .refl _
def N0(l:List Column)(hl:l.length<=1048576)(hs:∀c∈l,c.route.rests.length<=1048576/\c.route.visits.length<=1048576):PC prog 12 [.sl (l.map aS),.sl (l.map aS)] (boo true):=by
 refine pcd func12 rfl rfl ?_;simp only[go_sem];refine aA (fun Y=>absurd Y (by simp)) (fun _=>?_);simp only[go_sem];refine⟨fun ρ H=>∃(k:Nat),k<=l.length/\ρ 0=.sl (l.map aS)/\ρ 1=.sl (l.map aS)/\ρ 5=int k,fun ρ _=>l.length-aR (ρ 5),⟨0,Xaa _,rfl,rfl,(by simp only[go_sem];rfl)⟩,?_⟩;rintro ρ H ⟨k,hk,F,J,I⟩;simp only[go_sem,F,I];refine aA (fun E=>?_) (fun T=>?_)
 ·have E:=ltB (by simpa using E);obtain⟨c,O⟩:=aK E;have Z:=inB E;obtain⟨h1,h2⟩:=hs c (Xac O);simp only[go_sem,];refine dK ?_;simp only[go_sem,F,J,I,aC O,Z,Xab];refine⟨_,(Qk c h1 h2).q rfl,?_⟩;simp only[go_sem,];refine aA (fun X=>absurd X (by simp)) (fun _=>?_);simp only[go_sem,F,J,I,aQ k];exact⟨⟨k+1,E,rfl⟩,msr E⟩
 simp only[go_sem];exact .refl _
end Nu.Ps
namespace Nu.Ps
open Go.Proofs.Tryz
open Go.Aw Go.Aw.D Go.Proofs Ty Go.Nu Go.So
open Dec (nZ eF fL eH uX mM)
open Sq (EvalB BestQ tX nN cD fH fR)
structure RefOk(x:Instance)(d:Nat)(cuts:List Cut)(ds:List Decision)(dual:List ByteArray):Prop where
 ok:PrOk x d
 ck:uG x=[]
 m:MIn x cuts ds
 q:∀q∈cuts,q.set<=9223372036854775807
 dec:∀d∈ds,uX d
 len:dual.length<=1048576
 size:∀s∈dual,s.size<=1048576
section
variable{x:Instance}{d:Nat}{cuts:List Cut}{ds:List Decision}{dual:List ByteArray}
def abN(h:RefOk x d cuts ds dual):
  PC prog 21 [.agg (aD x),.sl (cuts.map dS),.sl (ds.map aT),.sl (dual.map Go.Aw.D.fJ)] (int (nT x d cuts ds dual)):=by
 have h3:=h.m.cl;have h4:=h.m.dl;unfold nT;refine pcd func21 rfl rfl ?_;simp only[go_sem];refine aH (Dec.Yr x ds h4) ?_;simp only[go_sem];apply aA <;> intro F
 ·rw[if_pos F];simp only[go_sem];exact .refl _
 rw[if_neg (by rw[F];simp)];simp only[go_sem];refine⟨fun ρ H=>∃(k:Nat),k<=cuts.length/\ρ 1=.sl (cuts.map dS)/\ρ 2=.sl (ds.map aT)/\ρ 3=.sl (dual.map Go.Aw.D.fJ)/\ρ 4=.rp (aD x) 0/\ρ 10=int k/\(∀e∈(cuts.map (pW x d)).take k,e=0),fun ρ _=>cuts.length-aR (ρ 10),⟨0,Xaa _,rfl,rfl,rfl,rfl,(by simp only[go_sem];rfl),by simp⟩,?_⟩;rintro ρ H ⟨k,hk,X,e2,e3,Y,J,T⟩;simp only[go_sem,X,J];refine aA (fun E=>?_) (fun I=>?_)
 ·have E:=ltB (by simpa using E);obtain⟨q,Z⟩:=aK E;have b1:=inB E;have aa:=h.q q (Xac Z);have O:(cuts.map (pW x d))[k]?=some (pW x d q):=by rw[List.getElem?_map,Z];rfl
  simp only[go_sem];refine mX [(0,true),(1,true),(2,true),(3,true),(4,true),(5,false),(6,true)] (by kernel_rfl) ?_;simp only[go_sem,X,Y,J,aC Z,b1,Xab];refine aH (acL x d q h.ok.lo h.ok.ne (by omega)) ?_;simp only[go_sem];apply aA <;> intro F
  ·have he:=Dec.oF T O F;rw[if_pos (by rw[he];simpa using F),he];simp only[go_sem];exact .refl _
  ·simp only[go_sem,X,e2,e3,Y,J,aQ k];exact⟨⟨k+1,E,rfl,gS (p:=fun e:Int=>e=0) O (by simpa using F) T⟩,msr E⟩
 have I:=geB hk (by simpa using I);subst I;rw[Xan (by rw[Xab];exact Xaf _)]at T;rw[if_neg (by rw[Dec.mS T];simp)];simp only[go_sem,X,e2,e3,Y,Xab];refine aH (aiX x cuts ds h.m) ?_;simp only[go_sem];apply aA <;> intro F
 ·rw[if_pos F];simp only[go_sem];exact .refl _
 ·rw[if_neg (by rw[F];simp)];simp only[go_sem];exact .refl _
abbrev DU(l:List Priced):Row:=⟨72,8,l.map bH⟩
def I5(l:List Priced)(p:Priced):(⟨72,8,l.map bH++[bH p]⟩:Row)=DU (l++[p]):=by show _=(⟨72,8,(l++[p]).map bH⟩:Row);rw[Xam];rfl
def amH(h:RefOk x d cuts ds dual)(hq:CutsB cuts):
  PC prog 22 [.agg (aD x),.sl (cuts.map dS),.sl (ds.map aT),.sl (dual.map Go.Aw.D.fJ)] (.tup [.sl ((lS x cuts ds dual).1.map bH),int (lS x cuts ds dual).2]):=by
 have Z:=zV x ds h.ok.n8 h.ok.ty;have Y:∀c∈(dI x ds).1,ColQ x c:=fun c X=>On h.ok.n8 (Ai X).1
 have J:lS x cuts ds dual=(if((dI x ds).2 != 0)=true then([],(dI x ds).2)
  else if Dec.gZ ((dI x ds).1.map fun c=>(cM x c cuts ds dual).2)≠0 then([],Dec.gZ ((dI x ds).1.map fun c=>(cM x c cuts ds dual).2))
  else((dI x ds).1.map fun c=>⟨c,(cM x c cuts ds dual).1⟩,0)):=rfl
 have hA:=QG x ds h.ck h.ok.n8 h.m.dl h.dec;refine pcb (fun t=>t == 12) func22 rfl rfl ?_;simp only[go_sem];generalize lS x cuts ds dual=RP at *;refine aH hA ?_;generalize dI x ds=A at *;obtain⟨A,e⟩:=A;simp only at Z Y J;simp only[go_sem];refine aA (fun O=>?_) (fun O=>?_)
 ·rw[if_pos O]at J;simp only[go_sem];rw[J];exact .refl _
 rw[if_neg (by rw[O];simp)]at J;simp only[go_sem];refine fI fun j ad af (R:ad j=some (DU [])) N=>?_
 simp only[go_sem];refine⟨fun ρ H=>∃(k:Nat) (j:Nat),k<=A.length/\ρ 1=.sl (cuts.map dS)/\ρ 2=.sl (ds.map aT)/\ρ 3=.sl (dual.map Go.Aw.D.fJ)/\ρ 4=.rp (aD x) 0/\ρ 10=.sl (A.map aS)/\ρ 13=int k/\ρ 12=.os j/\H j=some (DU ((A.take k).map fun c=>⟨c,(cM x c cuts ds dual).1⟩))/\(∀e∈(A.map fun c=>(cM x c cuts ds dual).2).take k,e=0),fun ρ _=>A.length-aR (ρ 13),⟨0,j,Xaa _,rfl,rfl,rfl,rfl,rfl,(by simp only[go_sem];rfl),rfl,R,by simp⟩,?_⟩;rintro ρ H ⟨k,j,hk,e1,e2,e3,e4,F,I,ab,R,hz⟩;simp only[go_sem,F,I];refine aA (fun E=>?_) (fun T=>?_)
 ·have E:=ltB (by simpa using E);obtain⟨c,X⟩:=aK E;have b1:=inB E;have ac:=Y c (Xac X);have aa:(A.map fun c=>(cM x c cuts ds dual).2)[k]?=some (cM x c cuts ds dual).2:=by rw[List.getElem?_map,X];rfl
  have ae:((A.take (k+1)).map fun c=>(⟨c,(cM x c cuts ds dual).1⟩:Priced))=((A.take k).map fun c=>⟨c,(cM x c cuts ds dual).1⟩)++[⟨c,(cM x c cuts ds dual).1⟩]:=by rw[bA X,Xam];rfl
  have ag:((A.take k).map fun c=>(⟨c,(cM x c cuts ds dual).1⟩:Priced)).length<=A.length:=by rw[Xab,Xap];omega
  generalize ((A.take k).map fun c=>(⟨c,(cM x c cuts ds dual).1⟩:Priced))=L at *;simp only[go_sem,];refine mX [(0,true),(1,true),(2,true),(3,true),(4,true),(5,true),(6,true),(7,true),(8,false),(9,true),(10,true),(11,true),(12,true),(13,true)] (by kernel_rfl) ?_;simp only[go_sem,e1,e2,e3,e4,F,I,aC X,b1,Xab];refine aH (P1 x c cuts ds dual h.m ac.b hq ac.price h.len h.size) ?_;simp only[go_sem,];refine aA (fun O=>?_) (fun O=>?_)
  ·have he:=Dec.oF hz aa O;rw[if_pos (by rw[he];simpa using O),he]at J;simp only[go_sem];rw[J];exact .refl _
  ·simp only[go_sem,F,I,ab,aC X,b1,Xab];refine Sq.Kh (a:=bH ⟨c,(cM x c cuts ds dual).1⟩) rfl ⟨dW _,?_⟩;refine aY R ⟨rfl,rfl⟩ (by simp only[go_sem]) (by simp;omega) (fun j2 ah=>?_);simp only[go_sem,e1,e2,e3,e4,F,I,aQ k];refine⟨⟨k+1,j2,E,rfl,rfl,?_,gS (p:=fun e:Int=>e=0) aa (by simpa using O) hz⟩,by simp only[aL];omega⟩;rw[ae,aB];exact congrArg some (I5 _ _)
 have T:=geB hk (by simpa using T);subst T;rw[Xan (by rw[Xab];exact Xaf _)]at hz;rw[if_neg (by rw[Dec.mS hz];simp)]at J;rw[Xad]at R;simp only[go_sem,ab];rw[J];exact .tup _ _ (.cons _ _ _ _ (.row _ _ _ R (ConvE.refl _)) (ConvL.refl _))
def Va(l:List Priced)(p:Priced)(hl:l.length<=1000000)(ad:∀q∈l,okP q)(hp:okP p):PC prog 28 [.sl (l.map bH),.agg (bH p)] (.sl ((ins ltP p l).map bH)):=by
 refine pcb (fun t=>t == 5) func28 rfl rfl ?_;simp only[go_sem];refine fI fun j ab ah (R:ab j=some (DU [])) N=>?_
 simp only[go_sem];refine⟨fun ρ H=>∃(k j:Nat) (E:Bool) (L:List Priced),k<=l.length/\ρ 0=.sl (l.map bH)/\ρ 3=.rp (bH p) 0/\ρ 5=.os j/\ρ 6=boo E/\ρ 7=int (k:Nat)/\H j=some (DU L)/\L.length<=2*k/\ins ltP p l=L++(if E=true then l.drop k else ins ltP p (l.drop k)),fun ρ _=>l.length-aR (ρ 7),⟨0,j,false,[],Xaa _,rfl,rfl,rfl,rfl,(by simp only[go_sem];rfl),R,by simp,rfl⟩,?_⟩;rintro ρ H ⟨k,j,E,L,hk,e0,e3,e5,e6,e7,R,hL,F⟩;simp only[go_sem,e0,e7,Xab];refine aA (fun I=>?_) (fun Y=>?_)
 ·have I:=ltB (by simpa using I);obtain⟨q,hq⟩:=aK I;have b1:=inB I;have aa:=ad q (Xac hq);have ae:=mG p.reduced q.reduced (tV hp) (tV aa);have ac:=Cp hp aa;rw[Av hq]at F;simp only[go_sem,];refine jK (by rfl) (by kernel_rfl) ?_;simp only[go_sem,e0,e3,e6,e7,aC hq,b1,Xab];refine⟨_,fun _=>ae.q rfl,?_⟩;simp only[go_sem,ac];refine aA (fun X=>?_) (fun X=>?_)
  ·simp only[Xak,Xax]at X;obtain⟨hd,J⟩:=X;subst hd;have F:ins ltP p l=L++(if ltP p q=true then p::q::l.drop (k+1)else q::ins ltP p (l.drop (k+1))):=F;rw[if_pos J]at F;simp only[go_sem,e3,e5,];refine aY R ⟨rfl,rfl⟩ (by simp only[go_sem]) (by simp;omega) (fun O T=>?_);generalize Z:aM (aM _ j none) O _=HP;have R2:HP O=some (DU (L++[p])):=by rw[<-Z,aB];exact congrArg some (I5 _ _)
   simp only[go_sem,e0,e7,aC hq,b1,Xab];refine aY R2 ⟨rfl,rfl⟩ (by simp only[go_sem]) (by simp;omega) (fun j3 ag=>?_);generalize Z:aM (aM _ O none) j3 _=HP;have R3:HP j3=some (DU ((L++[p])++[q])):=by rw[<-Z,aB];exact congrArg some (I5 _ _)
   simp only[go_sem,e0,e3,e7];simp only[go_sem,aQ k];exact⟨⟨k+1,j3,true,(L++[p])++[q],I,rfl,rfl,rfl,R3,by simp;omega,by rw[F];simp⟩,by simp only[aL];omega⟩
  ·have af : ins ltP p l = (L ++ [q]) ++ (if E = true then l.drop (k + 1) else ins ltP p (l.drop (k + 1))) := by
    rw[F];cases E with
    | true=>simp
    | false=>
     have J:ltP p q=false:=by simpa using X
     show L++(if ltP p q=true then p::q::l.drop (k+1)else q::ins ltP p (l.drop (k+1)))=_;rw[if_neg (by rw[J];simp)];simp
   simp only[go_sem,e0,e5,e7,aC hq,b1,Xab];refine aY R ⟨rfl,rfl⟩ (by simp only[go_sem]) (by simp;omega) (fun O T=>?_);generalize Z:aM (aM _ j none) O _=HP;have R2:HP O=some (DU (L++[q])):=by rw[<-Z,aB];exact congrArg some (I5 _ _)
   simp only[go_sem,e0,e3,e6,e7];simp only[go_sem,aQ k];exact⟨⟨k+1,O,E,L++[q],I,rfl,rfl,rfl,R2,by simp;omega,af⟩,by simp only[aL];omega⟩
 have Y:=geB hk (by simpa using Y);subst Y;rw[Xcj]at F;simp only[go_sem,e6];refine aA (fun X=>?_) (fun X=>?_)
 ·have hd:E=false:=by simpa using X
  subst hd;have F:ins ltP p l=L++[p]:=F;simp only[go_sem,e3,e5,];refine aY R ⟨rfl,rfl⟩ (by simp only[go_sem]) (by simp;omega) (fun O T=>?_);generalize Z:aM (aM _ j none) O _=HP;have R2:HP O=some (DU (L++[p])):=by rw[<-Z,aB];exact congrArg some (I5 _ _)
  simp only[go_sem,];rw[F];exact .row _ _ _ R2 (ConvE.refl _)
 ·have hd:E=true:=by simpa using X
  subst hd;have F:ins ltP p l=L++[]:=F;rw[Xah]at F;simp only[go_sem,e5,];rw[F];exact .row _ _ _ R (ConvE.refl _)
def akT{s:ByteArray}(h:bV s=true):decide (C5 s<0)=decide (oK s<0):=by
 have:=TR h;by_cases E:C5 s<0
 ·rw[decide_eq_true E];rw[decide_eq_false (by omega)]at this;cases e:decide (oK s<0)with
  | true=>rfl
  | false=>rw[e]at this;cases this
 ·rw[decide_eq_false E];rw[decide_eq_true (by omega)]at this;cases e:decide (oK s<0)with
  | false=>rfl
  | true=>rw[e]at this;cases this
def Jh(p:Priced):∀l:List Priced,Asc l->(ins ltP p l).filter oX=if oX p=true then ins ltP p (l.filter oX)else l.filter oX
 | [],_=>by unfold ins;rw[List.filter_cons];split <;> rfl
 | z::r,h=>by
  obtain⟨h1,Y⟩:=List.pairwise_cons.1 h;have ih:=Jh p r Y;unfold ins;by_cases F:ltP p z=true
  ·rw[if_pos F,List.filter_cons];by_cases E:oX p=true
   ·rw[if_pos E,if_pos E];by_cases I:oX z=true
    ·rw[List.filter_cons,if_pos I];show _=if ltP p z=true then p::z::r.filter oX else _
     rw[if_pos F]
    ·have J : (z :: r).filter oX = [] := List.filter_eq_nil_iff.2 fun q X J => by
      have T:¬oK z.reduced<0:=fun h=>I (decide_eq_true h)
      rcases Xbc.1 X with rfl|X
      ·exact I J
      ·exact T (Std.lt_of_le_of_lt (h1 q X) (of_decide_eq_true J))
     rw[J]
   ·rw[if_neg E,if_neg E]
  ·rw[if_neg F,List.filter_cons,ih];have O:oK z.reduced<=oK p.reduced:=Rat.not_lt.1 fun h=>F (decide_eq_true h)
   by_cases I:oX z=true
   ·rw[if_pos I,List.filter_cons,if_pos I];by_cases E:oX p=true
    ·rw[if_pos E,if_pos E];show _=if ltP p z=true then _ else z::ins ltP p (r.filter oX)
     rw[if_neg F]
    ·rw[if_neg E,if_neg E]
   ·have E:¬oX p=true:=fun E=>I (decide_eq_true (Std.lt_of_le_of_lt O (of_decide_eq_true E)))
    rw[if_neg I,if_neg E,if_neg E,List.filter_cons,if_neg I]
def pR(acc:List Priced)(p:Priced):List Priced:=if oX p=true then ins ltP p acc else acc
def QV:∀(l acc:List Priced),Asc acc->l.foldl pR (acc.filter oX)=(l.foldl (fun acc x=>ins ltP x acc) acc).filter oX
 | [],acc,_=>rfl
 | p::l,acc,h=>by rw[Xbv,Xbv,<-QV l _ (N5 p acc h),Jh p acc h];rfl
def Z8(l:List Priced):l.foldl pR []=K9 l:=by unfold K9;rw[EB _ (FT l)];exact QV l [] List.Pairwise.nil
def FW:∀(l acc:List Priced),(l.foldl pR acc).length<=acc.length+l.length
 | [],acc=>by simp
 | p::l,acc=>by
  have h1:=FW l (pR acc p);have E:(pR acc p).length<=acc.length+1:=by
   unfold pR;split
   ·rw[(Cf ltP p acc).length_eq];simp
   ·omega
  rw[Xbv,Xai];omega
def Tb:∀(l acc:List Priced),(∀q∈l,okP q)->(∀q∈acc,okP q)->∀q∈l.foldl pR acc,okP q
 | [],acc,_,h2=>h2
 | p::l,acc,h1,h2=>Tb l (pR acc p) (fun q E=>h1 q (by simp[E])) fun q E=>by
  unfold pR at E;split at E
  ·rcases HR.1 E with rfl|E
   ·exact h1 q (by simp)
   ·exact h2 q E
  ·exact h2 q E
def apT(h:RefOk x d cuts ds dual)(most:Int):
  PC prog 11 [.agg (aD x),.sl (cuts.map dS),.sl (ds.map aT),.sl (dual.map Go.Aw.D.fJ),int most] (.tup [.sl ((DD x d cuts ds dual most).1.map aS),int (DD x d cuts ds dual most).2]):=by
 have O:DD x d cuts ds dual most=(if(nT x d cuts ds dual != 0)=true then([],nT x d cuts ds dual)
  else if(decide (most<1)||decide (most>8192))=true then([],2)
  else if((lS x cuts ds dual).2 != 0)=true then([],(lS x cuts ds dual).2)
  else(((K9 (lS x cuts ds dual).1).take most.toNat).map (·.column),0)):=rfl
 generalize DD x d cuts ds dual most=RP at *;refine pcb (fun t=>t == 16) func11 rfl rfl ?_;simp only[go_sem];refine aH (abN h) ?_;simp only[go_sem];apply aA <;> intro Y
 ·rw[if_pos Y]at O;simp only[go_sem];rw[O];exact .refl _
 rw[if_neg (by rw[Y];simp)]at O;have ai:CutsB cuts:=⟨fun q af=>⟨Dw (Bu (by simpa using Y) q af),h.q q af⟩⟩;have aa:∀p∈(lS x cuts ds dual).1,okP p:=fun p hp=>Ef hp
 have ad:=EY x cuts ds dual h.ok.n8 h.ok.ty;simp only[go_sem];apply aA <;> intro Y
 ·rw[if_pos Y]at O;simp only[go_sem];rw[O];exact .refl _
 have am:1<=most/\most<=8192:=by simp only[Xag,decide_eq_false_iff_not]at Y;omega
 rw[if_neg (by rw[Y];simp)]at O;simp only[go_sem];refine aH (amH h ai) ?_;generalize lS x cuts ds dual=A at *;obtain⟨A,e⟩:=A;simp only at O aa ad;simp only[go_sem];apply aA <;> intro Y
 ·rw[if_pos Y]at O;simp only[go_sem];rw[O];exact .refl _
 rw[if_neg (by rw[Y];simp)]at O;rw[<-Z8]at O;simp only[go_sem];refine⟨fun ρ H=>∃(k:Nat),k<=A.length/\ρ 4=int most/\ρ 13=.sl (A.map bH)/\ρ 14=.sl (((A.take k).foldl pR []).map bH)/\ρ 15=int (k:Nat)/\H=bQ,fun ρ _=>A.length-aR (ρ 15),⟨0,Xaa _,rfl,rfl,(by simp only[go_sem];rfl),(by simp only[go_sem];rfl),rfl⟩,?_⟩;rintro ρ H ⟨k,hk,e4,X,J,T,rfl⟩;simp only[go_sem,X,T,Xab];refine aA (fun I=>?_) (fun E=>?_)
 ·have I:=ltB (by simpa using I);obtain⟨p,hp⟩:=aK I;have b1:=inB I;have ab:=aa p (Xac hp);have hs:=Sq.jX (f:=pR) (b:=([]:List Priced)) hp;have Z:=FW (A.take k) [];rw[Xap]at Z;have aj:=Tb (A.take k) [] (fun q hq=>aa q (Xco hq)) (fun q hq=>by cases hq);generalize (A.take k).foldl pR []=F at *;have hI:=Va F p (by simp at Z;omega) aj ab;simp only[go_sem,X,T,aC hp,b1];refine aH (aoA p.reduced (tV ab)) ?_;simp only[go_sem];rw[akT ab];apply aA <;> intro hc
  ·have hc:oX p=true:=hc;rw[show pR F p=ins ltP p F from if_pos hc]at hs;simp only[go_sem,X,J,T,aC hp,b1,Xab];refine aH hI ?_;simp only[go_sem,e4,X,T,aQ k];exact⟨⟨k+1,I,by rw[hs],rfl⟩,msr I⟩
  ·have hc:oX p=false:=hc;rw[show pR F p=F from if_neg (by rw[hc];simp)]at hs;simp only[go_sem,e4,X,J,T,aQ k];exact⟨⟨k+1,I,by rw[hs],rfl⟩,msr I⟩
 have E:=geB hk (by simpa using E);subst E;rw[Xad]at J;have Z:=FW A [];generalize A.foldl pR []=F at *;simp only[go_sem];refine fI fun j ag al (R:ag j=some (cD [])) N=>?_
 simp only[go_sem];refine⟨fun ρ H=>∃(k j:Nat),k<=F.length/\k<=most.toNat/\ρ 4=int most/\ρ 14=.sl (F.map bH)/\ρ 17=int (k:Nat)/\ρ 16=.os j/\H j=some (cD ((F.take k).map (·.column))),fun ρ _=>F.length-aR (ρ 17),⟨0,j,Xaa _,Xaa _,e4,J,(by simp only[go_sem];rfl),rfl,R⟩,?_⟩;rintro ρ H ⟨k,j,hk,an,e4,J,ac,ae,R⟩;simp only[go_sem,e4,J,ac,Xab];refine aA (fun I=>?_) (fun E=>?_)
 ·simp only[Xak,decide_eq_true_eq]at I;obtain⟨p,hp⟩:=aK (l:=F) (k:=k) (by omega);have b1:=inB (show k<F.length by omega);have ah:F.take (k+1)=F.take k++[p]:=bA hp;have ak:F.length<=256000:=by simp at Z;omega
  simp only[go_sem,J,ae,ac,aC hp,b1,Xab];refine aY R ⟨rfl,rfl⟩ (by simp only[go_sem]) (by simp;omega) (fun j2 ao=>?_);simp only[go_sem,e4,J,ac,aQ k];refine⟨⟨k+1,j2,by omega,by omega,rfl,rfl,?_⟩,by simp only[aL];omega⟩;rw[ah,aB];exact congrArg some (TN _ _)
 ·have E : F.length <= k \/ most.toNat <= k := by simp only[Bool.and_eq_false_iff,decide_eq_false_iff_not]at E;omega
  have ht:F.take most.toNat=F.take k:=by
   rcases E with E|E
   ·rw[Xan E,Xan (by omega)]
   ·rw[show most.toNat=k by omega]
  simp only[go_sem,ae];rw[O,ht];exact .tup _ _ (.cons _ _ _ _ (.row _ _ _ R (ConvE.refl _)) (ConvL.refl _))
end
end Nu.Ps
namespace Nu.Ps
open Go.Proofs.Tryz
open Go.Aw Go.Aw.D Go.Proofs Ty Go.Nu Go.So
open Dec (nZ eF fL eH uX mM)
open Sq (EvalB BestQ tX nN cD fH fR)
def Cs{x:Instance}{d:Nat}{cuts:List Cut}{ds:List Decision}{dual:List ByteArray}{most:Int}(I:x.orders.length<=8)(J:x.types.length<=1000):(DD x d cuts ds dual most).1.length<=1048576/\∀c∈(DD x d cuts ds dual most).1,c.route.rests.length<=1048576/\c.route.visits.length<=1048576:=by
 have E:([]:List Column).length<=1048576/\∀c∈([]:List Column),c.route.rests.length<=1048576/\c.route.visits.length<=1048576:=⟨by decide,fun c F=>by cases F⟩;unfold DD;split
 ·exact E
 split
 ·exact E
 split
 ·exact E
 refine⟨?_,fun c F=>?_⟩
 ·have h1:=EY x cuts ds dual I J;have X:=ajR (lS x cuts ds dual).1;have T:=Xcn oX (lS x cuts ds dual).1;simp only[Xab,Xap];omega
 ·obtain⟨p,O,rfl⟩:=Xbe.1 F;exact T3 I (Ai (XZ (ahA (Xco O)).1).1).1
structure AskIn(a:Ask3):Prop where
 x:InB a.x
 len:a.dual.length<=1048576
 size:∀s∈a.dual,s.size<=1048576
 q:∀q∈a.cuts,q.set<=9223372036854775807
 dec:∀d∈a.d,uX d
def alO{a:Ask3}(h:AskIn a)(F:KJ a=true):RefOk a.x (kL a.x.types).toNat a.cuts a.d a.dual:=by obtain⟨E,X,J,T,I,O,_⟩:=OF F;exact⟨aqF E (by omega),atN F,⟨by omega,by omega,by omega,by omega⟩,h.q,h.dec,h.len,h.size⟩
def Lk(x:Instance):∀k,(Sq.BC x k).length<=k*(2^x.orders.length-1)
 | 0=>Xaa _
 | k+1=>by rw[Sq.zZ,Xae,Nat.succ_mul];exact Nat.add_le_add (Lk x k) (Sq.wM ..)
def L8(x:Instance)(cuts:List Cut)(ds:List Decision)(dual:List ByteArray)(T:x.orders.length<=3)(I:x.types.length<=3):adO (lS x cuts ds dual).1:=by
 have Y:2^x.orders.length<=8:=Xal (Xau (by decide) T) (by decide);have E:(tX x).length<=21:=Xal (Lk x _) (Xal (Nat.mul_le_mul I (show 2^x.orders.length-1<=7 by omega)) (by decide));have X:(lS x cuts ds dual).1.length<=21:=by
  unfold lS;split
  ·exact Xaa _
  split
  ·exact Xaa _
  rw[Xab];unfold dI;split
  ·exact Xaa _
  ·exact Xal (Xcn _ _) E
 exact fun j H0 K O F=>JY arB atK _ j H0 K X (fun p J=>Ef J) O F
def abP:PC prog 6 [] (boo true):=afZ (TG exX 1 [] [] exD XP ⟨by decide,by decide,by decide,by decide⟩) (L8 exX [] [] exD (by decide) (by decide))
def Ep(F:PC prog 6 [] (boo true))(a:Ask3)(most:Int)(h:AskIn a):PC prog 4 [.agg (kE a),int most] (boo true):=by
 have hF:=awL a h.x h.len;refine pcd func4 rfl rfl ?_;simp only[go_sem];refine aH hF ?_;simp only[go_sem];apply aA <;> intro J
 ·simp only[go_sem];refine aH F ?_;simp only[go_sem];exact .refl _
 have I:KJ a=true:=by simpa using J
 have E:=alO h I;have Y:=aiO a.x _ a.cuts a.d a.dual most E.ok E.m E.q E.len E.size (TG _ _ _ _ _ E.ok E.m) (L8 _ _ _ _ (OF I).2.1 (OF I).2.2.1);have O:=apT E most;obtain⟨Z,X⟩:=Cs (x:=a.x) (d:=(kL a.x.types).toNat) (cuts:=a.cuts) (ds:=a.d) (dual:=a.dual) (most:=most) E.ok.n8 E.ok.ty;generalize DD a.x (kL a.x.types).toNat a.cuts a.d a.dual most=B at *;have T:=N0 B.1 Z X;simp only[go_sem];refine aH Y ?_;simp only[go_sem];refine aH O ?_;simp only[go_sem];refine aH T ?_;simp only[go_sem];refine⟨boo true,fun _=>F.q rfl,?_⟩;simp only[go_sem];exact cB (by simp)
end Nu.Ps
section
open Go.Aw Go.Aw.D
theorem inB_of{x:Instance}(h:Fo 1048576 x):InB x:=by obtain⟨⟨J,I⟩,F,E,T,X⟩:=h;exact⟨J.1,J.2,I.1,fun a Y=>⟨(I.2 a Y).2.2.2.2.1.1,(I.2 a Y).2.2.2.2.2.1⟩,F.1,fun t O=>⟨(F.2 t O).1,(F.2 t O).2.2.2.2.1.1⟩,E.1,fun t O=>⟨(E.2 t O).1,(E.2 t O).2.1.1⟩,T.1,X.1⟩
theorem askIn_of{a:Ask3}(h:aiF 1048576 a):Nu.Ps.AskIn a:=⟨inB_of h.1,h.2.2.2.1,h.2.2.2.2,fun q F=>(h.2.1.2 q F).2.1.2,fun d E=>h.2.2.1.2 d E⟩
theorem pricingNegative_holds:Rows.PricingNegativeUptoCardSaid:=pricingNegative.card fun a m E _=>Nu.Ps.Ep Nu.Ps.abP a m (askIn_of E)
#print axioms pricingNegative_holds
end
end Go.Proofs.YtpagaknmdfgfkaaGreatDoor
