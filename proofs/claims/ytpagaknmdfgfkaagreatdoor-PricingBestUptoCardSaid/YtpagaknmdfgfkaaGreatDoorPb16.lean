import Derived.Test.YtpagaknmdfgfkaaGreatDoorPb12
set_option linter.unusedSimpArgs false
set_option linter.unusedVariables false
set_option linter.defProp false
set_option maxRecDepth 100000
namespace Go.Proofs.YtpagaknmdfgfkaaGreatDoor
open Go.Aw Go.Aw.D Go.Proofs Ty
namespace Sq
open Go.Proofs.Tryz
open Mv (bO bR aO)
def dU(l:Lab):List AV:=[int l.ready,int l.since,boo l.sheet.rest,int l.sheet.depart,.sl (l.sheet.times.map rT),int l.sheet.end_,int l.sheet.miles]
def mD(l:Lab):(dU l).length=7:=(rfl)
def adO(l:Lab):(dU l).getD 0 .any=int l.ready:=(rfl)
def afL(l:Lab):(dU l).getD 1 .any=int l.since:=(rfl)
def agP(l:Lab):(dU l).getD 4 .any=.sl (l.sheet.times.map rT):=(rfl)
def abH(l:Lab):(dU l).getD 5 .any=int l.sheet.end_:=(rfl)
def akD(l:Lab):((dU l).drop 2).take 5=bP l.sheet:=(rfl)
def TG(l:Lab):(dU l).take 7=dU l:=(rfl)
def dW(x:Instance)(t:VType)(r:Route)(st:List Stop):List AV:=aC x++(bF t++(bT r++[.sl (st.map eN)]))
section
variable(x:Instance)(t:VType)(r:Route)(st:List Stop)
def GD:(dW x t r st).length=25:=(rfl)
def Zd:(dW x t r st).getD 8 .any=int t.src:=(rfl)
def aaA:(dW x t r st).getD 9 .any=int t.dst:=(rfl)
def UE:(dW x t r st).getD 12 .any=int t.profile:=(rfl)
def V3:(dW x t r st).getD 13 .any=int t.start:=(rfl)
def Us:(dW x t r st).getD 14 .any=int t.close:=(rfl)
def Uh:(dW x t r st).getD 15 .any=int t.drive:=(rfl)
def TR:(dW x t r st).getD 16 .any=int t.rest:=(rfl)
def Vs:(dW x t r st).getD 21 .any=int r.start:=(rfl)
def UO:(dW x t r st).getD 22 .any=.sl (r.rests.map dI):=(rfl)
def Vj:(dW x t r st).getD 24 .any=.sl (st.map eN):=(rfl)
def Q3:(dW x t r st).take 2=bD x.net:=(rfl)
def Se:(dW x t r st).take 25=dW x t r st:=(rfl)
end
attribute [go_sem] mD adO afL agP abH akD TG GD Zd aaA UE V3 Us Uh TR Vs UO Vj Q3 Se
def EG:Lab:=⟨0,0,aX⟩
abbrev iE(cs:List AV):Row:=⟨329,7,[cs]⟩
def sK(t:VType)(st:List Stop)(k:Nat):Int:=match k with
 | 0=>t.src
 | j+1=>(st.getD j kZ).place
def S6(x:Instance)(t:VType)(r:Route)(st:List Stop):PC prog 307 [.agg (dW x t r st)] (.agg (dU (gI t r))):=by
 refine pcd func307 rfl rfl ?_;simp only[go_sem];refine fO fun I E F (J:E I=some (iE (dU EG))) N=>?_
 simp only[go_sem];refine aI J (by simp) ?_;simp only[go_sem];exact .refl _
def agK(x:Instance)(t:VType)(r:Route)(st:List Stop)(k:Nat)(J:k<=st.length)(O:st.length<=1048576):PC prog 369 [.agg (dW x t r st),int k] (int (sK t st k)):=by
 refine pcd func369 rfl rfl ?_;simp only[go_sem];apply aA <;> intro E
 ·have:k=0:=by simp at E;exact E
  subst this;simp only[go_sem];exact .refl _
 ·obtain⟨j,rfl⟩:∃j,k=j+1:=⟨k-1,by simp at E;omega⟩;obtain⟨s,F⟩:=aK (show j<st.length by omega);have w:IntKind.i64.wrap (((j+1:Nat):Int)-1)=(j:Int):=by rw[aW (by omega)];omega
  have I:=inB (show j<st.length by omega);simp only[go_sem,w,aD F,I];exact bO (by unfold sK;simp[List.getD,F])
def Ys:∀l:List Tm,dL 4 (l.map rT)
 | []=>trivial
 | _::r=>⟨rfl,Ys r⟩
def ahA(l:List Tm)(O:l.length<=1048576):NC prog 368 [.sl (l.map rT)] (yX l) .os:=by
 refine ncb (fun t=>t == 2||t == 5) func368 rfl rfl ?_;simp only[go_sem];refine aL fun j U=>?_
 have R:=aB bQ j (some (yX []));generalize aM bQ j _=H at R |-;simp only[go_sem];refine⟨fun J=>?_,?_⟩
 ·refine aA (fun _=>?_) (fun E=>by simp at E);simp only[go_sem];refine aL fun i hi=>?_
  simp only[go_sem];refine⟨i,rfl,?_⟩;rw[aB,List.map_eq_nil_iff.1 J];rfl
 ·refine aA (fun E=>by simp at E) (fun _=>?_);simp only[go_sem];refine aL fun i hi=>?_
  simp only[go_sem];refine aZ (aB _ _ _) ⟨rfl,rfl⟩ (Ys _) (by simp;omega) (fun F I=>?_);simp only[go_sem];refine⟨F,rfl,?_⟩;exact aB _ _ _
def nC(x:Instance)(t:VType)(st:List Stop)(k:Nat)(l:Lab)(b:Bool):Except Int Lab:=match st[k]? with
 | some s=>pP x t (sK t st k) s k l b
 | none=>rS x t (sK t st k) k l b
def agV(e:Except Int Lab):Lab:=match e with| .ok l=>l| .error _=>EG
def vN:Instance:=⟨⟨[],[]⟩,[],[],[],[]⟩
def Dc:VType:=⟨ByteArray.empty,0,0,0,[],0,0,0,0,0,0,0,0,0⟩
def Dp:Route:=⟨0,0,[],[]⟩
abbrev AS(cs:List AV):Row:=⟨325,25,[cs]⟩
def fS(x:Instance)(l:List Visit):List Stop:=l.map fun v=>(bI x v).1
def CZ(x:Instance)(r:Route):List AV×Bool:=if bW x r=true then match x.types[r.type.toNat]? with
 | some t=>(dW x t r (fS x r.visits),true)
 | none=>(dW vN Dc Dp [],false)
 else(dW vN Dc Dp [],false)
def F6(x:Instance)(t:VType)(r:Route)(j:Nat):List AV:=aC x++(bF t++(bT r++[.os j]))
def tk1{x:Instance}{l:List AV}:(aC x++l).take 6=aC x:=(rfl)
def dr1{x:Instance}{l:List AV}:(aC x++l).drop 20=l.drop 14:=(rfl)
def tk2{x:Instance}{t:VType}{l:List AV}:(aC x++bF t++l).take 20=aC x++bF t:=(rfl)
def dr2{x:Instance}{t:VType}{l:List AV}:(aC x++bF t++l).drop 24=l.drop 4:=(rfl)
abbrev EL(l:List Stop):Row:=⟨91,4,l.map eN⟩
def abN(x:Instance)(t:VType)(r:Route)(j:Nat):(F6 x t r j).getD 24 .any=.os j:=(rfl)
def YB(x:Instance)(t:VType)(r:Route)(j:Nat):(F6 x t r j).take 25=F6 x t r j:=(rfl)
def ZH(x:Instance)(t:VType)(r:Route)(j:Nat):(F6 x t r j).length=25:=(rfl)
attribute [go_sem] abN YB ZH
def Cl{H:aH}{l l':List AV}(h:ConvL H l l'):∀p:List AV,ConvL H (p++l) (p++l')
 | []=>h
 | a::p=>.cons a a _ _ (.refl a) (Cl h p)
def ZS{H:aH}{x:Instance}{t:VType}{r:Route}{E:Nat}{st:List Stop}(R:H E=some (EL st)):ConvL H (F6 x t r E) (dW x t r st):=
 Cl (Cl (Cl (.cons _ _ _ _ (.row _ _ _ R (ConvE.refl _)) .nil) _) _) _
def YA{x:Instance}{v:Visit}(h:(bI x v).2=true):0<=(bI x v).1.place/\eZ x v=((bI x v).1,0):=by
 refine⟨?_,by unfold eZ;rw[if_pos h]⟩;unfold bI at h |-;split at h
 ·cases h
 ·rename_i E;rw[if_neg E];split at h
  ·rename_i o F;simpa using h
  ·cases h
def Uj{x:Instance}{v:Visit}(h:(bI x v).2=false):((eZ x v).2 != 0)=true:=by unfold eZ;rw[if_neg (by rw[h];simp)];show((if cK v.order x.orders.length=true then(2:Int)else 19) != 0)=true;split <;> rfl
def aqU(x:Instance)(r:Route)(hl:r.visits.length<=1048576):PC prog 306 [.agg (aC x),.agg (bT r)] (.tup [.agg (CZ x r).1,boo (CZ x r).2]):=by
 refine pcb (fun t=>t == 47) func306 rfl rfl ?_;simp only[go_sem];refine fO fun i4 am au (E:am i4=some (AS (dW vN Dc Dp []))) N=>?_
 simp only[go_sem];apply aA <;> intro h1
 ·have hp:bW x r=false:=by unfold bW;rw[show(cK r.type x.types.length||decide (r.start<0)||decide (r.start>4096)||decide ((r.visits.length:Int)>20))=true from h1];rfl
  have e:CZ x r=(dW vN Dc Dp [],false):=by unfold CZ;rw[if_neg (by rw[hp];simp)]
  rw[e];simp only[go_sem];refine aI E (by simp) ?_;simp only[go_sem];exact .refl _
 have hp:bW x r=r.visits.all fun v=>(bI x v).2:=by unfold bW;rw[show(cK r.type x.types.length||decide (r.start<0)||decide (r.start>4096)||decide ((r.visits.length:Int)>20))=false from h1];rfl
 have ao:0<=r.type/\r.type<(x.types.length:Int):=by simp only[Xag,decide_eq_false_iff_not]at h1;omega
 have aw:r.visits.length<=20:=by simp only[Xag,decide_eq_false_iff_not]at h1;omega
 obtain⟨t,ht⟩:=aK (show r.type.toNat<x.types.length by omega);simp only[go_sem];refine lQ [(0,true),(1,true),(2,true),(3,true),(4,true),(5,true),(6,true),(7,true),(8,true),(9,false),(10,false)] (by kernel_rfl) ?_;simp only[go_sem,aD ht,ao,Xae,tk1,dr1,tk2,dr2];refine fO fun i6 ad av (J:ad i6=some (AS (dW vN Dc Dp []))) N=>?_
 replace E:=N E;obtain⟨F,E⟩:=E;simp only[go_sem];refine Nf 24 91 4 ⟨rfl,by decide⟩ J ⟨by simp,rfl,Xaf _⟩ fun O an=>?_
 have V:i6≠O:=bE J an;have Y:i4≠O:=bE E an;generalize hG:aM (aM ad O _) i6 _=HG;replace E:=kpR hG F Y E;have Rs:HG O=some (EL []):=by rw[<-hG,aJ _ _ _ _ V.symm,aB];rfl
 replace J:HG i6=some (AS (F6 x t r O)):=by rw[<-hG,aB];rfl
 simp only[go_sem];refine⟨fun ρ H=>∃k:Nat,k<=r.visits.length/\ρ 2=.rp (aC x) 0/\ρ 4=.op i4 0 0/\ρ 6=.op i6 0 0/\ρ 49=.sl (r.visits.map aF)/\ρ 50=int r.visits.length/\ρ 51=int k/\H i4=some (AS (dW vN Dc Dp []))/\(∃O,H i6=some (AS (F6 x t r O))/\H O=some (EL (fS x (r.visits.take k))))/\∀v∈r.visits.take k,(bI x v).2=true,fun ρ _=>r.visits.length-aR (ρ 51),⟨0,Xaa _,rfl,rfl,rfl,rfl,rfl,by simp only[go_sem];rfl,E,⟨O,J,Rs⟩,by simp⟩,?_⟩;rintro ρ H ⟨k,hk,h2,h4,h6,al,ak,af,E,⟨O,J,Rs⟩,hz⟩;have U:O≠i6:=dQ Rs J (by rfl);have I:O≠i4:=dQ Rs E (by rfl);simp only[go_sem,ak,af];refine aA (fun Z=>?_) (fun ae=>?_)
 ·have Z:=aT Z;obtain⟨v,hv⟩:=aK Z;have b1:=inB Z;simp only[go_sem,al,af,aD hv,b1];refine aL fun i8 ai=>?_
  simp only[go_sem];refine cJ ai (by simp[dJ]) fun ah (R8:ah i8=some (⟨112,2,[aF v]⟩)) N=>?_
  replace E:=(N E).2;replace J:=(N J).2;replace Rs:=(N Rs).2;simp only[go_sem,h2,R8,];refine aG (XN x v) ?_;simp only[go_sem];refine aL fun i9 aj=>?_
  simp only[go_sem];refine cJ aj (by simp[iB]) fun ac (R9:ac i9=some (Au (eZ x v).1)) N=>?_
  replace E:=(N E).2;replace J:=(N J).2;replace Rs:=(N Rs).2;simp only[go_sem,R9,];cases aa:(bI x v).2 with
  | false=>
   have ar:=Uj aa;refine aA (fun _=>?_) (fun hb=>by rw[ar]at hb;simp at hb);simp only[go_sem,h4];refine aI E (by simp) ?_;simp only[go_sem,h4];have e:CZ x r=(dW vN Dc Dp [],false):=by unfold CZ;rw[if_neg (by rw[hp,xB hv aa];simp)]
   rw[e];exact .refl _
  | true=>
   obtain⟨ax,aq⟩:=YA aa;rw[aq]at R9 |-;refine aA (fun hb=>by simp at hb;omega) (fun _=>?_);simp only[go_sem,h6,J,R9];refine aZ Rs ⟨rfl,rfl⟩ ⟨rfl,trivial⟩ (by simp[fS];omega) (fun j' ab=>?_);have X:i6≠j':=bE J ab;have ag:i4≠j':=bE E ab;replace E:=dK (r':=⟨91,4,List.map eN (fS x (r.visits.take k))++[eN (bI x v).1]⟩) E I ab;replace J:=dK (r':=⟨91,4,List.map eN (fS x (r.visits.take k))++[eN (bI x v).1]⟩) J U ab;have ap:aM (aM ac O none) j' (some (⟨91,4,List.map eN (fS x (r.visits.take k))++[eN (bI x v).1]⟩:Row)) j'=some (EL (fS x (r.visits.take (k+1)))):=by rw[bA hv];unfold fS;rw[Xal];exact kV (l':=[(bI x v).1]) rfl
   simp only[go_sem,h6,];refine dS aqE J ⟨by simp,rfl,by simp⟩ ?_;simp only[go_sem,h2,h4,h6,al,ak,af,aQ k];exact⟨⟨k+1,Z,rfl,(aJ _ _ _ _ F).trans E,⟨j',rfl,(aJ _ _ _ _ X.symm).trans ap⟩,aO (p:=fun v=>(bI x v).2=true) hv aa hz⟩,msr Z⟩
 ·have ae:=aV hk ae;subst ae;rw[Xad]at hz Rs;simp only[go_sem,h4,h6,J];refine aI E ⟨by simp,rfl,Xaf _⟩ ?_;simp only[go_sem,h4];have e:CZ x r=(dW x t r (fS x r.visits),true):=by unfold CZ;rw[if_pos (by rw[hp];exact Xaj.2 hz),ht]
  rw[e];exact .tup [.agg (F6 x t r O),boo true] _ (.cons _ _ _ _ (.agg _ _ (ZS ((aJ _ _ _ _ I).trans Rs))) (ConvL.refl _))
def kQ(rdy sin:Int)(sd:Sheet)(j:Nat):List AV:=[int rdy,int sin,boo sd.rest,int sd.depart,.os j,int sd.end_,int sd.miles]
def Wm(a b s j):(kQ a b s j).length=7:=(rfl)
def ahF(a b s j):(kQ a b s j).getD 0 .any=int a:=(rfl)
def acG(a b s j):(kQ a b s j).getD 1 .any=int b:=(rfl)
def acT(a b s j):(kQ a b s j).getD 4 .any=.os j:=(rfl)
def ajA(a b s j):(kQ a b s j).getD 6 .any=int s.miles:=(rfl)
def UH(a b s j):(kQ a b s j).take 7=kQ a b s j:=(rfl)
attribute [go_sem] Wm ahF acG acT ajA UH
def QV{H:aH}{j:Nat}{l:Lab}(R:H j=some (yX l.sheet.times)):ConvL H (kQ l.ready l.since l.sheet j) (dU l):=
 .cons _ _ _ _ (.refl _) (.cons _ _ _ _ (.refl _) (.cons _ _ _ _ (.refl _) (.cons _ _ _ _ (.refl _) (.cons _ _ _ _ (.row _ _ _ R (ConvE.refl _)) (ConvL.refl _)))))
def apA{l:List Tm}{j:Nat}{E:Tm}(h:l[j]?=some E)(b:Bool):(l.map rT).set j (oV ((l.map rT).getD j []) 3 [boo b])=(l.set j ⟨E.arrive,E.begin_,E.depart,b⟩).map rT:=by rw[aD h,List.map_set];rfl
def aqZ{l:List Tm}{j:Nat}{E:Tm}(h:l[j]?=some E)(d:Int):(l.map rT).set j (oV ((l.map rT).getD j []) 2 [int d])=(l.set j ⟨E.arrive,E.begin_,d,E.rest⟩).map rT:=by rw[aD h,List.map_set];rfl
def aeW(x:Instance)(t:VType)(r:Route)(st:List Stop)(l:Lab)(k:Nat)(b:Bool)(hn:NetOk x.net)(ao:st.length<=1048576)(hk:k<=st.length)(hl:l.sheet.times.length=k):
  PC prog 343 [.agg (dW x t r st),.agg (dU l),int k,boo b] (.tup [.agg (dU (agV (nC x t st k l b))),int (F2 (nC x t st k l b))]):=by
 refine pcd func343 rfl rfl ?_;simp only[go_sem];refine fO fun i8 an aq (U:an i8=some (iE (dU EG))) N=>?_
 simp only[go_sem];refine dR ?_;simp only[go_sem];refine bK (fun Y H'=>Y 2=int k/\Y 3=boo b/\Y 4=.rp (dW x t r st) 0/\Y 5=.rp (dU l) 0/\Y 8=.op i8 0 0/\Y 10=int (gZ t l b)/\Y 11=int (nS l b)/\H' i8=some (iE (dU EG))) ?_ fun K hK=>aA (fun hb=>?_) (fun hb=>?_)
 rotate_left
 ·simp only[go_sem];exact hK _ _ ⟨rfl,rfl,rfl,rfl,rfl,by simp only[go_sem];unfold gZ;rw[if_pos hb];rfl,by simp only[go_sem];unfold nS;rw[if_pos hb],U⟩
 ·simp only[go_sem];exact hK _ _ ⟨rfl,rfl,rfl,rfl,rfl,by simp only[go_sem];unfold gZ;rw[if_neg (by rw[hb];simp)],by simp only[go_sem];unfold nS;rw[if_neg (by rw[hb];simp)],U⟩
 rintro ρ H ⟨h2,h3,h4,h5,h8,ac,ae,U⟩;simp only[go_sem,h5,];refine aL fun O ag=>?_
 simp only[go_sem];refine cJ ag (by simp[iQ]) fun ad (I:ad O=some (iE ([int 0,int 0]++bP l.sheet))) N=>?_
 replace U:=N U;obtain⟨F,U⟩:=U;simp only[go_sem,h5,];refine NC.use (ahA l.sheet.times (by omega)) fun jt ak=>?_
 have V:i8≠jt:=bE U ak;have E:O≠jt:=bE I ak;generalize hG:aM ad jt _=HG;replace U:=(congrFun hG.symm i8).trans ((aJ _ _ _ _ V).trans U);replace I:=(congrFun hG.symm O).trans ((aJ _ _ _ _ E).trans I);have X:HG jt=some (yX l.sheet.times):=by rw[<-hG,aB]
 simp only[go_sem];refine dS WQ I ⟨by simp,rfl,by simp⟩ ?_;generalize J:aM _ O _=HP;replace U:=kpA J (by first|exact F|exact ne_i12_i8.symm) U;replace X:=kpA J (by first|exact ne_jt_i12|exact E.symm) X;replace I:HP O=some (iE (kQ 0 0 l.sheet jt)):=upS J;simp only[go_sem,h2,];refine bK (fun Y H'=>Y 2=int k/\Y 4=.rp (dW x t r st) 0/\Y 8=.op i8 0 0/\Y 10=int (gZ t l b)/\Y 11=int (nS l b)/\Y 12=.op O 0 0/\H' i8=some (iE (dU EG))/\H' O=some (iE (kQ 0 0 (dB l.sheet k b (gZ t l b)) jt))/\H' jt=some (yX (dB l.sheet k b (gZ t l b)).times)) ?_ fun K hK=>aA (fun hb=>?_) (fun hb=>?_)
 rotate_left
 ·have h0:k=0:=by simp at hb;exact hb
  subst h0;simp only[go_sem,h3,];refine dS so4 I ⟨by simp,rfl,by simp⟩ ?_;generalize J:aM _ O _=HP;replace U:=kpA J (by first|exact F|exact ne_i12_i8.symm) U;replace X:=kpA J (by first|exact ne_jt_i12|exact E.symm) X;replace I:HP O=some (iE (kQ 0 0 { l.sheet with rest:=b } jt)):=upS J;simp only[go_sem,ac,];refine dS so3 I ⟨by simp,rfl,by simp⟩ ?_;generalize J:aM _ O _=HP;replace U:=kpA J (by first|exact F|exact ne_i12_i8.symm) U;replace X:=kpA J (by first|exact ne_jt_i12|exact E.symm) X;replace I:HP O=some (iE (kQ 0 0 { l.sheet with rest:=b,depart:=gZ t l b } jt)):=upS J;simp only[go_sem];exact hK _ _ ⟨h2,h4,h8,ac,ae,rfl,U,I,X⟩
 ·obtain⟨j,rfl⟩:∃j,k=j+1:=⟨k-1,by simp at hb;omega⟩;have w:IntKind.i64.wrap (((j+1:Nat):Int)-1)=(j:Int):=by rw[aW (by omega)];omega
  obtain⟨tm,am⟩:=aK (show j<l.sheet.times.length by omega);have b1:=inB (show j<l.sheet.times.length by omega);have eg:l.sheet.times.getD j FM=tm:=by simp[List.getD,am]
  simp only[go_sem,h2,h3,I,X,w];refine⟨⟨b1.1,b1.2⟩,dS so4 X ⟨by simpa using b1.2,rfl,by simp⟩ ?_⟩;generalize J:aM _ jt _=HP;replace U:=kpA J (by first|exact V|exact ne_jt_i8.symm) U;replace I:=kpA J (by first|exact E|exact ne_jt_i12.symm) I;replace X:HP jt=some (yX (l.sheet.times.set j ⟨tm.arrive,tm.begin_,tm.depart,b⟩)):=by rw[<-J,aB];exact congrArg (fun es=>some (⟨375,4,es⟩:Row)) (apA am b)
  simp only[go_sem,h2,ac,w,X,I];have aj:(l.sheet.times.set j ⟨tm.arrive,tm.begin_,tm.depart,b⟩)[j]?=some ⟨tm.arrive,tm.begin_,tm.depart,b⟩:=by rw[List.getElem?_set_self (by omega)]
  refine⟨⟨b1.1,by rw[List.length_set];exact b1.2⟩,dS so3 X ⟨by simpa using b1.2,rfl,by simp⟩ ?_⟩;generalize J:aM _ jt _=HP;replace U:=kpA J (by first|exact V|exact ne_jt_i8.symm) U;replace I:=kpA J (by first|exact E|exact ne_jt_i12.symm) I;replace X:HP jt=some (yX ((l.sheet.times.set j ⟨tm.arrive,tm.begin_,tm.depart,b⟩).set j ⟨tm.arrive,tm.begin_,gZ t l b,b⟩)):=by rw[<-J,aB];exact congrArg (fun es=>some (⟨375,4,es⟩:Row)) (aqZ aj _)
  simp only[go_sem];refine hK _ _ ⟨h2,h4,h8,ac,ae,rfl,U,I,?_⟩;rw[X,List.set_set];simp only[dB,eg]
 rintro ρ H ⟨h2,h4,h8,ac,ae,Z,U,I,X⟩;generalize hD:gZ t l b=D at *;have J:=agK x t r st k hk ao;rcases Xav k st.length with al|ap
 ·obtain⟨s,hs⟩:=aK al;have b1:=inB al;have ai:((k:Int) == (st.length:Int))=false:=by simp;omega
  have eS:nC x t st k l b=pP x t (sK t st k) s k l b:=by unfold nC;rw[hs]
  rw[eS];unfold pP mP jH goL;simp only[hD];generalize hg:fP x.net t.profile (sK t st k) s.place D=g;simp only[go_sem,h2,h4,ai];refine aA (fun _=>?_) (fun hb=>by simp at hb);simp only[go_sem,h2,h4,aD hs,b1];refine dR ?_;simp only[go_sem,h2,h4,];refine⟨_,J.q rfl,?_⟩;simp only[go_sem,ac,];refine⟨_,(ajO x.net t.profile (sK t st k) s.place D hn).q rfl,?_⟩;rw[hg];simp only[go_sem];apply aA <;> intro he
  ·simp only[go_sem,h8];refine aI U (by simp) ?_;simp only[go_sem,h8];rw[if_pos he];exact .refl _
  rw[if_neg (by rw[he];simp)];simp only[go_sem,Z,I];refine dS so3 I ⟨by simp,rfl,by simp⟩ ?_;generalize J:aM _ O _=HP;replace U:=kpA J (by first|exact F|exact ne_i12_i8.symm) U;replace X:=kpA J (by first|exact ne_jt_i12|exact E.symm) X;replace I:HP O=some (iE (kQ 0 0 { dB l.sheet k b D with miles:=W ((dB l.sheet k b D).miles+g.2.1) } jt)):=upS J;simp only[go_sem,ac,ae,Z,];refine dS so3 I ⟨by simp,rfl,by simp⟩ ?_;generalize J:aM _ O _=HP;replace U:=kpA J (by first|exact F|exact ne_i12_i8.symm) U;replace X:=kpA J (by first|exact ne_jt_i12|exact E.symm) X;replace I:HP O=some (iE (kQ 0 (W (W (nS l b+g.1)-D)) { dB l.sheet k b D with miles:=W ((dB l.sheet k b D).miles+g.2.1) } jt)):=upS J;simp only[go_sem];refine aA (fun hb=>by simp at hb) (fun _=>?_);simp only[go_sem,h2,h4,aD hs,b1];refine aG (Yi s g.1) ?_;simp only[go_sem];by_cases hw:eV g.1 s.start>s.close
  ·rw[if_pos hw,if_pos hw,if_pos hw];refine aA (fun _=>?_) (fun hb=>by simp at hb);simp only[go_sem,h8];refine aI U (by simp) ?_;simp only[go_sem,h8];exact .refl _
  rw[if_neg hw,if_neg hw,if_neg hw];refine aA (fun hb=>by simp at hb) (fun _=>?_);simp only[go_sem,h2,h4,Z,aD hs,b1];refine dS so3 I ⟨by simp,rfl,by simp⟩ ?_;generalize J:aM _ O _=HP;replace U:=kpA J (by first|exact F|exact ne_i12_i8.symm) U;replace X:=kpA J (by first|exact ne_jt_i12|exact E.symm) X;replace I:HP O=some (iE (kQ (W (eV g.1 s.start+s.service)) (W (W (nS l b+g.1)-D)) { dB l.sheet k b D with miles:=W ((dB l.sheet k b D).miles+g.2.1) } jt)):=upS J;simp only[go_sem,Z,I,];refine aZ X ⟨rfl,rfl⟩ ⟨rfl,trivial⟩ (by simp[(oE l.sheet k b D).2.2];omega) (fun j' af=>?_);have ab:i8≠j':=bE U af;have aa:O≠j':=bE I af;generalize J:aM (aM _ jt none) j' _=HP;replace U:=kpB J ab (by first|exact V|exact ne_jt_i8.symm) U;replace I:=kpB J aa (by first|exact E|exact ne_jt_i12.symm) I;have ah:HP j'=some (yX ((dB l.sheet k b D).times++[⟨g.1,eV g.1 s.start,0,false⟩])):=by rw[<-J,aB];(show some (⟨375,4,_⟩:Row)=some ⟨375,4,_⟩;rw[Xal];rfl)
  simp only[go_sem,Z,];refine dS WQ I ⟨by simp,rfl,by simp⟩ ?_;generalize J:aM _ O _=HP;replace U:=kpA J (by first|exact F|exact ne_i12_i8.symm) U;replace ah:=kpA J (by first|exact ne_j'_i12|exact aa.symm) ah;replace I:HP O=some (iE (kQ (W (eV g.1 s.start+s.service)) (W (W (nS l b+g.1)-D)) { dB l.sheet k b D with miles:=W ((dB l.sheet k b D).miles+g.2.1),times:=(dB l.sheet k b D).times++[⟨g.1,eV g.1 s.start,0,false⟩] } j')):=upS J;simp only[go_sem,h4,Z,I,];apply aA <;> intro hd
  ·rw[if_pos (by simpa using hd)];simp only[go_sem,h8];refine aI U (by simp) ?_;simp only[go_sem,h8];exact .refl _
  ·rw[if_neg (by simpa using hd)];simp only[go_sem,h8,Z,I];refine aI U ⟨by simp,rfl,Xaf _⟩ ?_;simp only[go_sem,h8];have hm:=(oE l.sheet k b D).1;have:=fun H=>QV (H:=H) (j:=j') (l:=⟨W (eV g.1 s.start+s.service),W (W (nS l b+g.1)-D),{ dB l.sheet k b D with miles:=W ((dB l.sheet k b D).miles+g.2.1),times:=(dB l.sheet k b D).times++[⟨g.1,eV g.1 s.start,0,false⟩] }⟩)
   simp only[hm]at this |-;exact .tup [.agg (kQ _ _ _ j'),int 0] _ (.cons _ _ _ _ (.agg _ _ (this _ ((aJ _ _ _ _ ab.symm).trans ah))) (ConvL.refl _))
 ·have ar:k=st.length:=by omega
  have ai:((k:Int) == (st.length:Int))=true:=by simp;omega
  have eS:nC x t st k l b=rS x t (sK t st k) k l b:=by unfold nC;rw[List.getElem?_eq_none ap]
  rw[eS];unfold rS mP JA goL;simp only[hD];generalize hg:fP x.net t.profile (sK t st k) t.dst D=g;simp only[go_sem,h2,h4,ai];refine aA (fun hb=>by simp at hb) (fun _=>?_);simp only[go_sem];refine dR ?_;simp only[go_sem,h2,h4,];refine⟨_,J.q rfl,?_⟩;simp only[go_sem,ac,];refine⟨_,(ajO x.net t.profile (sK t st k) t.dst D hn).q rfl,?_⟩;rw[hg];simp only[go_sem];apply aA <;> intro he
  ·simp only[go_sem,h8];refine aI U (by simp) ?_;simp only[go_sem,h8];rw[if_pos he];exact .refl _
  rw[if_neg (by rw[he];simp)];simp only[go_sem,Z,I];refine dS so3 I ⟨by simp,rfl,by simp⟩ ?_;generalize J:aM _ O _=HP;replace U:=kpA J (by first|exact F|exact ne_i12_i8.symm) U;replace X:=kpA J (by first|exact ne_jt_i12|exact E.symm) X;replace I:HP O=some (iE (kQ 0 0 { dB l.sheet k b D with miles:=W ((dB l.sheet k b D).miles+g.2.1) } jt)):=upS J;simp only[go_sem,ac,ae,Z,];refine dS so3 I ⟨by simp,rfl,by simp⟩ ?_;generalize J:aM _ O _=HP;replace U:=kpA J (by first|exact F|exact ne_i12_i8.symm) U;replace X:=kpA J (by first|exact ne_jt_i12|exact E.symm) X;replace I:HP O=some (iE (kQ 0 (W (W (nS l b+g.1)-D)) { dB l.sheet k b D with miles:=W ((dB l.sheet k b D).miles+g.2.1) } jt)):=upS J;simp only[go_sem];refine aA (fun _=>?_) (fun hb=>by simp at hb);simp only[go_sem,h4,];apply aA <;> intro hw
  ·rw[if_pos (by simpa using hw)];simp only[go_sem,h8];refine aI U (by simp) ?_;simp only[go_sem,h8];exact .refl _
  rw[if_neg (by simpa using hw)];simp only[go_sem,Z];refine dS so3 I ⟨by simp,rfl,by simp⟩ ?_;generalize J:aM _ O _=HP;replace U:=kpA J (by first|exact F|exact ne_i12_i8.symm) U;replace X:=kpA J (by first|exact ne_jt_i12|exact E.symm) X;replace I:HP O=some (iE (kQ 0 (W (W (nS l b+g.1)-D)) { dB l.sheet k b D with miles:=W ((dB l.sheet k b D).miles+g.2.1),end_:=g.1 } jt)):=upS J;simp only[go_sem,Z,];refine dS so3 I ⟨by simp,rfl,by simp⟩ ?_;generalize J:aM _ O _=HP;replace U:=kpA J (by first|exact F|exact ne_i12_i8.symm) U;replace X:=kpA J (by first|exact ne_jt_i12|exact E.symm) X;replace I:HP O=some (iE (kQ g.1 (W (W (nS l b+g.1)-D)) { dB l.sheet k b D with miles:=W ((dB l.sheet k b D).miles+g.2.1),end_:=g.1 } jt)):=upS J;simp only[go_sem,h4,Z,I,];apply aA <;> intro hd
  ·rw[if_pos (by simpa using hd)];simp only[go_sem,h8];refine aI U (by simp) ?_;simp only[go_sem,h8];exact .refl _
  ·rw[if_neg (by simpa using hd)];simp only[go_sem,h8,Z,I];refine aI U ⟨by simp,rfl,Xaf _⟩ ?_;simp only[go_sem,h8];have hm:=(oE l.sheet k b D).1;have:=fun H=>QV (H:=H) (j:=jt) (l:=⟨g.1,W (W (nS l b+g.1)-D),{ dB l.sheet k b D with miles:=W ((dB l.sheet k b D).miles+g.2.1),end_:=g.1 }⟩)
   simp only[hm]at this |-;exact .tup [.agg (kQ _ _ _ jt),int 0] _ (.cons _ _ _ _ (.agg _ _ (this _ ((aJ _ _ _ _ V.symm).trans X))) (ConvL.refl _))
end Sq
namespace Sq
open Go.Proofs.Tryz
open Mv (bO bR aO)
def B0(x:Instance)(t:VType)(st:List Stop):List Bool->Nat->Lab->Except Int Lab
 | [],_,l=>.ok l
 | b::bs,k,l=>match nC x t st k l b with
   | .error e=>.error e
   | .ok l'=>B0 x t st bs (k+1) l'
def Hw(e:Except Int Lab):Sheet:=match e with| .ok l=>l.sheet| .error _=>aX
def LH{x:Instance}{t:VType}{st:List Stop}{k:Nat}{l:Lab}{b:Bool}{e:Int}(h:nC x t st k l b=.error e):e≠0:=by
 unfold nC at h;split at h
 ·exact Lr h
 ·exact Ml h
def GR{x:Instance}{t:VType}{st:List Stop}{k:Nat}{l l':Lab}{b:Bool}(E:k<st.length)(F:l.sheet.times.length=k)(h:nC x t st k l b=.ok l'):l'.sheet.times.length=k+1:=by
 unfold nC at h;rw[List.getElem?_eq_getElem E]at h;simp only at h;unfold pP at h;split at h
 ·cases h
 ·split at h
  ·cases h
  ·split at h
   ·cases h
   ·injection h with h;subst h;simp[jH,(oE _ _ _ _).2.2,F]
def atY(x:Instance)(t:VType)(r:Route)(st:List Stop)(bs:List Bool)(hn:NetOk x.net)(ah:st.length<=1048575)(Z:bs.length<=st.length+1):
  PC prog 309 [.agg (dW x t r st),.sl (bs.map dI)] (.tup [.agg (bP (Hw (B0 x t st bs 0 (gI t r)))),int (F2 (B0 x t st bs 0 (gI t r)))]):=by
 refine pcd func309 rfl rfl ?_;simp only[go_sem];refine fO fun i4 ad ag (F:ad i4=some (dE (bP aX))) N=>?_
 simp only[go_sem];refine aG (S6 x t r st) ?_;simp only[go_sem];refine aL fun Y ac=>?_
 simp only[go_sem];refine cJ ac (by simp[mD]) fun HGi6 (J:HGi6 Y=some (iE (dU (gI t r)))) N=>?_
 replace F:=N F;obtain⟨E,F⟩:=F;simp only[go_sem];refine⟨fun ρ H=>∃(k:Nat) (l:Lab),k<=bs.length/\ρ 2=.rp (dW x t r st) 0/\ρ 4=.op i4 0 0/\ρ 6=.op Y 0 0/\ρ 13=.sl (bs.map dI)/\ρ 14=int bs.length/\ρ 15=int k/\H i4=some (dE (bP aX))/\H Y=some (iE (dU l))/\(k<=st.length->l.sheet.times.length=k)/\B0 x t st bs 0 (gI t r)=B0 x t st (bs.drop k) k l,fun ρ _=>bs.length-aR (ρ 15),
  ⟨0,gI t r,Xaa _,rfl,rfl,rfl,rfl,rfl,by simp only[go_sem];rfl,F,J,fun _=>rfl,rfl⟩,?_⟩
 rintro ρ H ⟨k,l,hk,h2,h4,h6,ab,aa,U,F,J,hl,V⟩;simp only[go_sem,aa,U];refine aA (fun I=>?_) (fun O=>?_)
 ·have I:=aT I;obtain⟨b,ae⟩:=aK I;have b1:=inB I;rw[Rb ae,B0]at V;simp only[go_sem,h2,h6,ab,U,aD ae,b1,dI,J];refine aG (aeW x t r st l k b hn (by omega) (by omega) (hl (by omega))) ?_;simp only[go_sem];refine aL fun i9 X=>?_
  simp only[go_sem];refine cJ X (by simp[mD]) fun HGi9 (R9:HGi9 i9=some (iE (dU (agV (nC x t st k l b))))) N=>?_
  replace F:=(N F).2;replace J:=(N J).2;simp only[go_sem];cases hs:nC x t st k l b with
  | error e=>rw[hs]at V;have af:=LH hs;refine aA (fun _=>?_) (fun Z=>by simp[F2]at Z;exact absurd Z af);simp only[go_sem,h4];refine aI F (by simp) ?_;simp only[go_sem,h4];rw[V];exact .refl _
  | ok l'=>rw[hs]at V R9;refine aA (fun Z=>by simp[F2]at Z) (fun _=>?_);simp only[go_sem,h6,R9];refine aI J (by simp[mD]) ?_;generalize hP:aM _ Y _=HP;replace F:=kpA hP (by first|exact E|exact ne_i6_i4.symm) F;replace J:HP Y=some (iE (dU l')):=upS hP;simp only[go_sem,h2,h4,h6,ab,aa,U,aQ k,J,F];exact⟨⟨k+1,l',I,rfl,rfl,fun ai=>GR (by omega) (hl (by omega)) hs,V⟩,msr I⟩
 ·have O:=aV hk O;subst O;rw[Xcl,B0]at V;simp only[go_sem,h4,h6,J];refine aI F (by simp[iQ]) ?_;simp only[go_sem,h4];rw[V];exact .refl _
def amX(l m:Lab):PC prog 346 [.agg (dU l),.agg (dU m)] (boo (vF l m)):=by refine pcd func346 rfl rfl ?_;simp only[go_sem];exact .refl _
def apQ(l m:Lab):PC prog 345 [.agg (dU l),.rp (dU m) 0] (boo (vF l m)):=by refine pcd func345 rfl rfl ?_;simp only[go_sem];refine aG (amX l m) ?_;simp only[go_sem];exact .refl _
def NS{g:Nat}{cap:List AV}{p:Lab->Bool}(l:List Lab)(hl:l.length<=4000000000000000000)(O:aE prog g=true)(hg:∀v∈l,PC prog g (.agg (dU v)::cap) (boo (p v))):
  PC prog 370 [.sl (l.map dU),.fn g cap] (int (pM p l 0)):=by
 refine pcd func370 rfl rfl ?_;simp only[go_sem];refine⟨fun ρ _=>∃k:Nat,k<=l.length/\ρ 0=.sl (l.map dU)/\ρ 1=.fn g cap/\ρ 7=int l.length/\ρ 8=int k/\∀u∈l.take k,p u=false,fun ρ _=>l.length-aR (ρ 8),⟨0,Xaa _,rfl,rfl,rfl,rfl,by simp⟩,?_⟩;rintro ρ H ⟨k,Y,h0,h1,V,U,J⟩;simp only[go_sem,V,U];refine aA (fun E=>?_) (fun F=>?_)
 ·have E:=aT E;obtain⟨u,I⟩:=aK E;have Z:=inB E;simp only[go_sem,h0,h1,U,aD I,Z,O];refine aG (hg u (Xac I)) ?_;simp only[go_sem];apply aA <;> intro X
  ·simp only[go_sem];exact bO (by rw[lW J I X];omega)
  ·simp only[go_sem,h0,h1,V,U,aQ k];exact⟨⟨k+1,E,rfl,aO (p:=fun u=>p u=false) I X J⟩,msr E⟩
 ·have F:=aV Y F;subst F;rw[Xad]at J;simp only[go_sem];exact bO (by rw[kS J])
def Hd{g:Nat}{cap:List AV}{p:Lab->Bool}(l:List Lab)(I:l.length<=4000000000000000000)(E:aE prog g=true)(F:∀v∈l,PC prog g (.agg (dU v)::cap) (boo (p v))):
  PC prog 344 [.sl (l.map dU),.fn g cap] (boo (l.any p)):=by
 refine pcd func344 rfl rfl ?_;simp only[go_sem];refine aG (NS l I E F) ?_;simp only[go_sem];exact bR (rK l 0 (Xbp _))
def qM(x:Instance)(t:VType)(st:List Stop)(k:Nat)(out:List Lab)(l:Lab)(bs:List Bool):List Lab:=(bs.map fun b=>nC x t st k l b).foldl wM out
def Ju(x:Instance)(t:VType)(r:Route)(st:List Stop)(ls:List Lab)(k:Nat):List Lab:=ls.foldl (fun out l=>qM x t st k out l (eU r.rests k)) []
def aiC(out:List Lab)(e:Except Int Lab):(wM out e).length<=out.length+1:=by
 unfold wM;split
 ·omega
 ·split
  ·omega
  ·simp
def GW(f:List Bool)(k:Nat):(eU f k).length<=2:=by unfold eU;split <;> simp
def FA(x:Instance)(t:VType)(st:List Stop)(k:Nat)(l:Lab):∀(bs:List Bool) (out:List Lab),(qM x t st k out l bs).length<=out.length+bs.length
 | [],out=>by simp[qM]
 | b::bs,out=>by have:=FA x t st k l bs (wM out (nC x t st k l b));have E:=aiC out (nC x t st k l b);simp only[qM,Xbf,List.foldl_cons,Xah]at this |-;omega
def F4(x:Instance)(t:VType)(r:Route)(st:List Stop)(k:Nat):∀(E:List Lab) (out:List Lab),(E.foldl (fun out l=>qM x t st k out l (eU r.rests k)) out).length<=out.length+2*E.length
 | [],out=>by simp
 | l::E,out=>by have:=F4 x t r st k E (qM x t st k out l (eU r.rests k));have F:=FA x t st k l (eU r.rests k) out;have I:=GW r.rests k;simp only[List.foldl_cons,Xah]at this |-;omega
abbrev X3(l:List Lab):Row:=⟨329,7,l.map dU⟩
def Ih:∀l:List Lab,dL 7 (l.map dU)
 | []=>trivial
 | _::r=>⟨rfl,Ih r⟩
def Ir:∀l:List Bool,dL 1 (l.map dI)
 | []=>trivial
 | _::r=>⟨rfl,Ir r⟩
def UT{x:Instance}{t:VType}{st:List Stop}{k m:Nat}{out:List Lab}{l:Lab}{bs:List Bool}{b:Bool}(h:bs[m]?=some b):qM x t st k out l (bs.take (m+1))=wM (qM x t st k out l (bs.take m)) (nC x t st k l b):=by unfold qM;rw[bA h,Xal,Xbn];rfl
def asW(x:Instance)(t:VType)(r:Route)(st:List Stop)(U:List Lab)(k:Nat)(hn:NetOk x.net)(av:st.length<=1048575)(hk:k<=st.length)(a4:U.length<=4194304)(hl:∀l∈U,l.sheet.times.length=k):
  PC prog 308 [.agg (dW x t r st),.sl (U.map dU),int k] (.sl ((Ju x t r st U k).map dU)):=by
 refine pcb (fun t=>t == 8) func308 rfl rfl ?_;simp only[go_sem];refine bK (fun af H'=>af 1=.sl (U.map dU)/\af 2=int k/\af 3=.rp (dW x t r st) 0/\af 7=.sl ((eU r.rests k).map dI)) ?_ fun K hK=>aA (fun J=>?_) (fun J=>?_)
 rotate_left
 ·have J:k<r.rests.length:=by simp at J;omega
  simp only[go_sem,aQ k];refine⟨⟨by omega,Ir _⟩,hK _ _ ⟨rfl,rfl,rfl,?_⟩⟩;simp only[go_sem];have:eU r.rests k=(r.rests.take (k+1)).drop k:=by obtain⟨c,hc⟩:=aK J;unfold eU;rw[if_pos J,bA hc,List.drop_append_of_le_length (by simp;omega),Xcf (by simp;omega)];simp[List.getD,hc]
  rw[this,List.map_drop,List.map_take]
 ·have J:¬k<r.rests.length:=by simp at J;omega
  simp only[go_sem];refine hK _ _ ⟨rfl,rfl,rfl,?_⟩;simp only[go_sem];unfold eU;rw[if_neg J];rfl
 rintro ρ H ⟨h1,h2,h3,h7⟩;simp only[go_sem];refine aL fun j0 a0=>?_
 simp only[go_sem,h1,];have aw:=GW r.rests k;generalize hC:eU r.rests k=cs at *;refine⟨fun ρ H=>∃(n:Nat) (j:Nat),n<=U.length/\ρ 2=int k/\ρ 3=.rp (dW x t r st) 0/\ρ 7=.sl (cs.map dI)/\ρ 29=.sl (U.map dU)/\ρ 30=int U.length/\ρ 31=int n/\ρ 8=.os j/\H j=some (X3 ((U.take n).foldl (fun out l=>qM x t st k out l cs) [])),fun ρ _=>U.length-aR (ρ 31),
  ⟨0,j0,Xaa _,h2,h3,h7,rfl,rfl,by simp only[go_sem];rfl,rfl,aB _ _ _⟩,?_⟩
 rintro ρ H ⟨n,j,ar,h2,h3,h7,Y,V,O,h8,R⟩;simp only[go_sem,V,O];refine aA (fun Z=>?_) (fun aj=>?_)
 ·have Z:=aT Z;obtain⟨l,ai⟩:=aK Z;have b1:=inB Z;have aq:=hl l (Xac ai);have ay:((U.take n).foldl (fun out l=>qM x t st k out l cs) []).length<=2*n:=by have:=F4 x t r st k (U.take n) [];rw[hC]at this;simp at this;omega
  have al:(U.take (n+1)).foldl (fun out l=>qM x t st k out l cs) []=qM x t st k ((U.take n).foldl (fun out l=>qM x t st k out l cs) []) l cs:=lH ai;generalize hO:(U.take n).foldl (fun out l=>qM x t st k out l cs) []=out0 at *;simp only[go_sem,Y,O,aD ai,b1];refine aL fun ab ak=>?_
  simp only[go_sem];refine cJ ak (by simp[mD]) fun am (I:am ab=some (iE (dU l))) N=>?_
  replace R:=N R;obtain⟨E,R⟩:=R;simp only[go_sem,h7,];refine⟨fun ρ H=>∃(m:Nat) (j:Nat),m<=cs.length/\ρ 2=int k/\ρ 3=.rp (dW x t r st) 0/\ρ 7=.sl (cs.map dI)/\ρ 10=.op ab 0 0/\ρ 29=.sl (U.map dU)/\ρ 30=int U.length/\ρ 31=int n/\ρ 35=.sl (cs.map dI)/\ρ 36=int cs.length/\ρ 37=int m/\ρ 8=.os j/\j≠ab/\H ab=some (iE (dU l))/\H j=some (X3 (qM x t st k out0 l (cs.take m))),fun ρ _=>cs.length-aR (ρ 37),
   ⟨0,j,Xaa _,h2,h3,h7,rfl,Y,V,O,rfl,rfl,by simp only[go_sem];rfl,h8,E,I,R⟩,?_⟩
  rintro ρ H ⟨m,j,hm,h2,h3,h7,ae,Y,V,O,ad,ag,ac,h8,E,I,R⟩;simp only[go_sem,ag,ac];refine aA (fun F=>?_) (fun aa=>?_)
  ·have F:=aT F;obtain⟨b,an⟩:=aK F;have b2:=inB F;have ax:=FA x t st k l (cs.take m) out0;have hf:=UT (x:=x) (t:=t) (st:=st) (k:=k) (out:=out0) (l:=l) an;have az:(cs.take m).length<=2:=by simp;omega
   simp only[go_sem,h2,h3,ae,ad,ac,aD an,b2,dI,I];refine aG (aeW x t r st l k b hn (by omega) hk aq) ?_;simp only[go_sem];refine aL fun au ah=>?_
   simp only[go_sem];refine cJ ah (by simp[mD]) fun HGi13 (R13:HGi13 au=some (iE (dU (agV (nC x t st k l b))))) N=>?_
   replace I:=(N I).2;replace R:=(N R).2;simp only[go_sem,h8,];generalize hF:qM x t st k out0 l (cs.take m)=out at *;cases hs:nC x t st k l b with
   | error e=>
    rw[hs]at hf R13;have ao:(e == 0)=false:=by simpa using LH hs
    refine⟨boo false,fun hg=>by simp[F2,ao]at hg,?_⟩;simp only[go_sem,F2,ao];refine aA (fun J=>by simp at J) (fun _=>?_);simp only[go_sem,h2,h3,h7,ae,Y,V,O,ad,ag,ac,h8,aQ m];exact⟨⟨m+1,j,F,rfl,rfl,E,I,by rw[hf];exact R⟩,by simp only[aN];omega⟩
   | ok l'=>
    rw[hs]at hf R13;refine⟨_,fun _=>.inl ⟨[.sl (out.map dU),.fn 345 [.rp (dU l') 0]],.cons _ _ _ _ (.row _ _ _ R (ConvE.refl _)) (.cons _ _ _ _ (.fn _ _ _ (.cons _ _ _ _ (.ptr _ _ _ _ _ R13 (by simp) (ConvL.refl _)) .nil)) .nil),Hd out (by omega) rfl fun v _=>apQ v l',rfl⟩,?_⟩;simp only[go_sem,F2,];apply aA <;> intro J
    ·have J:(out.any fun v=>vF v l')=false:=by simpa using J
     simp only[go_sem,h8,R13];refine aZ R ⟨rfl,rfl⟩ ⟨rfl,trivial⟩ (by simp;omega) (fun j' ap=>?_);have X:ab≠j':=bE I ap;simp only[go_sem,h2,h3,h7,ae,Y,V,O,ad,ag,ac,aQ m];refine⟨⟨m+1,j',F,rfl,rfl,X.symm,dK I E ap,?_⟩,by simp only[aN];omega⟩;have e1:wM out (.ok l')=out++[l']:=by show(if(out.any fun v=>vF v l')=true then out else out++[l'])=_;rw[if_neg (by rw[J];simp)]
     rw[hf,e1];exact kV (l':=[l']) rfl
    ·have J:(out.any fun v=>vF v l')=true:=by simpa using J
     simp only[go_sem,h2,h3,h7,ae,Y,V,O,ad,ag,ac,h8,aQ m];refine⟨⟨m+1,j,F,rfl,rfl,E,I,?_⟩,by simp only[aN];omega⟩;have e1:wM out (.ok l')=out:=by show(if(out.any fun v=>vF v l')=true then out else out++[l'])=_;rw[if_pos J]
     rw[hf,e1];exact R
  ·have aa:=aV hm aa;subst aa;rw[Xad]at R;simp only[go_sem,h2,h3,h7,Y,V,O,h8,aQ n];exact⟨⟨n+1,j,Z,rfl,rfl,by rw[al];exact R⟩,msr Z⟩
 ·have aj:=aV ar aj;subst aj;rw[Xad]at R;simp only[go_sem,h8];unfold Ju;rw[hC];exact .row _ _ _ R (ConvE.refl _)
def dpP(x:Instance)(t:VType)(r:Route)(st:List Stop):Nat->List Lab
 | 0=>[gI t r]
 | k+1=>Ju x t r st (dpP x t r st k) k
def nG(b m:Lab):Lab:=if decide (m.sheet.end_<b.sheet.end_)=true then m else b
def D9(x:Instance)(t:VType)(r:Route):Sheet×Int:=match dpP x t r (fS x r.visits) (r.visits.length+1)with
 | []=>(Hw (B0 x t (fS x r.visits) (cY r) 0 (gI t r)),F2 (B0 x t (fS x r.visits) (cY r) 0 (gI t r)))
 | l0::ls=>((ls.foldl nG l0).sheet,0)
def kO(x:Instance)(r:Route):Sheet×Int:=
 if(!bW x r||decide ((r.rests.length:Int)>(r.visits.length:Int)+1))=true then(aX,2)else match x.types[r.type.toNat]? with
 | some t=>D9 x t r
 | none=>(aX,2)
def acR{out:List Lab}{e:Except Int Lab}{m:Lab}(h:m∈wM out e):m∈out\/e=.ok m:=by
 unfold wM at h;split at h
 ·exact .inl h
 ·rename_i l;split at h
  ·exact .inl h
  ·rcases Xba.1 h with h|h
   ·exact .inl h
   ·simp at h;exact .inr (by rw[h])
def MJ{x:Instance}{t:VType}{st:List Stop}{k:Nat}{l m:Lab}:∀(bs:List Bool) (out:List Lab),m∈qM x t st k out l bs->m∈out\/∃b,nC x t st k l b=.ok m
 | [],out,h=>.inl h
 | b::bs,out,h=>by
  rcases MJ bs (wM out (nC x t st k l b)) h with h|h
  ·rcases acR h with h|h
   ·exact .inl h
   ·exact .inr ⟨b,h⟩
  ·exact .inr h
def Lk{x:Instance}{t:VType}{r:Route}{st:List Stop}{k:Nat}{m:Lab}:∀(E:List Lab) (out:List Lab),m∈E.foldl (fun out l=>qM x t st k out l (eU r.rests k)) out->m∈out\/∃l∈E,∃b,nC x t st k l b=.ok m
 | [],out,h=>.inl h
 | l::E,out,h=>by
  rcases Lk E _ h with h|⟨l',F,b,I⟩
  ·rcases MJ _ _ h with h|⟨b,I⟩
   ·exact .inl h
   ·exact .inr ⟨l,by simp,b,I⟩
  ·exact .inr ⟨l',by simp[F],b,I⟩
def L7{x:Instance}{t:VType}{r:Route}{st:List Stop}:∀(k:Nat),k<=st.length->∀l∈dpP x t r st k,l.sheet.times.length=k
 | 0,_,l,h=>by simp[dpP]at h;subst h;rfl
 | k+1,hk,l,h=>by
  rcases Lk _ _ h with h|⟨l',E,b,F⟩
  ·simp at h
  ·exact GR (by omega) (L7 k (by omega) l' E) F
def W9(x:Instance)(t:VType)(r:Route)(st:List Stop):∀k:Nat,(dpP x t r st k).length<=2^k
 | 0=>by simp[dpP]
 | k+1=>by have h1:=F4 x t r st k (dpP x t r st k) [];have E:=W9 x t r st k;rw[Xbk];simp only[dpP,Ju]at h1 |-;simp at h1;omega
def U2(x:Instance)(r:Route):∃I t' r' E,CZ x r=(dW I t' r' E,bW x r)/\(bW x r=true->I=x/\r'=r/\E=fS x r.visits/\x.types[r.type.toNat]?=some t'):=by
 unfold CZ;cases J:bW x r with
 | false=>exact⟨_,_,_,_,by rw[if_neg (by simp)],fun h=>by simp at h⟩
 | true=>have:=sX J;obtain⟨t,F⟩:=aK (show r.type.toNat<x.types.length by omega);exact⟨x,t,r,fS x r.visits,by rw[if_pos rfl,F],fun _=>⟨rfl,rfl,rfl,F⟩⟩
def atI(x:Instance)(r:Route)(hn:NetOk x.net)(hr:r.visits.length<=1048576):PC prog 261 [.agg (aC x),.agg (bT r)] (.tup [.agg (bP (kO x r).1),int (kO x r).2]):=by
 have w:IntKind.i64.wrap ((r.visits.length:Int)+1)=(r.visits.length:Int)+1:=aW (by omega);refine pcb (fun t=>t == 57) func261 rfl rfl ?_;simp only[go_sem];refine fO fun i4 aq a5 (E:aq i4=some (dE (bP aX))) N=>?_
 simp only[go_sem];refine aG (aqU x r hr) ?_;simp only[go_sem];obtain⟨x',t',r',ax,av,az⟩:=U2 x r;rw[av];refine aL fun i6 ap=>?_
 simp only[go_sem];refine cJ ap (by simp[GD]) fun ar (V:ar i6=some (AS (dW x' t' r' ax))) N=>?_
 replace E:=(N E).2;simp only[go_sem,w,];apply aA <;> intro h1
 ·simp only[go_sem];refine aI E (by simp) ?_;simp only[go_sem];have e:kO x r=(aX,2):=by unfold kO;rw[if_pos h1]
  rw[e];exact .refl _
 have hp:bW x r=true:=by rw[Xag]at h1;simpa using h1.1
 have al:r.rests.length<=r.visits.length+1:=by rw[Xag]at h1;have:=h1.2;simp at this;omega
 have a7:=sX hp;obtain⟨t,ht⟩:=aK (show r.type.toNat<x.types.length by omega);have a6:r.visits.length<=20:=by unfold bW at hp;simp only[Xai,Xay,Xag,decide_eq_false_iff_not]at hp;omega
 have eB:kO x r=D9 x t r:=by unfold kO;rw[if_neg (by rw[h1];simp),ht]
 obtain⟨ex,er,es,Z⟩:=az hp;rw[ex,er,es]at V;rw[ht]at Z;injection Z with Z;rw[<-Z]at V;rw[eB];have au:(fS x r.visits).length=r.visits.length:=by simp[fS]
 have ak:=W9 x t r (fS x r.visits);have aw:=L7 (x:=x) (t:=t) (r:=r) (st:=fS x r.visits);unfold D9;generalize hS:fS x r.visits=st at *;simp only[go_sem,V];refine aG (S6 x t r st) ?_;simp only[go_sem];refine⟨fun ρ H=>∃k:Nat,k<=r.visits.length+1/\ρ 3=.rp (bT r) 0/\ρ 4=.op i4 0 0/\ρ 6=.op i6 0 0/\ρ 8=int ((r.visits.length:Int)+1)/\ρ 38=int ((r.visits.length:Int)+1)/\ρ 39=int k/\ρ 9=.sl ((dpP x t r st k).map dU)/\H i4=some (dE (bP aX))/\H i6=some (AS (dW x t r st)),fun ρ _=>r.visits.length+1-aR (ρ 39),
  ⟨0,Xaa _,rfl,rfl,rfl,rfl,rfl,by simp only[go_sem];rfl,by simp only[go_sem];rfl,E,V⟩,?_⟩
 rintro ρ H ⟨k,hk,h3,h4,h6,h8,ao,ad,h9,E,V⟩;simp only[go_sem,ao,ad];refine aA (fun I=>?_) (fun J=>?_)
 ·have I:k<=r.visits.length:=by simp at I;omega
  simp only[go_sem,h6,ad,h9,V];have a8:2^k<=2^20:=Xau (by decide) (by omega);have:=ak k;refine aG (asW x t r st (dpP x t r st k) k hn (by omega) (by omega) (by omega) (aw k (by omega))) ?_;simp only[go_sem,h3,h4,h6,h8,ao,ad,aQ k];exact⟨⟨k+1,by omega,rfl,rfl,E,V⟩,by simp only[aN];omega⟩
 have J:k=r.visits.length+1:=by simp at J;omega
 subst J;simp only[go_sem,h9];cases hd:dpP x t r st (r.visits.length+1)with
 | nil=>
  rw[hd]at h9;refine aA (fun _=>?_) (fun hb=>by simp at hb);simp only[go_sem,h8];refine⟨⟨by omega,by omega⟩,aL fun j hj=>?_⟩;simp only[go_sem,h3,];have a0:(((r.visits.length:Int)+1)).toNat=r.visits.length+1:=by omega
  refine Ye arU (aB _ _ _) (.inl ⟨rfl,rfl,rfl⟩) (.inl rfl) rfl (Ir _) ?_;have U:=bE E hj;have an:=bE V hj;generalize hG:aM (aM H j _) j _=H1;have Rj:H1 j=some (CA (cY r)):=by rw[<-hG,aB,a0];exact congrArg (fun es=>some (⟨4,1,es⟩:Row)) (I6 al)
  replace E:=(congrFun hG.symm i4).trans (rR E hj);replace V:=(congrFun hG.symm i6).trans (rR V hj);simp only[go_sem,h6,V];refine Cf rfl Rj fun Hr a9 hr=>?_
  replace E:=(hr i4 U).trans E;simp only[go_sem];refine aG (atY x t r st (cY r) hn (by omega) (by rw[oC al,au];exact Xaf _)) ?_;simp only[go_sem,h4,];refine aI E (by simp[iQ]) ?_;simp only[go_sem,h4];exact .refl _
 | cons l0 ls=>
  rw[hd]at h9;have a4:=Ih (l0::ls);have am:(l0::ls).length<=2^21:=by have:=ak (r.visits.length+1);rw[hd]at this;exact Xam this (Xau (by decide) (by omega))
  refine aA (fun hb=>by simp at hb;omega) (fun _=>?_);have b1:(0:Int)<=0/\(0:Int)<((l0::ls).length:Int):=⟨Xbp _,by simp⟩;simp only[go_sem,h9,b1];refine⟨by omega,?_⟩;refine aL fun X ah=>?_
  simp only[go_sem];refine cJ ah (by simp[mD]) fun ab (F:ab X=some (iE (dU l0))) N=>?_
  replace E:=N E;obtain⟨O,E⟩:=E;simp only[go_sem,h9,];refine⟨⟨by omega,Ih ls⟩,?_⟩;refine⟨fun ρ H=>∃(m:Nat),m<=ls.length/\ρ 4=.op i4 0 0/\ρ 12=.op X 0 0/\ρ 65=.sl (ls.map dU)/\ρ 66=int ls.length/\ρ 67=int m/\H i4=some (dE (bP aX))/\H X=some (iE (dU ((ls.take m).foldl nG l0))),fun ρ _=>ls.length-aR (ρ 67),
   ⟨0,Xaa _,h4,rfl,rfl,rfl,by simp only[go_sem];rfl,E,F⟩,?_⟩
  rintro ρ H ⟨m,hm,h4,Y,ae,af,aa,E,F⟩;simp only[go_sem,af,aa];refine aA (fun I=>?_) (fun J=>?_)
  ·have I:=aT I;obtain⟨l,ai⟩:=aK I;have b2:=inB I;have hf:(ls.take (m+1)).foldl nG l0=nG ((ls.take m).foldl nG l0) l:=lH ai;generalize (ls.take m).foldl nG l0=bl at *;simp only[go_sem,ae,aa,aD ai,b2];refine aL fun ay ag=>?_
   simp only[go_sem];refine cJ ag (by simp[mD]) fun ac (aj:ac ay=some (iE (dU l))) N=>?_
   replace E:=(N E).2;replace F:=(N F).2;simp only[go_sem,Y,aj,F];apply aA <;> intro hb
   ·simp only[go_sem,Y,aj];refine aI F (by simp[mD]) ?_;generalize hP:aM _ X _=HP;replace E:=kpA hP (by first|exact O|exact ne_i12_i4.symm) E;replace F:HP X=some (iE (dU l)):=upS hP;simp only[go_sem,h4,Y,ae,af,aa,mS (show m<=4611686018427387904 by simp at am;omega),F,E];exact⟨⟨m+1,I,rfl,by rw[hf];unfold nG;rw[if_pos hb]⟩,msr I⟩
   ·simp only[go_sem,h4,Y,ae,af,aa,mS (show m<=4611686018427387904 by simp at am;omega)];exact⟨⟨m+1,I,rfl,E,by rw[hf];unfold nG;rw[if_neg (by rw[hb];simp)];exact F⟩,msr I⟩
  ·have J:=aV hm J;subst J;rw[Xad]at F;simp only[go_sem,h4,Y,F];refine aI E (by simp[iQ]) ?_;simp only[go_sem,h4];exact .refl _
def pF(p:Int×Int):List AV:=[int p.1,int p.2]
def zD(m:List (Int×Int))(o:Int):Option Nat:=m.findIdx? fun p=>p.1 == o
def zT(m:List (Int×Int))(o:Int):Int:=((m.find? fun p=>p.1 == o).map (·.2)).getD 0
def G4(m:List (Int×Int))(o v:Int):List (Int×Int):=match zD m o with
 | some i=>m.set i (o,v)
 | none=>m++[(o,v)]
abbrev BC(m:List (Int×Int)):Row:=⟨0,2,m.map pF⟩
def zA(o:Int):∀(m:List (Int×Int)) (i:Nat),wX (tL prog 3 (int o)) (m.map pF) i=some ((zD m o).map (·+i))
 | [],i=>rfl
 | p::m,i=>by
  have ih:=zA o m (i+1);have E:tL prog 3 (int o) ((pF p).getD 0 .any)=some (o == p.1):=by show tL prog 3 (int o) (int p.1)=_;unfold tL;simp only[kk3];simp[xY]
  rw[Xbf,wX,E];unfold zD at *;rw[List.findIdx?_cons];by_cases h:o=p.1
  ·subst h;simp
  ·have h1:(o == p.1)=false:=by simpa using h
   have F:(p.1 == o)=false:=by simpa using fun e=>h e.symm
   rw[h1,F];simp only[Xaz,if_false];rw[ih];cases m.findIdx? (fun p=>p.1 == o)with
   | none=>rfl
   | some j=>simp;omega
def pV(o:Int)(m:List (Int×Int)):wX (tL prog 3 (int o)) (m.map pF) 0=some (zD m o):=by rw[zA];cases zD m o <;> rfl
def sW(o:Int):pE prog 3 (int o)=true:=by simp only[pE,kk3];rfl
def Es(m:List (Int×Int))(o:Int):OZ false (int 0) (m.map pF) (zD m o)=int (zT m o):=by
 unfold OZ zT zD;induction m with
 | nil=>rfl
 | cons p m ih=>
  rw[List.findIdx?_cons,List.find?_cons];cases h:p.1 == o with
  | true=>simp[pF]
  | false=>
   cases hi:m.findIdx? (fun p=>p.1 == o)with
   | none=>rw[hi]at ih;simpa using ih
   | some j=>rw[hi]at ih;simp at ih |-;exact ih
def D1(m:List (Int×Int))(o v:Int):ZU (m.map pF) (zD m o) (int o) (int v)=(G4 m o v).map pF:=by
 unfold ZU G4;cases zD m o with
 | none=>simp[pF]
 | some i=>simp[List.map_set,pF]
def QF(m:List (Int×Int))(o v q:Int):zT (G4 m o v) q=if q=o then v else zT m q:=by
 unfold zT G4 zD;induction m with
 | nil=>
  by_cases h:q=o
  ·subst h;simp
  ·have F:(o == q)=false:=by simpa using fun e=>h e.symm
   simp[h,F]
 | cons p m ih=>
  rw[List.findIdx?_cons];cases J:p.1 == o with
  | true=>
   have E:p.1=o:=by simpa using J
   simp only[if_true,List.set_cons_zero,List.find?_cons];by_cases h:q=o
   ·subst h;simp
   ·have F:(o == q)=false:=by simpa using fun e=>h e.symm
    have O:(p.1 == q)=false:=by rw[E];exact F
    simp[h,F,O]
  | false=>
   have E:p.1≠o:=by simpa using J
   cases hi:m.findIdx? (fun p=>p.1 == o)with
   | none=>
    rw[hi]at ih;simp only[Xaz,if_false,Option.map_none,List.cons_append,List.find?_cons];cases I:p.1 == q with
    | true=>
     have:q≠o:=fun e=>E ((by simpa using I:p.1=q).trans e)
     simp[this]
    | false=>simpa using ih
   | some j=>
    rw[hi]at ih;simp only[Xaz,if_false,Option.map_some,List.set_cons_succ,List.find?_cons];cases I:p.1 == q with
    | true=>
     have:q≠o:=fun e=>E ((by simpa using I:p.1=q).trans e)
     simp[this]
    | false=>simpa using ih
def LV(a b:Int):PC prog 310 [int a,int b] (boo (a != -1&&a != b)):=by refine pcd func310 rfl rfl ?_;simp only[go_sem];exact .refl _
def QO(l:List Visit)(o:Int):Nat:=l.countP fun v=>v.order == o
def Zf{l:List Visit}{k:Nat}{v:Visit}(h:l[k]?=some v)(o:Int):QO (l.take (k+1)) o=QO (l.take k) o+if v.order=o then 1 else 0:=by
 unfold QO;rw[bA h,List.countP_append];by_cases e:v.order=o
 ·simp[e]
 ·have:(v.order == o)=false:=by simpa using e
  simp[e]
def apF(l:List Visit)(k:Nat)(o:Int):QO (l.take k) o<=l.length:=Xam List.countP_le_length (by rw[Xas];omega)
def UX{l:List Visit}{k:Nat}{v:Visit}(h:l[k]?=some v):nU l k=decide (QO (l.take k) v.order=0):=by
 have O:=(List.getElem?_eq_some_iff.1 h).1;rw[Xap];simp only[decide_eq_true_eq];unfold nU QO;rw[List.countP_eq_zero,Xaj];constructor
 ·intro F u J;obtain⟨i,hi,rfl⟩:=List.getElem_of_mem J;have E:i<k:=by simp at hi;omega
  have:=F i (Xar.2 E);rw[gO h,gO (List.getElem?_eq_getElem (show i<l.length by omega))]at this;simpa using this
 ·intro F i hi;have E:=Xar.1 hi;have I:i<l.length:=by omega
  rw[gO h,gO (List.getElem?_eq_getElem I)];have:=F l[i] (List.mem_take_iff_getElem.2 ⟨i,by omega,rfl⟩);simpa using this
def akZ(x:Instance)(r:Route)(s:Sheet)(hr:r.visits.length<=1048576):PC prog 262 [.agg (aC x),.agg (bT r),.agg (bP s)] (.agg (cH (mJ x r s))):=by
 refine pcd func262 rfl rfl ?_;simp only[go_sem];refine fO fun i6 ax ba (I:ax i6=some (oB cQ)) N=>?_
 simp only[go_sem];apply aA <;> intro h1
 . have h1:cK r.type x.types.length=true:=h1;simp only[go_sem];refine aI I (by simp) ?_;simp only[go_sem];have e:mJ x r s=cQ:=by unfold mJ;rw[if_pos h1]
   rw[e];exact .refl _
 have h1:cK r.type x.types.length=false:=h1;have az:0<=r.type/\r.type<(x.types.length:Int):=by simp only[cK,Xag,decide_eq_false_iff_not]at h1;omega
 obtain⟨t,ht⟩:=aK (show r.type.toNat<x.types.length by omega);have e:mJ x r s=T1 x r s t:=by unfold mJ;rw[if_neg (by rw[h1];simp),ht]
 rw[e];simp only[go_sem,aD ht,az];refine aL fun i7 av=>?_
 simp only[go_sem];refine cJ av (by simp[iP]) fun ay (R7:ay i7=some (lB t)) N=>?_
 replace I:=(N I).2;simp only[go_sem,R7];refine⟨by decide,?_⟩;refine aL fun X ao=>?_
 simp only[go_sem];refine cJ ao (by simp) fun ah (E:ah X=some (oB (vS t s))) N=>?_
 replace I:=N I;obtain⟨O,I⟩:=I;simp only[go_sem];refine aL fun jm aw=>?_
 have Y:=bE I aw;have F:=bE E aw;generalize hG:aM ah jm _=HM;have V:HM jm=some (BC []):=by rw[<-hG,aB];rfl
 replace I:=(congrFun hG.symm i6).trans ((aJ _ _ _ _ Y).trans I);replace E:=(congrFun hG.symm X).trans ((aJ _ _ _ _ F).trans E);simp only[go_sem];refine ⟨fun ρ H => ∃ (k : Nat) (m : List (Int × Int)), k <= r.visits.length /\ ρ 3 = .rp (aC x) 0 /\ ρ 4 = .rp (bT r) 0 /\ ρ 6 = .op i6 0 0 /\ ρ 10 = .op X 0 0 /\ ρ 11 = .om jm /\ ρ 59 = .sl (r.visits.map aF) /\ ρ 60 = int r.visits.length /\ ρ 61 = int k /\ H i6 = some (oB cQ) /\
     H X=some (oB (((List.range r.visits.length).take k).foldl (fZ x r) (vS t s)))/\H jm=some (BC m)/\∀o,zT m o=(QO (r.visits.take k) o:Nat),fun ρ _=>r.visits.length-aR (ρ 61),
   ⟨0,[],Xaa _,rfl,rfl,rfl,rfl,rfl,rfl,rfl,by simp only[go_sem];rfl,I,E,V,fun o=>rfl⟩,?_⟩
 rintro ρ H ⟨k,m,hk,h3,h4,h6,aa,ac,ae,af,ad,I,E,V,hm⟩;simp only[go_sem,af,ad];refine aA (fun U=>?_) (fun am=>?_)
 . have U:=aT U;obtain⟨v,hv⟩:=aK U;have b1:=inB U;have hs:((List.range r.visits.length).take (k+1)).foldl (fZ x r) (vS t s)=fZ x r (((List.range r.visits.length).take k).foldl (fZ x r) (vS t s)) k:=by rw[bA (iA U),Xbn];rfl
   generalize hA:((List.range r.visits.length).take k).foldl (fZ x r) (vS t s)=A at E hs;have ev:dO r.visits k=v.order:=gO hv;have a7:=UX hv;have bb:=apF r.visits k v.order;have a8:=Zf hv;have a6:=hm v.order;have wm:IntKind.i64.wrap (zT m v.order+1)=zT m v.order+1:=aW (by omega);simp only[go_sem,ae,ad,aD hv,b1];refine aL fun a9 al=>?_
   simp only[go_sem];refine cJ al (by simp[dJ]) fun au (ai:au a9=some (⟨112,2,[aF v]⟩)) N=>?_
   replace I:=(N I).2;replace E:=(N E).2;replace V:=N V;obtain⟨ag,V⟩:=V;simp only[go_sem,ac,ai,];refine Ff V IU (sW _) (pV _ _) zv3 ?_;rw[Es];simp only[go_sem,wm];refine NF V IU (sW _) (pV _ _) ?_;rw[D1];generalize hP:aM _ jm _=HP;replace I:=kpA hP (by first|exact Y|exact ne_jm_i6.symm) I;replace E:=kpA hP (by first|exact F|exact ne_jm_i10.symm) E;replace ai:=kpA hP (by first|exact ne_i13_jm|exact ag.symm) ai;replace V:HP jm=some (BC (G4 m v.order (zT m v.order+1))):=by rw[<-hP,aB];skip
   simp only[go_sem,h3,ac,ai];have aq:∀o,zT (G4 m v.order (zT m v.order+1)) o=(QO (r.visits.take (k+1)) o:Nat):=fun o=>by
     rw[QF,a8 o,hm o,hm v.order];by_cases e:o=v.order
     . subst e;simp
     . rw[if_neg e,if_neg (fun h=>e h.symm)];rfl
   refine Ff V IU (sW _) (pV _ _) zv3 ?_;rw[Es,QF,if_pos rfl];have ak:(cK v.order x.orders.length||decide (zT m v.order+1>1))=(cK v.order x.orders.length|| !nU r.visits k):=by
     rw[a7,a6]
     congr 1
     rw[Xap];simp;omega
   simp only[go_sem];apply aA <;> intro hb
   . have aj:(cK v.order x.orders.length|| !nU r.visits k)=true:=ak▸hb;have e:fZ x r A k=A:=by unfold fZ;rw[ev,if_pos aj]
     simp only[go_sem,h3,h4,h6,aa,ac,ae,af,ad,aQ k];exact⟨⟨k+1,_,U,rfl,I,by rw[hs,e];exact E,V,aq⟩,msr U⟩
   have aj:(cK v.order x.orders.length|| !nU r.visits k)=false:=ak▸hb;have a4:cK v.order x.orders.length=false:=(Xag.1 aj).1;have a5:0<=v.order/\v.order<(x.orders.length:Int):=by simp only[cK,Xag,decide_eq_false_iff_not]at a4;omega
   obtain⟨o,ho⟩:=aK (show v.order.toNat<x.orders.length by omega);have e:fZ x r A k=AP o r.type (A3 o r.type A):=by unfold fZ;rw[ev,if_neg (by rw[aj];simp),ho]
   rw[e]at hs;simp only[go_sem,h3,ai,aD ho,a5];refine aL fun ar ap=>?_
   simp only[go_sem];refine cJ ap (by simp[uT]) fun an (Z:an ar=some (nW o)) N=>?_
   replace I:=(N I).2;replace E:=N E;obtain⟨J,E⟩:=E;replace V:=(N V).2;simp only[go_sem,h4,Z,];refine aG (LV o.now r.type) ?_;simp only[go_sem];refine bK (fun ab H'=>ab 3=.rp (aC x) 0/\ab 4=.rp (bT r) 0/\ab 6=.op i6 0 0/\ab 10=.op X 0 0/\ab 11=.om jm/\ab 14=.op ar 0 0/\ab 59=.sl (r.visits.map aF)/\ab 60=int r.visits.length/\ab 61=int k/\H' i6=some (oB cQ)/\H' ar=some (nW o)/\H' jm=some (BC (G4 m v.order (zT m v.order+1)))/\H' X=some (oB (A3 o r.type A))) ?_ fun K hK=>aA (fun hb=>?_) (fun hb=>?_)
   rotate_left
   . simp only[go_sem,aa,E];refine dS so3 E ⟨by simp,rfl,by simp⟩ ?_;generalize hP:aM _ X _=HP;replace I:=kpA hP (by first|exact O|exact ne_i10_i6.symm) I;replace Z:=kpA hP (by first|exact ne_i14_i10|exact J.symm) Z;replace V:=kpA hP (by first|exact ne_jm_i10|exact F.symm) V;replace E:HP X=some (oB (A3 o r.type A)):=by rw[<-hP,aB];(rw[A3,if_pos (show Jh o r.type=true from hb)];rfl)
     simp only[go_sem];exact hK _ _ ⟨h3,h4,h6,aa,ac,rfl,ae,af,ad,I,Z,V,E⟩
   . simp only[go_sem];refine hK _ _ ⟨h3,h4,h6,aa,ac,rfl,ae,af,ad,I,Z,V,?_⟩;rw[A3,if_neg (by rw[show Jh o r.type=false from hb];simp)];exact E
   rintro ρ H ⟨h3,h4,h6,aa,ac,a0,ae,af,ad,I,Z,V,E⟩;simp only[go_sem,h4,a0,Z];refine aG (LV o.last r.type) ?_;simp only[go_sem];apply aA <;> intro hb
   . simp only[go_sem,aa,E];refine dS so3 E ⟨by simp,rfl,by simp⟩ ?_;generalize hP:aM _ X _=HP;replace I:=kpA hP (by first|exact O|exact ne_i10_i6.symm) I;replace Z:=kpA hP (by first|exact ne_i14_i10|exact J.symm) Z;replace V:=kpA hP (by first|exact ne_jm_i10|exact F.symm) V;replace E:HP X=some (oB (AP o r.type (A3 o r.type A))):=by rw[<-hP,aB];(rw[AP,if_pos (show Ji o r.type=true from hb)];rfl)
     simp only[go_sem,h3,h4,h6,aa,ac,ae,af,ad,aQ k,E,I,V];exact⟨⟨k+1,G4 m v.order (zT m v.order+1),U,rfl,by rw[hs],rfl,aq⟩,msr U⟩
   . simp only[go_sem,h3,h4,h6,aa,ac,ae,af,ad,aQ k];exact⟨⟨k+1,_,U,rfl,I,by rw[hs,AP,if_neg (by rw[show Ji o r.type=false from hb];simp)];exact E,V,aq⟩,msr U⟩
 . have am:=aV hk am;subst am;rw[Xan (by simp)]at E;simp only[go_sem,h6,aa,E];refine aI I (by simp[kU]) ?_;simp only[go_sem,h6];exact .refl _
def Dx(x:Instance)(r:Route)(v:Visit):Bool:=match x.types[r.type.toNat]?,x.orders[v.order.toNat]? with
 | some t,some o=>xG t.skills o.skills
 | _,_=>false
def C8(x:Instance)(r:Route):Int:=if(r.visits.any fun v=> !Dx x r v)=true then 18 else 0
def alV(x:Instance)(r:Route)(hr:r.visits.length<=1048576)(V:0<=r.type/\r.type<(x.types.length:Int))(X:∀v∈r.visits,0<=v.order/\v.order<(x.orders.length:Int)):
  PC prog 259 [.agg (aC x),.agg (bT r)] (int (C8 x r)):=by
 obtain⟨t,ht⟩:=aK (show r.type.toNat<x.types.length by omega);refine pcd func259 rfl rfl ?_;simp only[go_sem];refine⟨fun ρ _=>∃k:Nat,k<=r.visits.length/\ρ 2=.rp (aC x) 0/\ρ 3=.rp (bT r) 0/\ρ 8=.sl (r.visits.map aF)/\ρ 9=int r.visits.length/\ρ 10=int k/\∀v∈r.visits.take k,(!Dx x r v)=false,fun ρ _=>r.visits.length-aR (ρ 10),⟨0,Xaa _,rfl,rfl,rfl,rfl,rfl,by simp⟩,?_⟩;rintro ρ H ⟨k,hk,h2,h3,h8,h9,I,hz⟩;simp only[go_sem,h9,I];refine aA (fun E=>?_) (fun F=>?_)
 ·have E:=aT E;obtain⟨v,U⟩:=aK E;have b1:=inB E;have Z:=X v (Xac U);obtain⟨o,ho⟩:=aK (show v.order.toNat<x.orders.length by omega);have es:Dx x r v=xG t.skills o.skills:=by unfold Dx;rw[ht,ho]
  simp only[go_sem,h8,I,aD U,b1];refine aL fun Y J=>?_
  simp only[go_sem];refine cJ J (by simp[dJ]) fun O (R6:O Y=some (⟨112,2,[aF v]⟩)) N=>?_
  simp only[go_sem];refine gU [Y] [(0,true),(1,true),(2,true),(3,true),(4,true),(5,true),(6,true),(7,true),(8,true),(9,true),(10,true),(11,true),(12,true),(13,true),(14,true)] (by simp[R6]) (by kernel_rfl) fun Hp Hr hp aa _ ab=>?_
  have P6:=(hp Y (by simp)).trans R6;simp only[go_sem,h2,h3,P6,aD ht,V,aD ho,Z];refine⟨_,(arT t o.skills).q rfl,?_⟩;simp only[go_sem];refine jK fun _ Hm _ _=>?_
  simp only[go_sem];apply aA <;> intro hb
  ·simp only[go_sem];exact bO (by unfold C8;rw[if_pos (Xao.2 ⟨v,Xac U,by rw[es];exact hb⟩)])
  ·simp only[go_sem,h2,h3,h8,h9,I,aQ k];exact⟨⟨k+1,E,rfl,aO (p:=fun v=>(!Dx x r v)=false) U (by rw[es];exact hb) hz⟩,msr E⟩
 ·have F:=aV hk F;subst F;rw[Xad]at hz;simp only[go_sem];exact bO (by unfold C8;rw[if_neg (by rw[qA hz];simp)])
def kM(x:Instance)(r:Route):Sheet×Score×Int:=
 if cK r.type x.types.length=true then(aX,cQ,2)
 else if(rO x r.visits != 0)=true then(aX,cQ,rO x r.visits)
 else if(C8 x r != 0)=true then(aX,cQ,C8 x r)
 else if(zQ x r != 0)=true then(aX,cQ,zQ x r)
 else if((kO x r).2 != 0)=true then(aX,cQ,(kO x r).2)
 else((kO x r).1,mJ x r (kO x r).1,0)
structure EvalB(x:Instance):Prop where
 net:NetOk x.net
 load:LoadB x
 apart:x.apart.length<=1048576
 before:x.before.length<=1048576
abbrev fnsL:List (List AV):=[[.v (.func (.func 258) #[] #[])],[.v (.func (.func 259) #[] #[])],[.v (.func (.func 260) #[] #[])]]
def T6(x:Instance)(r:Route)(hx:EvalB x)(hr:r.visits.length<=1048575):PC prog 224 [.agg (aC x),.agg (bT r)] (.tup [.agg (bP (kM x r).1),.agg (cH (kM x r).2.1),int (kM x r).2.2]):=by
 refine pcd func224 rfl rfl ?_;simp only[go_sem];refine fO fun V ah am (F:ah V=some (dE (bP aX))) N=>?_
 simp only[go_sem];refine fO fun X ag an (J:ag X=some (oB cQ)) N=>?_
 replace F:=N F;obtain⟨E,F⟩:=F;simp only[go_sem];apply aA <;> intro h1
 ·have h1:cK r.type x.types.length=true:=h1;simp only[go_sem];refine aI F (by simp) ?_;generalize I:aM _ V _=HP;replace J:=kpA I (by first|exact ne_i5_i4|exact E.symm) J;replace F:HP V=some (dE (bP aX)):=upS I;simp only[go_sem];refine aI J (by simp) ?_;generalize I:aM _ X _=HP;replace F:=kpA I (by first|exact E|exact ne_i5_i4.symm) F;replace J:HP X=some (oB cQ):=upS I;simp only[go_sem,J,F];have e:kM x r=(aX,cQ,2):=by unfold kM;rw[if_pos h1]
  rw[e];exact .refl _
 have c1:¬cK r.type x.types.length=true:=by rw[show cK r.type x.types.length=false from h1];simp
 have ak:0<=r.type/\r.type<(x.types.length:Int):=by have h1:cK r.type x.types.length=false:=h1;simp only[cK,Xag,decide_eq_false_iff_not]at h1;omega
 simp only[go_sem];refine⟨fun ρ H=>∃(k:Nat),k<=3/\ρ 2=.rp (aC x) 0/\ρ 3=.rp (bT r) 0/\ρ 4=.op V 0 0/\ρ 5=.op X 0 0/\ρ 25=.sl fnsL/\ρ 26=int 3/\ρ 27=int k/\H V=some (dE (bP aX))/\H X=some (oB cQ)/\(0<k->rO x r.visits=0)/\(1<k->C8 x r=0)/\(2<k->zQ x r=0),fun ρ _=>3-aR (ρ 27),
  ⟨0,Xaa _,rfl,rfl,rfl,rfl,rfl,by simp only[go_sem];rfl,by simp only[go_sem];rfl,F,J,fun h=>absurd h (by decide),fun h=>absurd h (by decide),fun h=>absurd h (by decide)⟩,?_⟩
 rintro ρ H ⟨k,hk,h2,h3,h4,Z,aa,ab,Y,F,J,q1,q2,q3⟩;simp only[go_sem,ab,Y];refine aA (fun aj=>?_) (fun ad=>?_)
 ·have aj:k<3:=by simp at aj;omega
  have hc:k=0\/k=1\/k=2:=by omega
  rcases hc with rfl|rfl|rfl
  ·simp only[go_sem,h2,h3,aa,Y];refine⟨by decide,PC.use (I3 x r (by omega) hx.apart hx.before) ?_⟩;simp only[go_sem];apply aA <;> intro hb
   ·have e:kM x r=(aX,cQ,rO x r.visits):=by unfold kM;rw[if_neg c1,if_pos hb]
    simp only[go_sem,h4,];refine aI F (by simp) ?_;generalize I:aM _ V _=HP;replace J:=kpA I (by first|exact ne_i5_i4|exact E.symm) J;replace F:HP V=some (dE (bP aX)):=upS I;simp only[go_sem,Z,];refine aI J (by simp) ?_;generalize I:aM _ X _=HP;replace F:=kpA I (by first|exact E|exact ne_i5_i4.symm) F;replace J:HP X=some (oB cQ):=upS I;simp only[go_sem,h4,Z,J,F];rw[e];exact .refl _
   ·simp only[go_sem,h2,h3,h4,Z,aa,ab,Y];exact⟨⟨1,by decide,rfl,F,J,fun _=>by simpa using hb,fun h=>absurd h (by decide),fun h=>absurd h (by decide)⟩,by simp only[aN];decide⟩
  ·simp only[go_sem,h2,h3,aa,Y];refine⟨by decide,PC.use (alV x r (by omega) ak (aeY (q1 (by decide)))) ?_⟩;simp only[go_sem];apply aA <;> intro hb
   ·have e:kM x r=(aX,cQ,C8 x r):=by unfold kM;rw[if_neg c1,q1 (by decide),if_neg (by decide),if_pos hb]
    simp only[go_sem,h4,];refine aI F (by simp) ?_;generalize I:aM _ V _=HP;replace J:=kpA I (by first|exact ne_i5_i4|exact E.symm) J;replace F:HP V=some (dE (bP aX)):=upS I;simp only[go_sem,Z,];refine aI J (by simp) ?_;generalize I:aM _ X _=HP;replace F:=kpA I (by first|exact E|exact ne_i5_i4.symm) F;replace J:HP X=some (oB cQ):=upS I;simp only[go_sem,h4,Z,J,F];rw[e];exact .refl _
   ·simp only[go_sem,h2,h3,h4,Z,aa,ab,Y];exact⟨⟨2,by decide,rfl,F,J,fun _=>q1 (by decide),fun _=>by simpa using hb,fun h=>absurd h (by decide)⟩,by simp only[aN];decide⟩
  ·simp only[go_sem,h2,h3,aa,Y];refine⟨by decide,PC.use (alU x r hx.load hr hx.apart hx.before) ?_⟩;simp only[go_sem];apply aA <;> intro hb
   ·have e:kM x r=(aX,cQ,zQ x r):=by unfold kM;rw[if_neg c1,q1 (by decide),if_neg (by decide),q2 (by decide),if_neg (by decide),if_pos hb]
    simp only[go_sem,h4,];refine aI F (by simp) ?_;generalize I:aM _ V _=HP;replace J:=kpA I (by first|exact ne_i5_i4|exact E.symm) J;replace F:HP V=some (dE (bP aX)):=upS I;simp only[go_sem,Z,];refine aI J (by simp) ?_;generalize I:aM _ X _=HP;replace F:=kpA I (by first|exact E|exact ne_i5_i4.symm) F;replace J:HP X=some (oB cQ):=upS I;simp only[go_sem,h4,Z,J,F];rw[e];exact .refl _
   ·simp only[go_sem,h2,h3,h4,Z,aa,ab,Y];exact⟨⟨3,by decide,rfl,F,J,fun _=>q1 (by decide),fun _=>q2 (by decide),fun _=>by simpa using hb⟩,by simp only[aN];decide⟩
 have ad:k=3:=by simp at ad;omega
 subst ad;have e1:=q1 (by decide);have e2:=q2 (by decide);have e3:=q3 (by decide);have eE:kM x r=if((kO x r).2 != 0)=true then(aX,cQ,(kO x r).2)else((kO x r).1,mJ x r (kO x r).1,0):=by unfold kM;rw[if_neg c1,e1,e2,e3];rfl
 rw[eE];simp only[go_sem,h2,h3,];refine aG (atI x r hx.net (by omega)) ?_;simp only[go_sem];refine aL fun ae ac=>?_
 simp only[go_sem];refine cJ ac (by simp[iQ]) fun HGi10 (R10:HGi10 ae=some (dE (bP (kO x r).1))) N=>?_
 replace F:=N F;obtain⟨U,F⟩:=F;replace J:=N J;obtain⟨O,J⟩:=J;simp only[go_sem];apply aA <;> intro hb
 ·rw[if_pos hb];simp only[go_sem,h4];refine aI F (by simp) ?_;generalize I:aM _ V _=HP;replace J:=kpA I (by first|exact ne_i5_i4|exact E.symm) J;replace F:HP V=some (dE (bP aX)):=upS I;simp only[go_sem,Z,];refine aI J (by simp) ?_;generalize I:aM _ X _=HP;replace F:=kpA I (by first|exact E|exact ne_i5_i4.symm) F;replace J:HP X=some (oB cQ):=upS I;simp only[go_sem,h4,Z,J,F];exact .refl _
 ·rw[if_neg (by rw[hb];simp)];simp only[go_sem];refine gU [ae] [(0,true),(1,true),(2,true),(3,true),(4,true),(5,false),(6,false),(7,false)] (by simp[R10]) (by kernel_rfl) fun Hp Hr hp af _ ao=>?_
  have al:=(hp ae (by simp)).trans R10;have P4:=(af V (by simp[U])).trans F;have P5:=(af X (by simp[O])).trans J;simp only[go_sem,h2,h3,al];refine⟨_,(akZ x r (kO x r).1 (by omega)).q rfl,?_⟩;simp only[go_sem,h4,];refine aI P4 (by simp[iQ]) ?_;generalize I:aM _ V _=HP;replace P5:=kpA I (by first|exact ne_i5_i4|exact E.symm) P5;replace P4:HP V=some (dE (bP (kO x r).1)):=upS I;simp only[go_sem,Z,];refine aI P5 (by simp[kU]) ?_;generalize I:aM _ X _=HP;replace P4:=kpA I (by first|exact E|exact ne_i5_i4.symm) P4;replace P5:HP X=some (oB (mJ x r (kO x r).1)):=upS I;simp only[go_sem];refine jK fun _ Hm _ ai=>?_
  have M4:=(ai V (by simp[U])).trans P4;have M5:=(ai X (by simp[O])).trans P5;simp only[go_sem,h4,Z,M4,M5];exact .refl _
end Sq
namespace Sq
open Mv (bO bR aO)
structure PlanS(x:Instance)(p:Plan):Prop where
 routes:p.routes.length<=19
 unserved:p.unserved.length<=19
 orders:x.orders.length<=19
 types:x.types.length<=19
 visits:∀r∈p.routes,r.visits.length<=1048575
structure PlanT(x:Instance)(p:Plan):Prop where
 routes:p.routes.length<=60
 unserved:p.unserved.length<=60
 orders:x.orders.length<=60
 types:x.types.length<=60
 visits:∀r∈p.routes,r.visits.length<=1048576
end Sq
namespace Sq
open Mv (aO)
open Mv (bO bR aO)
def W6(x:Instance):fT x=kN x.types:=by unfold fT kN;cases x.types <;> rfl
section
variable{x:Instance}(h:Acc x)
include h
def _root_.Go.Proofs.YtpagaknmdfgfkaaGreatDoor.Acc.dims:1<=fT x/\fT x<=3:=by rw[W6];have h1:=h.types;obtain⟨t,E⟩:=aK (show 0<x.types.length by omega);have:=aiK (h.type t (Xac E)).cap;omega
def _root_.Go.Proofs.YtpagaknmdfgfkaaGreatDoor.Acc.loadB:LoadB x:=⟨by have:=h.dims;omega,fun o E=>by have:=(VA (h.order o E).load).1;rw[<-W6]at this;omega,by have:=h.orders;omega⟩
end
def EX{l:List Point}{i:Nat}(h:i<l.length):eQ l i∈l:=by rw[dX (List.getElem?_eq_getElem h)];exact List.getElem_mem h
def Ru{p:Point}{t:Int}(F:0<=p.t/\p.t<=4096/\p.t<=p.a/\p.a<=p.t+4096)(E:0<=t/\t<=12288):0<=AE p t/\AE p t<=100000000:=by unfold AE;rw[lY (n:=t+p.a) (by omega),lY (by omega)];omega
def akK{p q:Point}{t:Int}(X:0<=p.t/\p.t<=4096/\p.t<=p.a/\p.a<=p.t+4096)(Y:0<=q.t/\q.t<=4096/\q.t<=q.a/\q.a<=q.t+4096)(U:p.a<=q.a)(h1:p.t<=t)(V:t<q.t):0<=Kh p q t/\Kh p q t<=100000000:=by
 unfold Kh;have J:0<=t-p.t/\t-p.t<=4096:=by omega
 have F:0<=q.a-p.a/\q.a-p.a<=8192:=by omega
 have I:0<=(t-p.t)*(q.a-p.a):=Int.mul_nonneg J.1 F.1;have E:(t-p.t)*(q.a-p.a)<=4096*8192:=Int.mul_le_mul J.2 F.2 F.1 (by omega);rw[lY (n:=t-p.t) (by omega),lY (n:=q.a-p.a) (by omega),lY (n:=(t-p.t)*(q.a-p.a)) (by omega),lY (n:=q.t-p.t) (by omega)];generalize (t-p.t)*(q.a-p.a)=m at I E;rw[lY (n:=m+q.t) (by omega),lY (n:=m+q.t-p.t) (by omega),lY (n:=m+q.t-p.t-1) (by omega),Xbz (by omega)];have O:0<=(m+q.t-p.t-1)/(q.t-p.t):=Int.ediv_nonneg (by omega) (by omega);have Z:(m+q.t-p.t-1)/(q.t-p.t)<=m+q.t-p.t-1:=Int.ediv_le_self _ (by omega);have e:IntKind.i64.wrap ((m+q.t-p.t-1)/(q.t-p.t))=(m+q.t-p.t-1)/(q.t-p.t):=lY (by omega);rw[e,lY (by omega)];omega
def aoJ{l:List Point}{t:Int}(h:jT l=[])(I:0<=t/\t<=12288):0<=gQ l t/\gQ l t<=100000000:=by
 have E:=ON h;have U:=E.len;unfold gQ;split
 ·omega
 ·split
  ·rename_i k J;have F:=List.find?_some J;have O:=Xar.1 (List.mem_of_find?_eq_some J);simp only[nK,Xai,decide_eq_true_eq]at F;have:=E.mono k (by omega);exact akK (E.pt _ (EX (by omega))) (E.pt _ (EX (by omega))) this.2 F.1 F.2
  ·split
   ·exact Ru (E.pt _ (EX (by omega))) I
   ·exact Ru (E.pt _ (EX (by omega))) I
def QS{t:Int}:∀(l:List Point) (s B:Int),(∀p∈l,0<=p.a/\p.a<=4096)->0<=s/\s<=B->B+4096*l.length<=1000000000000->0<=l.foldl (pJ t) s/\l.foldl (pJ t) s<=B+4096*l.length
 | [],s,B,_,hs,_=>by simpa using hs
 | p::l,s,B,hp,hs,hB=>by
  have h1:=hp p (by simp);simp only[Xah,List.foldl_cons]at hB |-;have e:0<=pJ t s p/\pJ t s p<=B+4096:=by
   unfold pJ;split
   ·rw[lY (by omega)];omega
   ·omega
  have:=QS (t:=t) l (pJ t s p) (B+4096) (fun q E=>hp q (by simp[E])) e (by omega);omega
def TF{a:Arc}{t:Int}(h:ArcOk a)(F:0<=t/\t<=12288):0<=tS a t/\tS a t<=1000000000:=by have h1:=aoJ h.travel F;have I:=h.slow;have:=QS (t:=t) a.slow _ 100000000 (fun p E=>(h.pt p E).2) h1 (by omega);unfold tS;omega
def Vc{s:Stop}(h:gJ s=0)(I:0<=s.place):StopB s/\s.start<=s.close:=by
 unfold gJ at h;split at h
 ·rename_i E;simp only[Go.Proofs.YtpagaknmdfgfkaaGreatDoor.kZ,Xai,Xat]at E;omega
 ·split at h
  ·cases h
  ·rename_i F;simp only[O5,Xch,Xag,decide_eq_false_iff_not]at F;exact⟨⟨by omega,by omega,by omega,by omega⟩,by omega⟩
section
variable{x:Instance}(h:Acc x)
include h
def _root_.Go.Proofs.YtpagaknmdfgfkaaGreatDoor.Acc.go{t:VType}(I:t∈x.types):GoB x t:=by
 have E:=h.type t I;have X:=E.start;have V:=E.close;have J:=E.drive;refine⟨fun p q d F O=>?_,E.rest,V,J.2⟩;unfold fP at O |-;split
 ·exact Xbp _
 ·split
  ·exact F.1
  ·cases U:pX x.net t.profile p q with
   | none=>exact Xbp _
   | some a=>exact(TF (h.arc a (List.mem_of_find?_eq_some U)) F).1
def _root_.Go.Proofs.YtpagaknmdfgfkaaGreatDoor.Acc.stop{v:Visit}(E:(bI x v).2=true):StopB (bI x v).1/\(bI x v).1.start<=(bI x v).1.close:=by
 unfold bI at E |-;split
 ·rename_i I;rw[if_pos I]at E;cases E
 ·rename_i I;rw[if_neg I]at E;cases F:x.orders[v.order.toNat]? with
  | none=>rw[F]at E;cases E
  | some o=>
   rw[F]at E;have O:0<=(oQ o v).place:=by simpa using E
   have J:=h.order o (Xac F);refine Vc ?_ O;show gJ (oQ o v)=0;unfold oQ;cases v.drop
   ·exact J.wpick
   ·exact J.wdrop
def _root_.Go.Proofs.YtpagaknmdfgfkaaGreatDoor.Acc.route{r:Route}{t:VType}(F:bW x r=true)(J:x.types[r.type.toNat]?=some t):RouteB x t r/\∀v∈r.visits,(bI x v).1.start<=(bI x v).1.close:=by unfold bW at F;simp only[Xai,Xay,Xag,decide_eq_false_iff_not]at F;have O:∀v∈r.visits,(bI x v).2=true:=Xaj.1 F.2;have I:=h.type t (Xac J);have U:=I.start;have V:=I.close;refine⟨⟨h.go (Xac J),fun v E=>(h.stop (O v E)).1,⟨?_,by show -(12288*((0:Nat):Int))<=0/\(0:Int)<=4096;omega⟩,by omega⟩,fun v E=>(h.stop (O v E)).2⟩;unfold gI;show 0<=eV t.start r.start/\eV t.start r.start<=8192;unfold eV;split <;> omega
end
def anB(x:Instance)(t:VType)(r:Route)(k:Nat)(F:k<=r.visits.length):sK t (fS x r.visits) k=iF x t r k:=by
 cases k with
 | zero=>rfl
 | succ j=>obtain⟨v,E⟩:=aK (show j<r.visits.length by omega);simp[sK,iF,fS,List.getD,E]
def adR(x:Instance)(t:VType)(r:Route)(k:Nat)(E:k<=r.visits.length)(l:Lab)(b:Bool):nC x t (fS x r.visits) k l b=gH x t r k l b:=by unfold nC gH;rw[anB x t r k E];unfold fS;rw[List.getElem?_map];cases r.visits[k]? <;> rfl
def Xd(x:Instance)(t:VType)(r:Route):∀(bs:List Bool) (k:Nat) (l:Lab),bs.length+k<=r.visits.length+1->B0 x t (fS x r.visits) bs k l=kR x t r bs k l
 | [],k,l,_=>rfl
 | b::bs,k,l,h=>by
  simp only[Xah]at h;unfold B0 kR;rw[adR x t r k (by omega)];cases gH x t r k l b with
  | error e=>rfl
  | ok l'=>exact Xd x t r bs (k+1) l' (by omega)
def auC(x:Instance)(t:VType)(r:Route)(k:Nat)(F:k<=r.visits.length)(E:List Lab):Ju x t r (fS x r.visits) E k=Bs x t r E k:=by
 unfold Ju Bs;rw[List.foldl_flatMap]
 congr 1
 funext out l;unfold qM
 congr 1
 exact List.map_congr_left fun b _=>adR x t r k F l b
def alJ(x:Instance)(t:VType)(r:Route):∀k:Nat,k<=r.visits.length+1->dpP x t r (fS x r.visits) k=dpL x t r k
 | 0,_=>rfl
 | k+1,h=>by show Ju x t r _ _ k=Bs x t r _ k;rw[auC x t r k (by omega),alJ x t r k (by omega)]
def _root_.Go.Proofs.YtpagaknmdfgfkaaGreatDoor.Acc.best{x:Instance}(h:Acc x)(r:Route):(kO x r).2=(lX x r).2:=by
 unfold kO;split
 ·rename_i I;unfold lX;rw[if_pos (by simpa using I)]
 ·rename_i I;have O:bW x r=true/\(r.rests.length:Int)<=(r.visits.length:Int)+1:=by simpa using I
  obtain⟨J,U⟩:=O;have E:∃t,x.types[r.type.toNat]?=some t:=by have:=J;unfold bW at this;simp only[Xai,Xay,Xag,cK,decide_eq_false_iff_not]at this;exact aK (by omega)
  obtain⟨t,F⟩:=E;rw[F];show(D9 x t r).2=_;obtain⟨X,V⟩:=h.route J F;have U:r.rests.length<=r.visits.length+1:=by omega
  rw[apH X J F U V];unfold D9;rw[alJ x t r _ (Xaf _)];cases dpL x t r (r.visits.length+1)with
  | nil=>show F2 (B0 x t _ _ 0 _)=_;rw[Xd x t r _ 0 _ (by rw[oC U];omega)]
  | cons l ls=>rfl
def wD{α:Type}(p:α->Bool)(l:List α):((∀y∈l,p y=false)/\pM p l 0= -1)\/∃(k:Nat) (x:α),l[k]?=some x/\p x=true/\(∀y∈l.take k,p y=false)/\pM p l 0=k:=by
 by_cases h:l.any p=true
 ·right;have F:l.findIdx p<l.length:=List.findIdx_lt_length_of_exists (by simpa using h);refine⟨l.findIdx p,l[l.findIdx p],List.getElem?_eq_getElem F,List.findIdx_getElem,?_,?_⟩
  ·intro y E;obtain⟨i,hi,rfl⟩:=List.getElem_of_mem E;rw[Xas]at hi;rw[List.getElem_take];exact List.not_of_lt_findIdx (by omega)
  ·have := lW (p := p) (l := l) (k := l.findIdx p) (x := l[l.findIdx p]) (by intro y E;obtain⟨i,hi,rfl⟩:=List.getElem_of_mem E;rw[Xas]at hi;rw[List.getElem_take];exact List.not_of_lt_findIdx (by omega)) (List.getElem?_eq_getElem F) List.findIdx_getElem 0;rw[this];omega
 ·left;have h:∀y∈l,p y=false:=fun y E=>by have:=Xbb.1 (Xdb.2 h) y E;simpa using this
  exact⟨h,kS h 0⟩
def zP{v u:Visit}:oT v u=true↔u=v:=by
 unfold oT;constructor
 ·intro h;simp only[Xbm,Xai,Xat]at h;cases u;cases v;simp only[Visit.mk.injEq];exact⟨h.1,h.2⟩
 ·rintro rfl;simp
def Zw{l:List Visit}{i:Nat}(hi:i<l.length):qY l i=BS l i:=by
 obtain⟨v,O⟩:=aK hi;unfold qY BS;rw[show l.getD i ⟨0,false⟩=v by simp[List.getD,O]];unfold bJ;rw[rK _ 0 (Xbp _)];by_cases h:(l.take i).any (oT v)=true
 ·rw[h];rcases wD (oT v) l with⟨h1,_⟩|⟨k,y,Y,J,X,V⟩
  ·obtain⟨u,F,E⟩:=Xao.1 h;rw[h1 u (List.mem_of_mem_take F)]at E;cases E
  ·rw[V];have:k<i:=by
    refine Decidable.byContradiction fun Z=>?_
    obtain⟨u,F,E⟩:=Xao.1 h;have I:u∈l.take k:=by obtain⟨j,U,rfl⟩:=List.getElem_of_mem F;rw[Xas]at U;rw[List.getElem_take];exact List.mem_take_iff_getElem.2 ⟨j,by omega,rfl⟩
    rw[X u I]at E;cases E
   symm
   simp only[bne_iff_ne,ne_eq];omega
 ·have h : ∀ y ∈ l.take i, oT v y = false := fun y J => by have:=Xbb.1 (Xdb.2 h) y J;simpa using this
  rw[lW h O (zP.2 rfl) 0,qA h];simp
def sT{α:Type}{p q:α->Bool}{l:List α}(h:∀a∈l,p a=q a):l.any p=l.any q:=by rw[Xap,Xao,Xao];exact⟨fun⟨a,h1,E⟩=>⟨a,h1,(h a h1)▸E⟩,fun⟨a,h1,E⟩=>⟨a,h1,(h a h1).symm▸E⟩⟩
def Ms{α:Type}{p q:α->Bool}{l:List α}(h:∀a∈l,p a=q a):l.all p=l.all q:=by rw[Xap,Xaj,Xaj];exact⟨fun F a E=>(h a E)▸F a E,fun F a E=>(h a E).symm▸F a E⟩
def Gp{o:Order}{i:Int}(h1: -1<=o.pick.place)(E: -1<=o.drop.place):gS o i=cN o i:=by
 unfold gS cN;have e:∀n:Int,-1<=n->(decide (n>=0)=true↔(n != -1)=true):=by intro n F;simp only[decide_eq_true_eq,bne_iff_ne,ne_eq];omega
 simp only[e _ h1,e _ E]
def asN{l:List Visit}{u v:Visit}(h:u≠v)(U:bJ l u>=0):bJ l u≠bJ l v:=by
 unfold bJ at *;intro e;rcases wD (oT u) l with⟨_,h1⟩|⟨k,y,F,O,_,h1⟩
 ·omega
 ·rcases wD (oT v) l with⟨_,I⟩|⟨m,z,E,J,_,I⟩
  ·omega
  ·have:k=m:=by omega
   subst this;rw[F]at E;injection E with E;subst E;exact h ((zP.1 O).symm.trans (zP.1 J))
def adG(l:List Visit)(v:Visit): -1<=bJ l v:=by unfold bJ;rcases wD (oT v) l with⟨_,h1⟩|⟨k,y,hk,hy,_,h1⟩ <;> omega
def ajT(l:List Visit)(o:Order)(i:Int):qW l (cN o i) (-1)= !(!gY l (cN o i)||(((cN o i).length:Int) == 2&&decide (bJ l ((cN o i).getD 0 ⟨0,false⟩)>bJ l ((cN o i).getD 1 ⟨0,false⟩)))):=by
 have e:∀v,decide (bJ l v> -1)= !decide (bJ l v<0):=fun v=>by rw[Xap];simp only[decide_eq_true_eq,Xay,decide_eq_false_iff_not];omega
 unfold cN;split
 ·split
  ·have E:=asN (l:=l) (u:=⟨i,false⟩) (v:=⟨i,true⟩) (by simp);have F:=adG l ⟨i,true⟩;simp only[List.cons_append,Xcj,qW,e,gY,List.all_cons,List.all_nil,Xah,List.length_nil,List.getD_cons_zero,List.getD_cons_succ,Xbm];rw[Xap];simp;omega
  ·simp[qW,gY,e]
 ·split
  ·simp[qW,gY,e]
  ·simp[qW,gY]
def Zy{x:Instance}(h:Acc x){l:List Visit}{v:Visit}(J:0<=v.order/\v.order<(x.orders.length:Int)):xE x.orders l v= !oG l (CW x v.order) v:=by
 obtain⟨o,F⟩:=aK (show v.order.toNat<x.orders.length by omega);have E:=h.order o (Xac F);have I:cK v.order x.orders.length=false:=by simp only[cK,Xag,decide_eq_false_iff_not];omega
 unfold xE fV CW;rw[if_neg (by rw[I];simp),F];show(inV (gS o v.order) v&&qW l (gS o v.order) (-1))= !oG l (cN o v.order) v;rw[Gp E.pick E.drop,ajT];unfold inV oG;rw[show decide (bJ (cN o v.order) v>=0)= !decide (bJ (cN o v.order) v<0)by rw[Xap];simp only[decide_eq_true_eq,Xay,decide_eq_false_iff_not];omega];generalize decide (bJ (cN o v.order) v<0)=a;generalize gY l (cN o v.order)=b;generalize (((cN o v.order).length:Int) == 2&&decide (bJ l ((cN o v.order).getD 0 ⟨0,false⟩)>bJ l ((cN o v.order).getD 1 ⟨0,false⟩)))=c;cases a <;> cases b <;> cases c <;> rfl
def Nc{l:List Visit}{a b:Int}:GN l a b=true↔∃j k:Nat,k<j/\j<l.length/\dO l j=a/\dO l k=b:=by
 unfold GN wR;simp only[Xao,Xar,Xai,Xat];constructor
 ·rintro⟨j,F,k,E,h⟩;exact⟨j,k,E,F,h.1,h.2⟩
 ·rintro⟨j,k,E,F,h⟩;exact⟨j,F,k,E,h⟩
def JX{l:List Visit}{a b:Int}(O:a≠b):G9 l a b=(!iY l b||(iY l a&& !GN l a b)):=by
 unfold G9;rcases wD (fun v:Visit=>v.order == b) l with⟨h0,h1⟩|⟨k,y,J,V,hz,h1⟩
 ·rw[h1,show iY l b=false from qA h0];rfl
 ·rw[h1];have Y:iY l b=true:=Xao.2 ⟨y,Xac J,V⟩;rw[Y,show decide ((k:Int)<0)=false by simp];simp only[Xbt,Xcb,Xaq]
  congr 2
  rw[Xap,Nc];unfold iY;rw[Xao];have F:y.order=b:=by simpa using V
  constructor
  ·rintro⟨u,X,E⟩;obtain⟨i,hi,rfl⟩:=List.getElem_of_mem X;rw[List.getElem_drop]at E;rw[Xbj]at hi;have E:(l[k+i]'(by omega)).order=a:=by simpa using E
   have aa:i≠0:=by
    rintro rfl;have:l[k+0]'(by omega)=y:=by have:=List.getElem?_eq_getElem (l:=l) (i:=k) (by omega);rw[J]at this;injection this with this;exact this.symm
    rw[this,F]at E;exact O E.symm
   exact⟨k+i,k,by omega,by omega,(gO (List.getElem?_eq_getElem (by omega))).trans E,(gO J).trans F⟩
  ·rintro⟨j,m,hm,hj,U,I⟩;have Z:k<=m:=by
    refine Decidable.byContradiction fun hc=>?_
    have:=hz (l[m]'(by omega)) (List.mem_take_iff_getElem.2 ⟨m,by omega,rfl⟩);rw[gO (List.getElem?_eq_getElem (show m<l.length by omega))]at I;simp[I]at this
   refine⟨l[j],?_,by rw[gO (List.getElem?_eq_getElem hj)]at U;simpa using U⟩;exact List.mem_drop_iff_getElem.2 ⟨j-k,by omega,by congr 1;omega⟩
def _root_.Go.Proofs.YtpagaknmdfgfkaaGreatDoor.Acc.seq{x:Instance}(h:Acc x)(l:List Visit):rO x l=fK x l:=by
 unfold rO fK;by_cases V:(l.any fun v=>cK v.order x.orders.length)=true
 ·rw[if_pos (by rw[V];simp),if_pos V]
 have O:(l.any fun v=>cK v.order x.orders.length)=false:=by simpa using V
 have F:∀v∈l,0<=v.order/\v.order<(x.orders.length:Int):=fun v U=>by
  have:=Xbb.1 O v U;have:cK v.order x.orders.length=false:=by simpa using this
  simp only[cK,Xag,decide_eq_false_iff_not]at this;omega
 have hl:=h.orders;have E:∀v∈l,AA v=false:=fun v U=>by have:=F v U;simp only[AA,Xag,decide_eq_false_iff_not];omega
 rw[if_neg V,(Co h.loadB F).1];show(if _ then _ else _)=_;rw[O];have Z:(((l.length:Int) == 0)||false)=(((0:Int) != 0)||((l.length:Int) == 0)):=by simp
 rw[Z];by_cases h0:(((0:Int) != 0)||((l.length:Int) == 0))=true
 ·rw[if_pos h0,if_pos h0]
 rw[if_neg h0,if_neg h0];have e2:(List.range l.length).any (qY l)=(List.range l.length).any (BS l):=sT fun i hi=>Zw (Xar.1 hi)
 have Y:l.all (xE x.orders l)=zK x l:=Ms fun v U=>Zy h (F v U)
 have e4:(x.apart.any fun q=>iY l q.a&&iY l q.b)= !Cw x (wN l:Nat):=by
  unfold Cw;rw[List.not_all_eq_any_not];refine sT fun q X=>?_
  have I:=h.apartB q X;have h1:=uM E (i:=q.a) I.a.1 (by have:=I.a;omega);have J:=uM E (i:=q.b) I.b.1 (by have:=I.b;omega);rw[(Co h.loadB F).1]at h1 J;rw[h1,J];simp
 have e5:(x.before.any fun q=> !G9 l q.a q.b)= !vX x (wN l:Nat) l:=by
  unfold vX;rw[List.not_all_eq_any_not];refine sT fun q X=>?_
  have I:=h.beforeB q X;have h1:=uM E (i:=q.a) I.a.1 (by have:=I.a;omega);have J:=uM E (i:=q.b) I.b.1 (by have:=I.b;omega);rw[(Co h.loadB F).1]at h1 J;unfold A7;rw[JX I.ne,h1,J]
 rw[e2,Y,e4,e5]
def auW{s c:Nat}(U:s<2^63)(V:c<2^63):xR .andNot .i64 (s:Int) (c:Int)=0↔∀i,i<63->¬(s.testBit i=true/\c.testBit i=false):=by
 have h1:((s:Int)%((2^64:Nat):Int)).toNat=s:=by omega
 have I:((c:Int)%((2^64:Nat):Int)).toNat=c:=by omega
 have J:(BitVec.ofInt 64 (s:Int) &&& ~~~(BitVec.ofInt 64 (c:Int))).toNat<2^63:=by rw[BitVec.toNat_and,BitVec.toNat_ofInt,h1];exact Nat.lt_of_le_of_lt Nat.and_le_left U
 have e:xR .andNot .i64 (s:Int) (c:Int)=(((BitVec.ofInt 64 (s:Int) &&& ~~~(BitVec.ofInt 64 (c:Int))).toNat:Nat):Int):=by exact aW (n:=(((BitVec.ofInt 64 (s:Int) &&& ~~~(BitVec.ofInt 64 (c:Int))).toNat:Nat):Int)) (by omega)
 have E:∀i,i<64->(BitVec.ofInt 64 (s:Int) &&& ~~~(BitVec.ofInt 64 (c:Int))).toNat.testBit i=(s.testBit i&& !c.testBit i):=fun i hi=>by
  rw[BitVec.testBit_toNat,BitVec.getLsbD_and,BitVec.getLsbD_not];have a1:(BitVec.ofInt 64 (s:Int)).getLsbD i=s.testBit i:=by rw[<-BitVec.testBit_toNat,BitVec.toNat_ofInt,h1]
  have a2:(BitVec.ofInt 64 (c:Int)).getLsbD i=c.testBit i:=by rw[<-BitVec.testBit_toNat,BitVec.toNat_ofInt,I]
  rw[a1,a2,decide_eq_true hi];simp
 rw[e];constructor
 ·intro h0 i hi F;have h0:(BitVec.ofInt 64 (s:Int) &&& ~~~(BitVec.ofInt 64 (c:Int))).toNat=0:=by omega
  have:=E i (by omega);rw[h0,F.1,F.2]at this;simp at this
 ·intro O;have:(BitVec.ofInt 64 (s:Int) &&& ~~~(BitVec.ofInt 64 (c:Int))).toNat=0:=by
   refine Nat.eq_of_testBit_eq fun i=>?_
   rw[Nat.zero_testBit];by_cases hi:i<63
   ·rw[E i (by omega)];have:=O i hi;cases Y:s.testBit i <;> cases X:c.testBit i <;> simp_all
   ·refine Xcv (Xbs J (Xau (by decide) (by omega)))
  omega
def NG{s i:Nat}(F:s<2^63):((IntKind.i64.wrap (Int.tdiv (s:Int) ((2^i:Nat):Int))).tmod 2 == 1)=s.testBit i:=by
 have e:Int.tdiv (s:Int) ((2^i:Nat):Int)=((s/2^i:Nat):Int):=by rw[Xbz (by omega)];norm_cast
 have E:s/2^i<=s:=Xcq _ _;rw[e,Xdd];generalize s/2^i=q at E;rw[show IntKind.i64.wrap (q:Int)=(q:Int)from aW (by omega),Xck (by omega)];rw[Xap];simp only[Xat,decide_eq_true_eq];omega
def L5{s i:Nat}(F:s<2^63):((IntKind.i64.wrap (Int.tdiv (s:Int) ((2^i:Nat):Int))).tmod 2 == 0)= !s.testBit i:=by
 rw[<-NG F];have e:Int.tdiv (s:Int) ((2^i:Nat):Int)=((s/2^i:Nat):Int):=by rw[Xbz (by omega)];norm_cast
 have E:s/2^i<=s:=Xcq _ _;rw[e];generalize s/2^i=q at E;rw[show IntKind.i64.wrap (q:Int)=(q:Int)from aW (by omega),Xck (by omega)];rw[Xap];simp only[Xat,Xay,beq_eq_false_iff_ne,ne_eq];omega
def Z3{c s:Int}(J:0<=c/\c<=1073741823)(O:0<=s/\s<=1073741823):xG c s=rZ c s:=by
 obtain⟨c,rfl⟩:=Int.eq_ofNat_of_zero_le J.1;obtain⟨s,rfl⟩:=Int.eq_ofNat_of_zero_le O.1;have E:c<2^63:=by omega
 have F:s<2^63:=by omega
 unfold xG rZ;rw[show decide ((c:Int)>=0)=true by simp,show decide ((s:Int)>=0)=true by simp,show decide ((c:Int)<0)=false by simp,show decide ((s:Int)<0)=false by simp];simp only[Xbc,Bool.or_self,Xda];rw[Xap,Xat,auW F E,Xaj];constructor
 ·intro h i hi;have:=h i (Xar.1 hi);unfold Ae;rw[NG F,L5 E];cases h1:s.testBit i <;> cases I:c.testBit i <;> simp_all
 ·intro h i hi;have:=h i (Xar.2 hi);unfold Ae at this;rw[NG F,L5 E]at this;cases h1:s.testBit i <;> cases I:c.testBit i <;> simp_all
def Xi(a b:Int):W (W a+b)=W (a+b):=by
 show IntKind.i64.wrap (IntKind.i64.wrap a+b)=IntKind.i64.wrap (a+b);have e:∀n:Int,IntKind.i64.wrap n=if n%18446744073709551616>=9223372036854775808 then n%18446744073709551616-18446744073709551616 else n%18446744073709551616:=fun n=>by show(if(true&&decide (n%18446744073709551616>=9223372036854775808))=true then n%18446744073709551616-18446744073709551616 else n%18446744073709551616)=_;simp
 simp only[e]
 repeat' split
 all_goals omega
def avW(a b:Int):W (W a-b)=W (a-b):=by
 have:=Xi a (-b)
 rwa [<-Int.sub_eq_add_neg,<-Int.sub_eq_add_neg]at this
def uD:Nat->(Nat->Int)->Int
 | 0,_=>0
 | n+1,f=>uD n f+f n
def Bn{f g:Nat->Int}:∀{n:Nat},(∀i,i<n->f i=g i)->uD n f=uD n g
 | 0,_=>rfl
 | n+1,h=>by unfold uD;rw[Bn fun i hi=>h i (by omega),h n (by omega)]
def Mo{f g:Nat->Int}{i0:Nat}:∀{n:Nat},i0<n->(∀i,i<n->i≠i0->f i=g i)->uD n g=uD n f+(g i0-f i0)
 | n+1,hi,h=>by
  unfold uD;by_cases e:i0=n
  ·subst e;rw[Bn (f:=f) (g:=g) fun i hi=>h i (by omega) (by omega)];omega
  ·have:=Mo (f:=f) (g:=g) (n:=n) (by omega) fun i hi=>h i (by omega)
   rw[this,h n (by omega) (by omega)];omega
def Lj{f:Nat->Int}{n:Nat}(h:∀i,n<=i->f i=0):∀m,uD (n+m) f=uD n f
 | 0=>rfl
 | m+1=>by show uD (n+m) f+f (n+m)=_;rw[Lj h m,h _ (by omega)];omega
def Jm(x:Instance)(j i:Nat):Int:=match x.orders[i]? with|some o=>o.load.getD j 0|none=>0
def stB(l:List Visit)(i:Int)(b:Bool)(k:Nat):Bool:=(l.take k).foldl (fun s v=>if(v.order != i)=true then s else !v.drop) b
def Bi{l:List Visit}{i:Int}{b:Bool}{k:Nat}{v:Visit}(h:l[k]?=some v):stB l i b (k+1)=if(v.order != i)=true then stB l i b k else !v.drop:=by unfold stB;rw[bA h,Xbn];rfl
def PI(l:List Visit)(i:Int)(b:Bool):∀k,k<=l.length->((∀u∈l.take k,u.order≠i)/\stB l i b k=b)\/∃m u,m<k/\l[m]?=some u/\u.order=i/\stB l i b k= !u.drop
 | 0,_=>.inl ⟨by simp,rfl⟩
 | k+1,hk=>by
  obtain⟨v,I⟩:=aK (show k<l.length by omega);rw[Bi I];by_cases h:v.order=i
  ·right;rw[if_neg (by simp[h])];exact⟨k,v,by omega,I,h,rfl⟩
  ·rw[if_pos (by simp[h])];rcases PI l i b k (by omega)with⟨h1,F⟩|⟨m,u,h1,F,O,J⟩
   ·left;refine⟨fun u E=>?_,F⟩;rw[bA I]at E;rcases Xba.1 E with E|E
    ·exact h1 u E
    ·simp at E;subst E;exact h
   ·right;exact⟨m,u,by omega,F,O,J⟩
def XJ(l:List Visit)(i:Int)(n:Nat)(b:Bool):∀m,m<=l.length->Dj l i n b m=(stB l i b (min n m),iY (l.take m) i)
 | 0,_=>by rw[Nat.min_zero];rfl
 | m+1,hm=>by
  obtain⟨v,E⟩:=aK (show m<l.length by omega);rw[Nk E,XJ l i n b m (by omega)];have e:iY (l.take (m+1)) i=(iY (l.take m) i||v.order == i):=by unfold iY;rw[bA E,List.any_append];simp
  rw[e];unfold onS;by_cases h:v.order=i
  ·rw[if_neg (by simp[h])];by_cases F:m<n
   ·rw[if_pos (by simp;omega),show min n (m+1)=m+1 by omega,Bi E,if_neg (by simp[h])];simp[h]
   ·rw[if_neg (by simp;omega),show min n (m+1)=min n m by omega];simp[h]
  ·rw[if_pos (by simp[h])];have:(v.order == i)=false:=by simpa using h
   rw[this,Bool.or_false];by_cases F:m<n
   ·rw[show min n (m+1)=m+1 by omega,Bi E,if_pos (by simp[h]),show min n m=m by omega]
   ·rw[show min n (m+1)=min n m by omega]
def atH(l:List Visit)(k i:Nat)(o:Order)(E:k<=l.length):onB l k i o=(stB l i (decide (o.pick.place<0)) k&&iY l i):=by unfold onB;have:asC l i k (decide (o.pick.place<0))=Dj l i k (decide (o.pick.place<0)) l.length:=rfl;rw[this,XJ l i k _ _ (Xaf _),Xad,show min k l.length=k by omega]
def onK(x:Instance)(l:List Visit)(k i:Nat):Bool:=match x.orders[i]? with|some o=>stB l i (decide (o.pick.place<0)) k&&iY l i|none=>false
def wG(x:Instance)(l:List Visit)(k j i:Nat):Int:=if onK x l k i=true then Jm x j i else 0
def Wf(ll:List (List Int))(a:List Int)(j:Nat):lP (ll++[a]) j=W (lP ll j+a.getD j 0):=by unfold lP;rw[Xbn];rfl
def Mj(x:Instance)(l:List Visit)(k j:Nat)(F:k<=l.length):∀n,n<=x.orders.length->lP (kK x.orders l k n) j=W (uD n (wG x l k j))
 | 0,_=>rfl
 | n+1,hn=>by
  obtain⟨o,E⟩:=aK (show n<x.orders.length by omega);have ih:=Mj x l k j F n (by omega);rw[Ay E];show _=W (uD n (wG x l k j)+wG x l k j n);have e:onK x l k n=onB l k n o:=by unfold onK;rw[E,atH l k n o F]
  unfold wG;rw[e];by_cases h:onB l k n o=true
  ·rw[if_pos h,if_pos h,Wf,ih,Xi];unfold Jm;rw[E];rfl
  ·rw[if_neg h,if_neg h,Xak,ih,Int.add_zero];rfl
def HW{f:Int->Int->Int}{a b:List Int}{j:Nat}(E:j<a.length)(F:j<b.length):(List.zipWith f a b).getD j 0=f (a.getD j 0) (b.getD j 0):=by simp[List.getD,List.getElem?_zipWith,List.getElem?_eq_getElem E,List.getElem?_eq_getElem F]
def pkN(x:Instance)(i:Nat):Bool:=match x.orders[i]? with|some o=>decide (o.pick.place<0)|none=>false
def MS{x:Instance}{d:Nat}(J:∀o∈x.orders,o.load.length=d){s:Int}{j:Nat}(O:j<d):∀m,
  ((qO s m).foldl (qR x) (List.replicate d 0)).getD j 0=W (uD m fun i=>if(dN s i&&pkN x i)=true then Jm x j i else 0)
 | 0=>by simp[qO,uD,List.getD,O];rfl
 | m+1=>by
  have ih:=MS J (s:=s) O m;have F:=Dd J (qO s m);rw[oN,Xbn];generalize U:(qO s m).foldl (qR x) (List.replicate d 0)=A at ih F |-;show _=W (uD m _+if(dN s (m:Int)&&pkN x m)=true then Jm x j m else 0);cases V:dN s (m:Int)with
  | false=>rw[Bool.false_and,if_neg (by simp),if_neg (by simp),Int.add_zero];exact ih
  | true=>
   rw[if_pos rfl];simp only[List.foldl_cons,List.foldl_nil];unfold qR;rw[Xaq];cases I:x.orders[m]? with
   | none=>
    have E:pkN x m=false:=by unfold pkN;rw[I]
    rw[E,Bool.and_false,if_neg (by simp),Int.add_zero];exact ih
   | some o=>
    have E:pkN x m=decide (o.pick.place<0):=by unfold pkN;rw[I]
    rw[E,Xbc];show(if decide (o.pick.place<0)=true then yP A o.load else A).getD j 0=_;by_cases E:decide (o.pick.place<0)=true
    ·rw[if_pos E,if_pos E];unfold yP;rw[HW (by omega) (by rw[J o (Xac I)];exact O),ih];unfold Xv Jm;rw[Xi,I]
    ·rw[if_neg E,if_neg E,Int.add_zero];exact ih
def afD{l:List Visit}{k:Nat}{v:Visit}(h:l[k]?=some v):iY l v.order=true:=Xao.2 ⟨v,Xac h,by simp⟩
def Ge{x:Instance}{l:List Visit}(h:fK x l=0):(List.range l.length).any (BS l)=false/\zK x l=true:=by
 unfold fK at h
 repeat' split at h
 all_goals first|(exfalso;omega)|skip
 rename_i h1 I U E F O J;exact⟨by simpa using E,by simpa using F⟩
def NM{x:Instance}{l:List Visit}(h:fK x l=0){k:Nat}{v:Visit}(E:l[k]?=some v):bJ l v=k:=by have F:k<l.length:=(List.getElem?_eq_some_iff.1 E).1;have:=Xbb.1 (Ge h).1 k (Xar.2 F);unfold BS at this;rw[show l.getD k ⟨0,false⟩=v by simp[List.getD,E]]at this;simpa using this
def _root_.Go.Proofs.YtpagaknmdfgfkaaGreatDoor.Acc.board{x:Instance}(h:Acc x){l:List Visit}(X:fK x l=0){k:Nat}{v:Visit}{o:Order}(V:l[k]?=some v)(ho:x.orders[v.order.toNat]?=some o):stB l v.order (decide (o.pick.place<0)) k=v.drop:=by
 have hk:k<l.length:=(List.getElem?_eq_some_iff.1 V).1;have hO:=h.order o (Xac ho);have hp:=Xaj.1 (Ge X).2 v (Xac V);have aa:CW x v.order=cN o v.order:=by unfold CW;rw[ho]
 rw[aa]at hp;simp only[oG,Xay,Xag,decide_eq_false_iff_not]at hp;obtain⟨⟨ab,Z⟩,I⟩:=hp;have F:v∈cN o v.order:=by
  unfold bJ at ab;rcases wD (oT v) (cN o v.order)with⟨_,e⟩|⟨m,y,E,U,_,e⟩
  ·omega
  ·have:=Xac E
   rwa [zP.1 U]at this
 have J:∀w∈cN o v.order,0<=bJ l w:=fun w hw=>by
  have:=Xaj.1 (show gY l (cN o v.order)=true by simpa using Z) w hw;have:=adG l w;have h0:¬bJ l w<0:=by simpa using ‹(!decide (bJ l w<0))=true›
  omega
 rcases PI l v.order (decide (o.pick.place<0)) k (by omega)with⟨hn,Y⟩|⟨m,u,E,hu,ae,Y⟩
 ·rw[Y];cases O:v.drop with
  | false=>
   have:o.pick.place≠ -1:=by
    intro e;unfold cN at F;rw[e]at F;rcases Xba.1 F with E|E
    ·simp at E
    ·split at E
     ·have:v=⟨v.order,true⟩:=by simpa using E
      rw[this]at O;cases O
     ·cases E
   have:=hO.pick;simp;omega
  | true=>
   refine decide_eq_true (Decidable.byContradiction fun ad=>?_);have h1:(o.pick.place != -1)=true:=by simp;omega
   have h2:(o.drop.place != -1)=true:=by
    unfold cN at F;rcases Xba.1 F with E|E
    ·rw[if_pos h1]at E;have:v=⟨v.order,false⟩:=by simpa using E
     rw[this]at O;cases O
    ·split at E
     ·assumption
     ·cases E
   have e:cN o v.order=[⟨v.order,false⟩,⟨v.order,true⟩]:=by unfold cN;rw[if_pos h1,if_pos h2];rfl
   have ev:(⟨v.order,true⟩:Visit)=v:=by cases v;simp_all
   rw[e]at I J;have hi:=J ⟨v.order,false⟩ (by simp);have I:¬bJ l ⟨v.order,false⟩>bJ l ⟨v.order,true⟩:=by simpa using I
   rw[ev,NM X V]at I;unfold bJ at hi I;rcases wD (oT ⟨v.order,false⟩) l with⟨_,e⟩|⟨m,y,E,U,_,e⟩
   ·omega
   ·have U:=zP.1 U;subst U;have af:m≠k:=by rintro rfl;rw[V]at E;injection E with E;rw[E]at O;cases O
    exact hn ⟨v.order,false⟩ (List.mem_take_iff_getElem.2 ⟨m,by have:=(List.getElem?_eq_some_iff.1 E).1;omega,(List.getElem?_eq_some_iff.1 E).2⟩) rfl
 ·rw[Y];have:u≠v:=by rintro rfl;have h1:=NM X hu;have h2:=NM X V;omega
  cases O:v.drop <;> cases ac:u.drop <;> first|rfl|(exfalso;apply this;cases u;cases v;simp_all)
def WL{x:Instance}(h:Acc x){l:List Visit}(O:fK x l=0){j:Nat}(Y:j<(fT x).toNat):∀k,k<=l.length->(EM x l k).getD j 0=W (uD x.orders.length (wG x l k j))
 | 0,_=>by
  have J:=Eb O;have I:∀v∈l,AA v=false:=fun v E=>by have:=J v E;have:=h.orders;simp only[AA,Xag,decide_eq_false_iff_not];omega
  have hs:=MS h.loadB.load (s:=(cT l).1) Y 63;have e0:EM x l 0=(qO (cT l).1 63).foldl (qR x) (List.replicate (fT x).toNat 0):=rfl;rw[e0,hs];have hN:=h.orders;rw[show 63=x.orders.length+(63-x.orders.length)by omega,Lj (n:=x.orders.length) (fun i hi=>by
   have:pkN x i=false:=by unfold pkN;rw[List.getElem?_eq_none hi]
   show(if(dN _ _&&pkN x i)=true then _ else _)=_;rw[this,Bool.and_false,if_neg (by simp)])]
  congr 1
  refine Bn fun i hi=>?_
  obtain⟨o,F⟩:=aK hi;unfold wG onK pkN;rw[F,IK I (by omega) (by omega)];show(if(iY l i&&decide (o.pick.place<0))=true then _ else _)=if(decide (o.pick.place<0)&&iY l i)=true then _ else _
  rw[Bool.and_comm]
 | k+1,hk=>by
  obtain⟨v,E⟩:=aK (show k<l.length by omega);have J:=Eb O v (Xac E);obtain⟨o,F⟩:=aK (show v.order.toNat<x.orders.length by omega);have ih:=WL h O Y k (by omega);have X:=Ez h.loadB l k;have aa:=h.loadB.load o (Xac F);have hb:=h.board O E F;have Z:=afD E;have hn:((v.order.toNat:Nat):Int)=v.order:=by omega
  have t0:wG x l k j v.order.toNat=if v.drop=true then o.load.getD j 0 else 0:=by unfold wG onK Jm;rw[F,hn,Z];show(if(stB l v.order (decide (o.pick.place<0)) k&&true)=true then o.load.getD j 0 else 0)=_;rw[hb,Xbm]
  have t1:wG x l (k+1) j v.order.toNat=if v.drop=true then 0 else o.load.getD j 0:=by unfold wG onK Jm;rw[F,hn,Z];show(if(stB l v.order (decide (o.pick.place<0)) (k+1)&&true)=true then o.load.getD j 0 else 0)=_;rw[show stB l v.order (decide (o.pick.place<0)) (k+1)= !v.drop by rw[Bi E,if_neg (by simp)],Xbm];cases v.drop <;> rfl
  have ht:∀i,i<x.orders.length->i≠v.order.toNat->wG x l k j i=wG x l (k+1) j i:=fun i hi ab=>by
   obtain⟨U,V⟩:=aK hi;unfold wG onK;rw[V];show(if(stB l i (decide (U.pick.place<0)) k&&iY l i)=true then _ else _)=if(stB l i (decide (U.pick.place<0)) (k+1)&&iY l i)=true then _ else _
   rw[show stB l i (decide (U.pick.place<0)) (k+1)=stB l i (decide (U.pick.place<0)) k by rw[Bi E,if_pos (by simp;omega)]]
  rw[Mo (f:=wG x l k j) (g:=wG x l (k+1) j) (i0:=v.order.toNat) (by omega) ht,MO E,t0,t1];unfold Wh;rw[F];show(if v.drop=true then Dg (EM x l k) o.load else yP (EM x l k) o.load).getD j 0=_;cases hd:v.drop with
  | true=>rw[if_pos rfl,if_pos rfl,if_pos rfl];unfold Dg;rw[HW (by omega) (by omega),ih];unfold V8;rw[avW];congr 1;omega
  | false=>rw[if_neg (by simp),if_neg (by simp),if_neg (by simp)];unfold yP;rw[HW (by omega) (by omega),ih];unfold Xv;rw[Xi];congr 1;omega
def aoS{x:Instance}(h:Acc x)(l:List Visit)(n:Int):jR (kK x.orders l n x.orders.length) (fT x)=true:=by
 have I:=h.dims;unfold jR;rw[show decide (fT x<0)=false by simp;omega,show decide (fT x>3)=false by simp;omega];simp only[Bool.or_self,Xda,Xbc];rw[Xaj];intro a F;unfold kK at F;obtain⟨i,_,hi⟩:=List.mem_flatMap.1 F;cases E:x.orders[i]? with
 | none=>rw[E]at hi;cases hi
 | some o=>
  rw[E]at hi;have:=h.loadB.load o (Xac E);dsimp only at hi;split at hi
  ·have:a=o.load:=by simpa using hi
   subst this;simp;omega
  ·cases hi
def acA{a b:List Int}(h1:a.length=b.length)(h:∀j,j<a.length->a.getD j 0=b.getD j 0):a=b:=by
 refine List.ext_getElem h1 fun j E F=>?_
 have:=h j E;simpa[List.getD,List.getElem?_eq_getElem E,List.getElem?_eq_getElem F]using this
def MA{x:Instance}(h:Acc x){l:List Visit}(J:fK x l=0){k:Nat}(F:k<=l.length):nM x l k=(EM x l k,0):=by
 unfold nM wE;rw[if_pos (aoS h l k)]
 congr 1
 have I:=Ez h.loadB l k;refine acA (by simp[I]) fun j E=>?_
 have E:j<(fT x).toNat:=by simpa using E
 rw[WL h J E k F,<-Mj x l k j F _ (Xaf _)];simp[List.getD,E]
def _root_.Go.Proofs.YtpagaknmdfgfkaaGreatDoor.Acc.loads{x:Instance}(h:Acc x)(l:List Visit):pB x l=kH x l:=by
 unfold pB kH;rw[h.seq l];by_cases E:(fK x l != 0)=true
 ·rw[if_pos E,if_pos E]
 rw[if_neg E,if_neg E];have E:fK x l=0:=by simpa using E
 have F:Ac (OE x l)=0:=F5 fun e F=>by unfold OE at F;obtain⟨n,I,rfl⟩:=Xbe.1 F;rw[MA h E (by have:=Xar.1 I;omega)];rfl
 rw[if_neg (by rw[F];simp)]
 congr 1
 unfold yC IP;exact List.map_congr_left fun n I=>by rw[MA h E (by have:=Xar.1 I;omega)]
def _root_.Go.Proofs.YtpagaknmdfgfkaaGreatDoor.Acc.fits{x:Instance}(h:Acc x)(r:Route):zQ x r=An x r:=by unfold zQ An;rw[h.loads]
end Sq
namespace Sq
open Mv (bO bR aO)
def T0{x:Instance}{t:VType}{r:Route}(E:RouteB x t r){k:Nat}(V:k<=r.visits.length){l m I:Lab}{b:Bool}(bl:LabB l k)(O:LabB m k)(J:oW l m)(h:gH x t r k m b=.ok I):
  ∃l',gH x t r k l b=.ok l'/\oW l' I:=by
 have X:=E.short;by_cases F:k<r.visits.length
 ·obtain⟨v,U⟩:=aK F;have e:∀l,gH x t r k l b=pP x t (iF x t r k) (bI x v).1 k l b:=fun l=>by unfold gH;rw[U]
  rw[e]at h |-;exact Jc (by omega) E.go (E.stop v (Xac U)) bl O J h
 ·have e:∀l,gH x t r k l b=rS x t (iF x t r k) k l b:=fun l=>by unfold gH;rw[List.getElem?_eq_none (by omega)]
  rw[e]at h |-;exact Ie (by omega) E.go bl O J h
def okO(e:Except Int Lab):Option Lab:=match e with| .ok l=>some l| .error _=>none
def okL(es:List (Except Int Lab)):List Lab:=es.filterMap okO
def amM(a b:List (Except Int Lab)):okL (a++b)=okL a++okL b:=List.filterMap_append
def O9{es:List (Except Int Lab)}{l:Lab}:l∈okL es↔.ok l∈es:=by
 unfold okL;rw[List.mem_filterMap];constructor
 ·rintro⟨e,E,h⟩;cases e with
  | error e=>cases h
  | ok l'=>injection h with h;subst h;exact E
 ·intro h;exact⟨_,h,rfl⟩
def Of(fixed:List Bool):Nat->List (List Bool)
 | 0=>[[]]
 | k+1=>(Of fixed k).flatMap fun c=>(eU fixed k).map fun b=>c++[b]
def BH(fixed:List Bool):∀k,∀c∈Of fixed k,c.length=k
 | 0,c,h=>by have h:c∈[[]]:=h;simp at h;subst h;rfl
 | k+1,c,h=>by obtain⟨d,E,h⟩:=List.mem_flatMap.1 h;obtain⟨b,_,rfl⟩:=Xbe.1 h;simp[BH fixed k d E]
def wB(x:Instance)(t:VType)(r:Route)(k:Nat)(l:Lab):List (Except Int Lab):=(eU r.rests k).map fun b=>gH x t r k l b
def Ov(x:Instance)(t:VType)(r:Route)(L:List (List Bool)):List Lab:=okL (L.map fun c=>kR x t r c 0 (gI t r))
def Lo(x:Instance)(t:VType)(r:Route)(k:Nat):∀L:List (List Bool),(∀c∈L,c.length=k) ->
   Ov x t r (L.flatMap fun c=>(eU r.rests k).map fun b=>c++[b])=(Ov x t r L).flatMap fun l=>okL (wB x t r k l)
 | [],_=>rfl
 | c::L,h=>by
   have ih:=Lo x t r k L fun d F=>h d (by simp[F])
   have I:=h c (by simp);unfold Ov at ih |-;rw[List.flatMap_cons,Xal,amM,ih,Xbf];have e : okL (((eU r.rests k).map fun b => c ++ [b]).map fun c => kR x t r c 0 (gI t r)) = match kR x t r c 0 (gI t r) with
       | .error _=>[]
       | .ok l=>okL (wB x t r k l):=by
     rw[List.map_map];cases E:kR x t r c 0 (gI t r)with
     | error e=>
       dsimp only;refine List.filterMap_eq_nil_iff.2 fun a J=>?_
       obtain⟨b,_,rfl⟩:=Xbe.1 J;show okO (kR x t r (c++[b]) 0 (gI t r))=none;rw[qG,E];rfl
     | ok l=>
       dsimp only;unfold wB
       congr 1
       refine List.map_congr_left fun b _=>?_
       show kR x t r (c++[b]) 0 (gI t r)=_;rw[qG,E];show gH x t r (0+c.length) l b=_;rw[I,Xce]
   rw[e];cases E:kR x t r c 0 (gI t r)with
   | error e=>rfl
   | ok l=>rfl
inductive Cov:List Lab->List Lab->Prop
 | nil:Cov [] []
 | keep {f d:List Lab} (l:Lab):Cov f d->Cov (f++[l]) (d++[l])
 | skip {f d:List Lab} (l m:Lab):Cov f d->m∈d->oW m l->Cov (f++[l]) d
def Cov.sub{f d:List Lab}(h:Cov f d):∀m∈d,m∈f:=by
 induction h with
 | nil=>simp
 | keep l _ ih=>
  intro m E;rcases Xba.1 E with E|E
  ·exact Xby _ (ih m E)
  ·exact List.mem_append_right _ E
 | skip l m _ _ _ ih=>intro q F;exact Xby _ (ih q F)
def Cov.add{F D:List Lab}(h:Cov F D)(es:List (Except Int Lab)):Cov (F++okL es) (es.foldl wM D):=by
 induction es generalizing F D with
 | nil=>simpa[okL]using h
 | cons e es ih=>
  cases e with
  | error e=>exact ih h
  | ok l=>
   have O:F++okL (.ok l::es)=(F++[l])++okL es:=by rw[show okL (.ok l::es)=l::okL es from rfl,Xax];rfl
   rw[O,List.foldl_cons];refine ih ?_;show Cov (F++[l]) (if D.any (vF · l)=true then D else D++[l]);by_cases E:D.any (vF · l)=true
   ·rw[if_pos E];obtain⟨m,J,I⟩:=Xao.1 E;exact .skip l m h J (IY.1 I)
   ·rw[if_neg E];exact .keep l h
def Cov.skips{F D:List Lab}(h:Cov F D)(E:List Lab):(∀l∈E,∃m∈D,oW m l)->Cov (F++E) D:=by
 induction E generalizing F with
 | nil=>intro _;simpa using h
 | cons l E ih=>intro I;obtain⟨m,J,O⟩:=I l (by simp);rw[show F++l::E=(F++[l])++E by simp];exact ih (.skip l m h J O) fun q U=>I q (by simp[U])
def Cov.grow{x:Instance}{t:VType}{r:Route}(Z:RouteB x t r){k:Nat}(X:k<=r.visits.length){f d:List Lab}(h:Cov f d):
  (∀l∈f,LabB l k)->Cov (f.flatMap fun l=>okL (wB x t r k l)) (Bs x t r d k):=by
 induction h with
 | nil=>intro _;exact .nil
 | @keep f d l h ih=>
  intro F;have ih:=ih fun q E=>F q (Xby _ E)
  rw[Xcd,show[l].flatMap (fun l=>okL (wB x t r k l))=okL (wB x t r k l)by simp];have e:Bs x t r (d++[l]) k=(wB x t r k l).foldl wM (Bs x t r d k):=by unfold Bs;rw[Xcd,Xbn,show[l].flatMap (fun l=>(eU r.rests k).map fun b=>gH x t r k l b)=wB x t r k l by simp[wB]]
  rw[e];exact ih.add _
 | @skip f d l m h hm hb ih=>
  intro F;have ih:=ih fun q E=>F q (Xby _ E)
  rw[Xcd,show[l].flatMap (fun l=>okL (wB x t r k l))=okL (wB x t r k l)by simp];refine ih.skips _ fun q E=>?_
  obtain⟨b,O,U⟩:=Xbe.1 (O9.1 E);obtain⟨Y,h1,V⟩:=T0 Z X (F m (Xby _ (h.sub m hm))) (F l (by simp)) hb U;obtain⟨q',I,J⟩:=(Cd (d.flatMap fun l=>(eU r.rests k).map fun b=>gH x t r k l b) []).2.2 Y (List.mem_flatMap.2 ⟨m,hm,Xbe.2 ⟨b,O,h1⟩⟩);exact⟨q',I,J.trans V⟩
def WY{x:Instance}{t:VType}{r:Route}(E:RouteB x t r):∀k,k<=r.visits.length+1->Cov (Ov x t r (Of r.rests k)) (dpL x t r k)
 | 0,_=>Cov.keep (gI t r) Cov.nil
 | k+1,hk=>by
  have ih:=WY E k (by omega);show Cov (Ov x t r ((Of r.rests k).flatMap fun c=>(eU r.rests k).map fun b=>c++[b])) (Bs x t r (dpL x t r k) k);rw[Lo x t r k _ (BH r.rests k)];refine ih.grow E (by omega) fun l F=>?_
  obtain⟨c,I,J⟩:=Xbe.1 (O9.1 F);exact Pe E k c l (BH r.rests k c I) (by omega) J
def fmS(o:Option Lab)(m:Lab):Option Lab:=match o with|none=>some m|some b=>some (nG b m)
def fm(l:List Lab):Option Lab:=l.foldl fmS none
def XM(l:Lab)(E:List Lab):fm (l::E)=some (E.foldl nG l):=by
 show E.foldl fmS (some l)=_;induction E generalizing l with
 | nil=>rfl
 | cons a r ih=>exact ih (nG l a)
def Og(f:List Lab)(l:Lab):fm (f++[l])=fmS (fm f) l:=by unfold fm;rw[Xbn];rfl
def ajU(b m:Lab):(nG b m).sheet.end_<=b.sheet.end_/\(nG b m).sheet.end_<=m.sheet.end_:=by unfold nG;split <;> simp_all <;> omega
def P2:∀(F:List Lab) (b:Lab),(F.foldl nG b).sheet.end_<=b.sheet.end_/\∀m∈F,(F.foldl nG b).sheet.end_<=m.sheet.end_
 | [],b=>⟨Xbp _,by simp⟩
 | a::r,b=>by
  have ih:=P2 r (nG b a);have h:=ajU b a;refine⟨Int.le_trans ih.1 h.1,fun m E=>?_⟩;rcases Xbg.1 E with rfl|E
  ·exact Int.le_trans ih.1 h.2
  ·exact ih.2 m E
def auM{d:List Lab}{m:Lab}(E:m∈d):∃b,fm d=some b/\b.sheet.end_<=m.sheet.end_:=by
 cases d with
 | nil=>cases E
 | cons a r=>
  refine⟨_,XM a r,?_⟩;have h:=P2 r a;rcases Xbg.1 E with rfl|E
  ·exact h.1
  ·exact h.2 m E
def Cov.first{f d:List Lab}(h:Cov f d):(∀l∈f,l.sheet.end_=l.ready)->fm f=fm d:=by
 induction h with
 | nil=>intro _;rfl
 | keep l h ih=>intro E;rw[Og,Og,ih fun q F=>E q (Xby _ F)]
 | skip l m h hm hb ih=>intro E;rw[Og,ih fun q F=>E q (Xby _ F)];obtain⟨b,h1,J⟩:=auM hm;rw[h1];have I:=E l (by simp);have U:=E m (Xby _ (h.sub m hm));have O:=hb.1;show some (nG b l)=some b;unfold nG;rw[if_neg (by simp;omega)]
def Fq:∀(m:Nat) (p:List Bool),tF p (m+1)=(tF p m).flatMap fun c=>[c++[false],c++[true]]
 | 0,p=>rfl
 | m+1,p=>by show tF (p++[false]) (m+1)++tF (p++[true]) (m+1)=(tF (p++[false]) m++tF (p++[true]) m).flatMap _;rw[Fq m,Fq m,Xcd]
def IM(fixed:List Bool):∀k,k<=fixed.length->Of fixed k=[fixed.take k]
 | 0,_=>rfl
 | k+1,h=>by show(Of fixed k).flatMap _=_;rw[IM fixed k (by omega)];unfold eU;rw[if_pos (by omega)];simp only[List.flatMap_cons,List.flatMap_nil,Xak,Xbf,Xbv];rw[bA (List.getElem?_eq_getElem (by omega))];simp[List.getD,List.getElem?_eq_getElem (show k<fixed.length by omega)]
def aiY(fixed:List Bool):∀m,Of fixed (fixed.length+m)=tF fixed m
 | 0=>by rw[Nat.add_zero,IM fixed _ (Xaf _),Xad];rfl
 | m+1=>by show(Of fixed (fixed.length+m)).flatMap _=_;rw[aiY fixed m,Fq];unfold eU;rw[if_neg (show ¬fixed.length.add m<fixed.length from fun e=>absurd (show fixed.length+m<fixed.length from e) (by omega))];rfl
def YR(o:Option Lab)(b:Sheet×Bool):Prop:=match o with|none=>b=(aX,false)|some m=>b=(m.sheet,true)
def SR{x:Instance}{r:Route}{t:VType}(U:bW x r=true)(I:x.types[r.type.toNat]?=some t)(J:∀v∈r.visits,(bI x v).1.start<=(bI x v).1.close):
  ∀(L:List (List Bool)) (o:Option Lab) (b:Sheet×Bool),(∀c∈L,c.length=r.visits.length+1)->YR o b->YR ((Ov x t r L).foldl fmS o) (A6 x r L b)
 | [],o,b,_,h=>h
 | c::L,o,b,hl,h=>by
  have h0:=RX (bs:=c) U I (hl c (by simp)) J;have ih:=SR U I J L;show YR _ (A6 x r L (iI x r c b));have O:=fun d V=>hl d (List.mem_cons_of_mem c V)
  unfold Ov;rw[Xbf];cases F:kR x t r c 0 (gI t r)with
  | error e=>
   rw[F]at h0;have E:=Ea _ _ _ _ F;show YR ((Ov x t r L).foldl fmS o) _;have:iI x r c b=b:=by unfold iI;rw[if_neg];rw[h0.2];simp[E]
   rw[this];exact ih o b O h
  | ok m=>
   rw[F]at h0;show YR ((Ov x t r L).foldl fmS (fmS o m)) _;refine ih _ _ O ?_;unfold iI;rw[h0.1,h0.2];cases o with
   | none=>have h:b=(aX,false):=h;rw[h];rfl
   | some q=>have h:b=(q.sheet,true):=h;rw[h];show(if((0:Int) == 0&&(!true||decide (m.sheet.end_<q.sheet.end_)))=true then(m.sheet,true)else(q.sheet,true))=((nG q m).sheet,true);unfold nG;simp only[BEq.rfl,Xcb,Xbt,Xbc];split <;> rfl
def _root_.Go.Proofs.YtpagaknmdfgfkaaGreatDoor.Acc.best2{x:Instance}(h:Acc x)(r:Route):kO x r=lX x r:=by
 by_cases X:(!bW x r||decide ((r.rests.length:Int)>(r.visits.length:Int)+1))=true
 ·unfold kO lX;rw[if_pos X,if_pos (by simpa using X)]
 have ac:bW x r=true/\(r.rests.length:Int)<=(r.visits.length:Int)+1:=by simpa using X
 obtain⟨V,O⟩:=ac;have aa:∃t,x.types[r.type.toNat]?=some t:=by have:=sX V;exact aK (by omega)
 obtain⟨t,Y⟩:=aa;obtain⟨hB,hs⟩:=h.route V Y;have O:r.rests.length<=r.visits.length+1:=by omega
 have h2:=h.best r;have h0:=RX (bs:=cY r) V Y (oC O) hs;have hz:(fF x r (cY r)).2.2≠0->(fF x r (cY r)).1=aX:=by
  intro ad;cases U:kR x t r (cY r) 0 (gI t r)with
  | error e=>rw[U]at h0;exact h0.1
  | ok l=>rw[U]at h0;exact absurd h0.2 ad
 refine Prod.ext ?_ h2;rw[SB V O hz];unfold kO;rw[if_neg X,Y];show(D9 x t r).1=_;have J:tF r.rests (sD r)=Of r.rests (r.visits.length+1):=by rw[<-aiY];unfold sD;congr 1;omega
 have E:=SR V Y hs (tF r.rests (sD r)) none (aX,false) (fun c Z=>by rw[J]at Z;exact BH _ _ c Z) rfl;have I:=(WY hB (r.visits.length+1) (Xaf _)).first fun l hl=>by
  obtain⟨c,Z,F⟩:=Xbe.1 (O9.1 hl);obtain⟨cs,b,rfl,hm⟩:=Pg (BH r.rests _ c Z);rw[qG]at F;cases U:kR x t r cs 0 (gI t r)with
  | error e=>rw[U]at F;cases F
  | ok l'=>rw[U]at F;have F:gH x t r (0+cs.length) l' b=.ok l:=F;unfold gH at F;rw[List.getElem?_eq_none (by omega)]at F;obtain⟨_,_,_,rfl⟩:=Sx F;rfl
 rw[<-J]at I;have E:YR (fm (dpL x t r (r.visits.length+1))) (A6 x r (tF r.rests (sD r)) (aX,false)):=I▸E;unfold D9;rw[alJ x t r _ (Xaf _)];generalize ab:dpL x t r (r.visits.length+1)=d at E;cases d with
 | nil=>have E:A6 x r (tF r.rests (sD r)) (aX,false)=(aX,false):=E;rw[E];show Hw (B0 x t (fS x r.visits) (cY r) 0 (gI t r))=aX;rw[Xd x t r _ 0 _ (by rw[oC O];omega)];have hk:Iu r.rests (cY r):=(uG (by rw[oC O];omega)).2 ⟨_,rfl⟩;obtain⟨e,F⟩:=(VI hB).1 ab (cY r) (oC O) hk;rw[F];rfl
 | cons l ls=>rw[XM]at E;have E:A6 x r (tF r.rests (sD r)) (aX,false)=((ls.foldl nG l).sheet,true):=E;rw[E];rfl
def _root_.Go.Proofs.YtpagaknmdfgfkaaGreatDoor.Acc.eval{x:Instance}(h:Acc x)(r:Route):kM x r=pU x r:=by
 unfold kM pU;by_cases F:cK r.type x.types.length=true
 ·rw[if_pos F,if_pos F]
 rw[if_neg F,if_neg F];have I:∃t,x.types[r.type.toNat]?=some t:=by simp only[cK,Xch,Xag,decide_eq_false_iff_not]at F;exact aK (by omega)
 obtain⟨t,J⟩:=I;rw[J];show _=M9 x r t;unfold M9;rw[h.seq];by_cases E:(fK x r.visits != 0)=true
 ·rw[if_pos E,if_pos E]
 rw[if_neg E,if_neg E];have O:fK x r.visits=0:=by simpa using E
 have V:=h.type t (Xac J);have es:(r.visits.any fun v=> !Dx x r v)=r.visits.any fun v=> !uL x t v:=sT fun v Y=>by have X:=Eb O v Y;obtain⟨o,U⟩:=aK (show v.order.toNat<x.orders.length by omega);unfold Dx uL;rw[J,U];exact congrArg _ (Z3 V.skills (h.order o (Xac U)).skills)
 unfold C8;rw[es,h.fits,h.best2];by_cases h1:(r.visits.any fun v=> !uL x t v)=true
 ·rw[if_pos h1,if_pos (by simp),if_pos h1]
 rw[if_neg h1,if_neg (by simp),if_neg h1]
structure RouteL(r:Route):Prop where
 visits:r.visits.length<=1048576
 rests:r.rests.length<=1048576
end Sq
end Go.Proofs.YtpagaknmdfgfkaaGreatDoor
