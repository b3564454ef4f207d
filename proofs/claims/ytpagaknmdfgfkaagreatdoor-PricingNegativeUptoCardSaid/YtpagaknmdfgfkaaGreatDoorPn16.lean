import Derived.Test.YtpagaknmdfgfkaaGreatDoorPn12
set_option linter.unusedSimpArgs false
set_option linter.unusedVariables false
set_option linter.defProp false
set_option maxRecDepth 100000
namespace Go.Proofs.YtpagaknmdfgfkaaGreatDoor
open Go.Aw Go.Aw.D Go.Proofs Ty
namespace Sq
open Go.Proofs.Tryz
open Mv (bP bS aO)
def dT(l:Lab):List AV:=[int l.ready,int l.since,boo l.sheet.rest,int l.sheet.depart,.sl (l.sheet.times.map rS),int l.sheet.end_,int l.sheet.miles]
def mJ(l:Lab):(dT l).length=7:=(rfl)
def aeR(l:Lab):(dT l).getD 0 .any=int l.ready:=(rfl)
def ajK(l:Lab):(dT l).getD 1 .any=int l.since:=(rfl)
def adU(l:Lab):(dT l).getD 4 .any=.sl (l.sheet.times.map rS):=(rfl)
def ahT(l:Lab):(dT l).getD 5 .any=int l.sheet.end_:=(rfl)
def adK(l:Lab):((dT l).drop 2).take 5=bR l.sheet:=(rfl)
def VR(l:Lab):(dT l).take 7=dT l:=(rfl)
def dV(x:Instance)(t:VType)(r:Route)(st:List Stop):List AV:=aD x++(bF t++(bT r++[.sl (st.map eJ)]))
section
variable(x:Instance)(t:VType)(r:Route)(st:List Stop)
def Gq:(dV x t r st).length=25:=(rfl)
def abW:(dV x t r st).getD 8 .any=int t.src:=(rfl)
def aaN:(dV x t r st).getD 9 .any=int t.dst:=(rfl)
def UH:(dV x t r st).getD 12 .any=int t.profile:=(rfl)
def V9:(dV x t r st).getD 13 .any=int t.start:=(rfl)
def VZ:(dV x t r st).getD 14 .any=int t.close:=(rfl)
def UD:(dV x t r st).getD 15 .any=int t.drive:=(rfl)
def VY:(dV x t r st).getD 16 .any=int t.rest:=(rfl)
def VJ:(dV x t r st).getD 21 .any=int r.start:=(rfl)
def U6:(dV x t r st).getD 22 .any=.sl (r.rests.map dE):=(rfl)
def VP:(dV x t r st).getD 24 .any=.sl (st.map eJ):=(rfl)
def Te:(dV x t r st).take 2=bD x.net:=(rfl)
def RI:(dV x t r st).take 25=dV x t r st:=(rfl)
end
attribute [go_sem] mJ aeR ajK adU ahT adK VR Gq abW aaN UH V9 VZ UD VY VJ U6 VP Te RI
def D4:Lab:=⟨0,0,aX⟩
abbrev iG(cs:List AV):Row:=⟨329,7,[cs]⟩
def uC(t:VType)(st:List Stop)(k:Nat):Int:=match k with
 | 0=>t.src
 | j+1=>(st.getD j kW).place
def TU(x:Instance)(t:VType)(r:Route)(st:List Stop):PC prog 307 [.agg (dV x t r st)] (.agg (dT (gK t r))):=by
 refine pcd func307 rfl rfl ?_;simp only[go_sem];refine fI fun J E F (I:E J=some (iG (dT D4))) N=>?_
 simp only[go_sem];refine aI I (by simp) ?_;simp only[go_sem];exact .refl _
def aeC(x:Instance)(t:VType)(r:Route)(st:List Stop)(k:Nat)(J:k<=st.length)(O:st.length<=1048576):PC prog 369 [.agg (dV x t r st),int k] (int (uC t st k)):=by
 refine pcd func369 rfl rfl ?_;simp only[go_sem];apply aA <;> intro E
 ·have:k=0:=by simp at E;exact E
  subst this;simp only[go_sem];exact .refl _
 ·obtain⟨j,rfl⟩:∃j,k=j+1:=⟨k-1,by simp at E;omega⟩;obtain⟨s,F⟩:=aK (show j<st.length by omega);have w:IntKind.i64.wrap (((j+1:Nat):Int)-1)=(j:Int):=by rw[aU (by omega)];omega
  have I:=inB (show j<st.length by omega);simp only[go_sem,w,aC F,I];exact bP (by unfold uC;simp[List.getD,F])
def XX:∀l:List Tm,dM 4 (l.map rS)
 | []=>trivial
 | _::r=>⟨rfl,XX r⟩
def aiJ(l:List Tm)(X:l.length<=1048576):NC prog 368 [.sl (l.map rS)] (yW l) .os:=by
 refine ncb (fun t=>t == 2||t == 5) func368 rfl rfl ?_;simp only[go_sem];refine aN fun j T=>?_
 have R:=aB bQ j (some (yW []));generalize aM bQ j _=H at R |-;simp only[go_sem];refine⟨fun I=>?_,?_⟩
 ·refine aA (fun _=>?_) (fun E=>by simp at E);simp only[go_sem];refine aN fun i O=>?_
  simp only[go_sem];refine⟨i,rfl,?_⟩;rw[aB,List.map_eq_nil_iff.1 I];rfl
 ·refine aA (fun E=>by simp at E) (fun _=>?_);simp only[go_sem];refine aN fun i O=>?_
  simp only[go_sem];refine aY (aB _ _ _) ⟨rfl,rfl⟩ (XX _) (by simp;omega) (fun F J=>?_);simp only[go_sem];refine⟨F,rfl,?_⟩;exact aB _ _ _
def nD(x:Instance)(t:VType)(st:List Stop)(k:Nat)(l:Lab)(b:Bool):Except Int Lab:=match st[k]? with
 | some s=>pG x t (uC t st k) s k l b
 | none=>rR x t (uC t st k) k l b
def akW(e:Except Int Lab):Lab:=match e with| .ok l=>l| .error _=>D4
def wJ:Instance:=⟨⟨[],[]⟩,[],[],[],[]⟩
def Dz:VType:=⟨ByteArray.empty,0,0,0,[],0,0,0,0,0,0,0,0,0⟩
def Dt:Route:=⟨0,0,[],[]⟩
abbrev AB(cs:List AV):Row:=⟨325,25,[cs]⟩
def gB(x:Instance)(l:List Visit):List Stop:=l.map fun v=>(bI x v).1
def Dh(x:Instance)(r:Route):List AV×Bool:=if bW x r=true then match x.types[r.type.toNat]? with
 | some t=>(dV x t r (gB x r.visits),true)
 | none=>(dV wJ Dz Dt [],false)
 else(dV wJ Dz Dt [],false)
def GD(x:Instance)(t:VType)(r:Route)(j:Nat):List AV:=aD x++(bF t++(bT r++[.os j]))
def tk1{x:Instance}{l:List AV}:(aD x++l).take 6=aD x:=(rfl)
def dr1{x:Instance}{l:List AV}:(aD x++l).drop 20=l.drop 14:=(rfl)
def tk2{x:Instance}{t:VType}{l:List AV}:(aD x++bF t++l).take 20=aD x++bF t:=(rfl)
def dr2{x:Instance}{t:VType}{l:List AV}:(aD x++bF t++l).drop 24=l.drop 4:=(rfl)
abbrev EM(l:List Stop):Row:=⟨91,4,l.map eJ⟩
def afV(x:Instance)(t:VType)(r:Route)(j:Nat):(GD x t r j).getD 24 .any=.os j:=(rfl)
def aaP(x:Instance)(t:VType)(r:Route)(j:Nat):(GD x t r j).take 25=GD x t r j:=(rfl)
def abX(x:Instance)(t:VType)(r:Route)(j:Nat):(GD x t r j).length=25:=(rfl)
attribute [go_sem] afV aaP abX
def CB{H:aG}{l l':List AV}(h:ConvL H l l'):∀p:List AV,ConvL H (p++l) (p++l')
 | []=>h
 | a::p=>.cons a a _ _ (.refl a) (CB h p)
def ZT{H:aG}{x:Instance}{t:VType}{r:Route}{E:Nat}{st:List Stop}(R:H E=some (EM st)):ConvL H (GD x t r E) (dV x t r st):=
 CB (CB (CB (.cons _ _ _ _ (.row _ _ _ R (ConvE.refl _)) .nil) _) _) _
def acB{x:Instance}{v:Visit}(h:(bI x v).2=true):0<=(bI x v).1.place/\eQ x v=((bI x v).1,0):=by
 refine⟨?_,by unfold eQ;rw[if_pos h]⟩;unfold bI at h |-;split at h
 ·cases h
 ·rename_i E;rw[if_neg E];split at h
  ·rename_i o F;simpa using h
  ·cases h
def UP{x:Instance}{v:Visit}(h:(bI x v).2=false):((eQ x v).2 != 0)=true:=by unfold eQ;rw[if_neg (by rw[h];simp)];show((if cF v.order x.orders.length=true then(2:Int)else 19) != 0)=true;split <;> rfl
def asP(x:Instance)(r:Route)(hl:r.visits.length<=1048576):PC prog 306 [.agg (aD x),.agg (bT r)] (.tup [.agg (Dh x r).1,boo (Dh x r).2]):=by
 refine pcb (fun t=>t == 47) func306 rfl rfl ?_;simp only[go_sem];refine fI fun i4 al aw (E:al i4=some (AB (dV wJ Dz Dt []))) N=>?_
 simp only[go_sem];apply aA <;> intro h1
 ·have hp:bW x r=false:=by unfold bW;rw[show(cF r.type x.types.length||decide (r.start<0)||decide (r.start>4096)||decide ((r.visits.length:Int)>20))=true from h1];rfl
  have e:Dh x r=(dV wJ Dz Dt [],false):=by unfold Dh;rw[if_neg (by rw[hp];simp)]
  rw[e];simp only[go_sem];refine aI E (by simp) ?_;simp only[go_sem];exact .refl _
 have hp:bW x r=r.visits.all fun v=>(bI x v).2:=by unfold bW;rw[show(cF r.type x.types.length||decide (r.start<0)||decide (r.start>4096)||decide ((r.visits.length:Int)>20))=false from h1];rfl
 have ap:0<=r.type/\r.type<(x.types.length:Int):=by simp only[Xag,decide_eq_false_iff_not]at h1;omega
 have ay:r.visits.length<=20:=by simp only[Xag,decide_eq_false_iff_not]at h1;omega
 obtain⟨t,ht⟩:=aK (show r.type.toNat<x.types.length by omega);simp only[go_sem];refine mX [(0,true),(1,true),(2,true),(3,true),(4,true),(5,true),(6,true),(7,true),(8,true),(9,false),(10,false)] (by kernel_rfl) ?_;simp only[go_sem,aC ht,ap,Xae,tk1,dr1,tk2,dr2];refine fI fun i6 ae av (J:ae i6=some (AB (dV wJ Dz Dt []))) N=>?_
 replace E:=N E;obtain⟨F,E⟩:=E;simp only[go_sem];refine L5 24 91 4 ⟨rfl,by decide⟩ J ⟨by simp,rfl,Xaf _⟩ fun O ai=>?_
 have X:i6≠O:=bE J ai;have Z:i4≠O:=bE E ai;generalize hG:aM (aM ae O _) i6 _=HG;replace E:=kpR hG F Z E;have Rs:HG O=some (EM []):=by rw[<-hG,aJ _ _ _ _ X.symm,aB];rfl
 replace J:HG i6=some (AB (GD x t r O)):=by rw[<-hG,aB];rfl
 simp only[go_sem];refine⟨fun ρ H=>∃k:Nat,k<=r.visits.length/\ρ 2=.rp (aD x) 0/\ρ 4=.op i4 0 0/\ρ 6=.op i6 0 0/\ρ 49=.sl (r.visits.map aF)/\ρ 50=int r.visits.length/\ρ 51=int k/\H i4=some (AB (dV wJ Dz Dt []))/\(∃O,H i6=some (AB (GD x t r O))/\H O=some (EM (gB x (r.visits.take k))))/\∀v∈r.visits.take k,(bI x v).2=true,fun ρ _=>r.visits.length-aR (ρ 51),⟨0,Xaa _,rfl,rfl,rfl,rfl,rfl,by simp only[go_sem];rfl,E,⟨O,J,Rs⟩,by simp⟩,?_⟩;rintro ρ H ⟨k,hk,h2,h4,h6,ak,am,ag,E,⟨O,J,Rs⟩,hz⟩;have aa:O≠i6:=dQ Rs J (by rfl);have I:O≠i4:=dQ Rs E (by rfl);simp only[go_sem,am,ag];refine aA (fun T=>?_) (fun af=>?_)
 ·have T:=aV T;obtain⟨v,hv⟩:=aK T;have b1:=inB T;simp only[go_sem,ak,ag,aC hv,b1];refine aN fun i8 ao=>?_
  simp only[go_sem];refine cJ ao (by simp[dG]) fun an (R8:an i8=some (⟨112,2,[aF v]⟩)) N=>?_
  replace E:=(N E).2;replace J:=(N J).2;replace Rs:=(N Rs).2;simp only[go_sem,h2,R8,];refine aH (XT x v) ?_;simp only[go_sem];refine aN fun i9 aj=>?_
  simp only[go_sem];refine cJ aj (by simp[iC]) fun ad (R9:ad i9=some (As (eQ x v).1)) N=>?_
  replace E:=(N E).2;replace J:=(N J).2;replace Rs:=(N Rs).2;simp only[go_sem,R9,];cases ab:(bI x v).2 with
  | false=>
   have aq:=UP ab;refine aA (fun _=>?_) (fun hb=>by rw[aq]at hb;simp at hb);simp only[go_sem,h4];refine aI E (by simp) ?_;simp only[go_sem,h4];have e:Dh x r=(dV wJ Dz Dt [],false):=by unfold Dh;rw[if_neg (by rw[hp,AN hv ab];simp)]
   rw[e];exact .refl _
  | true=>
   obtain⟨ax,ar⟩:=acB ab;rw[ar]at R9 |-;refine aA (fun hb=>by simp at hb;omega) (fun _=>?_);simp only[go_sem,h6,J,R9];refine aY Rs ⟨rfl,rfl⟩ ⟨rfl,trivial⟩ (by simp[gB];omega) (fun j' ac=>?_);have Y:i6≠j':=bE J ac;have ah:i4≠j':=bE E ac;replace E:=dL (r':=⟨91,4,List.map eJ (gB x (r.visits.take k))++[eJ (bI x v).1]⟩) E I ac;replace J:=dL (r':=⟨91,4,List.map eJ (gB x (r.visits.take k))++[eJ (bI x v).1]⟩) J aa ac;have au:aM (aM ad O none) j' (some (⟨91,4,List.map eJ (gB x (r.visits.take k))++[eJ (bI x v).1]⟩:Row)) j'=some (EM (gB x (r.visits.take (k+1)))):=by rw[bA hv];unfold gB;rw[Xam];exact kZ (l':=[(bI x v).1]) rfl
   simp only[go_sem,h6,];refine dP arV J ⟨by simp,rfl,by simp⟩ ?_;simp only[go_sem,h2,h4,h6,ak,am,ag,aQ k];exact⟨⟨k+1,T,rfl,(aJ _ _ _ _ F).trans E,⟨j',rfl,(aJ _ _ _ _ Y.symm).trans au⟩,aO (p:=fun v=>(bI x v).2=true) hv ab hz⟩,msr T⟩
 ·have af:=aW hk af;subst af;rw[Xad]at hz Rs;simp only[go_sem,h4,h6,J];refine aI E ⟨by simp,rfl,Xaf _⟩ ?_;simp only[go_sem,h4];have e:Dh x r=(dV x t r (gB x r.visits),true):=by unfold Dh;rw[if_pos (by rw[hp];exact Xaj.2 hz),ht]
  rw[e];exact .tup [.agg (GD x t r O),boo true] _ (.cons _ _ _ _ (.agg _ _ (ZT ((aJ _ _ _ _ I).trans Rs))) (ConvL.refl _))
def kN(rdy sin:Int)(sd:Sheet)(j:Nat):List AV:=[int rdy,int sin,boo sd.rest,int sd.depart,.os j,int sd.end_,int sd.miles]
def WJ(a b s j):(kN a b s j).length=7:=(rfl)
def alR(a b s j):(kN a b s j).getD 0 .any=int a:=(rfl)
def adN(a b s j):(kN a b s j).getD 1 .any=int b:=(rfl)
def afA(a b s j):(kN a b s j).getD 4 .any=.os j:=(rfl)
def alM(a b s j):(kN a b s j).getD 6 .any=int s.miles:=(rfl)
def WB(a b s j):(kN a b s j).take 7=kN a b s j:=(rfl)
attribute [go_sem] WJ alR adN afA alM WB
def Qs{H:aG}{j:Nat}{l:Lab}(R:H j=some (yW l.sheet.times)):ConvL H (kN l.ready l.since l.sheet j) (dT l):=
 .cons _ _ _ _ (.refl _) (.cons _ _ _ _ (.refl _) (.cons _ _ _ _ (.refl _) (.cons _ _ _ _ (.refl _) (.cons _ _ _ _ (.row _ _ _ R (ConvE.refl _)) (ConvL.refl _)))))
def apQ{l:List Tm}{j:Nat}{E:Tm}(h:l[j]?=some E)(b:Bool):(l.map rS).set j (oN ((l.map rS).getD j []) 3 [boo b])=(l.set j ⟨E.arrive,E.begin_,E.depart,b⟩).map rS:=by rw[aC h,List.map_set];rfl
def awC{l:List Tm}{j:Nat}{E:Tm}(h:l[j]?=some E)(d:Int):(l.map rS).set j (oN ((l.map rS).getD j []) 2 [int d])=(l.set j ⟨E.arrive,E.begin_,d,E.rest⟩).map rS:=by rw[aC h,List.map_set];rfl
def agB(x:Instance)(t:VType)(r:Route)(st:List Stop)(l:Lab)(k:Nat)(b:Bool)(hn:NetOk x.net)(aq:st.length<=1048576)(hk:k<=st.length)(hl:l.sheet.times.length=k):
  PC prog 343 [.agg (dV x t r st),.agg (dT l),int k,boo b] (.tup [.agg (dT (akW (nD x t st k l b))),int (Fy (nD x t st k l b))]):=by
 refine pcd func343 rfl rfl ?_;simp only[go_sem];refine fI fun i8 am ar (T:am i8=some (iG (dT D4))) N=>?_
 simp only[go_sem];refine dK ?_;simp only[go_sem];refine bN (fun Z H'=>Z 2=int k/\Z 3=boo b/\Z 4=.rp (dV x t r st) 0/\Z 5=.rp (dT l) 0/\Z 8=.op i8 0 0/\Z 10=int (iA t l b)/\Z 11=int (nO l b)/\H' i8=some (iG (dT D4))) ?_ fun K hK=>aA (fun hb=>?_) (fun hb=>?_)
 rotate_left
 ·simp only[go_sem];exact hK _ _ ⟨rfl,rfl,rfl,rfl,rfl,by simp only[go_sem];unfold iA;rw[if_pos hb];rfl,by simp only[go_sem];unfold nO;rw[if_pos hb],T⟩
 ·simp only[go_sem];exact hK _ _ ⟨rfl,rfl,rfl,rfl,rfl,by simp only[go_sem];unfold iA;rw[if_neg (by rw[hb];simp)],by simp only[go_sem];unfold nO;rw[if_neg (by rw[hb];simp)],T⟩
 rintro ρ H ⟨h2,h3,h4,h5,h8,ad,ae,T⟩;simp only[go_sem,h5,];refine aN fun O ai=>?_
 simp only[go_sem];refine cJ ai (by simp[iP]) fun af (I:af O=some (iG ([int 0,int 0]++bR l.sheet))) N=>?_
 replace T:=N T;obtain⟨F,T⟩:=T;simp only[go_sem,h5,];refine NC.use (aiJ l.sheet.times (by omega)) fun jt ao=>?_
 have X:i8≠jt:=bE T ao;have E:O≠jt:=bE I ao;generalize hG:aM af jt _=HG;replace T:=(congrFun hG.symm i8).trans ((aJ _ _ _ _ X).trans T);replace I:=(congrFun hG.symm O).trans ((aJ _ _ _ _ E).trans I);have Y:HG jt=some (yW l.sheet.times):=by rw[<-hG,aB]
 simp only[go_sem];refine dP WX I ⟨by simp,rfl,by simp⟩ ?_;generalize J:aM _ O _=HP;replace T:=kpA J (by first|exact F|exact ne_i12_i8.symm) T;replace Y:=kpA J (by first|exact ne_jt_i12|exact E.symm) Y;replace I:HP O=some (iG (kN 0 0 l.sheet jt)):=upS J;simp only[go_sem,h2,];refine bN (fun Z H'=>Z 2=int k/\Z 4=.rp (dV x t r st) 0/\Z 8=.op i8 0 0/\Z 10=int (iA t l b)/\Z 11=int (nO l b)/\Z 12=.op O 0 0/\H' i8=some (iG (dT D4))/\H' O=some (iG (kN 0 0 (cZ l.sheet k b (iA t l b)) jt))/\H' jt=some (yW (cZ l.sheet k b (iA t l b)).times)) ?_ fun K hK=>aA (fun hb=>?_) (fun hb=>?_)
 rotate_left
 ·have h0:k=0:=by simp at hb;exact hb
  subst h0;simp only[go_sem,h3,];refine dP so4 I ⟨by simp,rfl,by simp⟩ ?_;generalize J:aM _ O _=HP;replace T:=kpA J (by first|exact F|exact ne_i12_i8.symm) T;replace Y:=kpA J (by first|exact ne_jt_i12|exact E.symm) Y;replace I:HP O=some (iG (kN 0 0 { l.sheet with rest:=b } jt)):=upS J;simp only[go_sem,ad,];refine dP so3 I ⟨by simp,rfl,by simp⟩ ?_;generalize J:aM _ O _=HP;replace T:=kpA J (by first|exact F|exact ne_i12_i8.symm) T;replace Y:=kpA J (by first|exact ne_jt_i12|exact E.symm) Y;replace I:HP O=some (iG (kN 0 0 { l.sheet with rest:=b,depart:=iA t l b } jt)):=upS J;simp only[go_sem];exact hK _ _ ⟨h2,h4,h8,ad,ae,rfl,T,I,Y⟩
 ·obtain⟨j,rfl⟩:∃j,k=j+1:=⟨k-1,by simp at hb;omega⟩;have w:IntKind.i64.wrap (((j+1:Nat):Int)-1)=(j:Int):=by rw[aU (by omega)];omega
  obtain⟨tm,al⟩:=aK (show j<l.sheet.times.length by omega);have b1:=inB (show j<l.sheet.times.length by omega);have eg:l.sheet.times.getD j Gh=tm:=by simp[List.getD,al]
  simp only[go_sem,h2,h3,I,Y,w];refine⟨⟨b1.1,b1.2⟩,dP so4 Y ⟨by simpa using b1.2,rfl,by simp⟩ ?_⟩;generalize J:aM _ jt _=HP;replace T:=kpA J (by first|exact X|exact ne_jt_i8.symm) T;replace I:=kpA J (by first|exact E|exact ne_jt_i12.symm) I;replace Y:HP jt=some (yW (l.sheet.times.set j ⟨tm.arrive,tm.begin_,tm.depart,b⟩)):=by rw[<-J,aB];exact congrArg (fun es=>some (⟨375,4,es⟩:Row)) (apQ al b)
  simp only[go_sem,h2,ad,w,Y,I];have an:(l.sheet.times.set j ⟨tm.arrive,tm.begin_,tm.depart,b⟩)[j]?=some ⟨tm.arrive,tm.begin_,tm.depart,b⟩:=by rw[List.getElem?_set_self (by omega)]
  refine⟨⟨b1.1,by rw[Xcb];exact b1.2⟩,dP so3 Y ⟨by simpa using b1.2,rfl,by simp⟩ ?_⟩;generalize J:aM _ jt _=HP;replace T:=kpA J (by first|exact X|exact ne_jt_i8.symm) T;replace I:=kpA J (by first|exact E|exact ne_jt_i12.symm) I;replace Y:HP jt=some (yW ((l.sheet.times.set j ⟨tm.arrive,tm.begin_,tm.depart,b⟩).set j ⟨tm.arrive,tm.begin_,iA t l b,b⟩)):=by rw[<-J,aB];exact congrArg (fun es=>some (⟨375,4,es⟩:Row)) (awC an _)
  simp only[go_sem];refine hK _ _ ⟨h2,h4,h8,ad,ae,rfl,T,I,?_⟩;rw[Y,List.set_set];simp only[cZ,eg]
 rintro ρ H ⟨h2,h4,h8,ad,ae,aa,T,I,Y⟩;generalize hD:iA t l b=D at *;have J:=aeC x t r st k hk aq;rcases Xay k st.length with ak|ap
 ·obtain⟨s,hs⟩:=aK ak;have b1:=inB ak;have ah:((k:Int) == (st.length:Int))=false:=by simp;omega
  have eS:nD x t st k l b=pG x t (uC t st k) s k l b:=by unfold nD;rw[hs]
  rw[eS];unfold pG mP iY goL;simp only[hD];generalize hg:fO x.net t.profile (uC t st k) s.place D=g;simp only[go_sem,h2,h4,ah];refine aA (fun _=>?_) (fun hb=>by simp at hb);simp only[go_sem,h2,h4,aC hs,b1];refine dK ?_;simp only[go_sem,h2,h4,];refine⟨_,J.q rfl,?_⟩;simp only[go_sem,ad,];refine⟨_,(alF x.net t.profile (uC t st k) s.place D hn).q rfl,?_⟩;rw[hg];simp only[go_sem];apply aA <;> intro he
  ·simp only[go_sem,h8];refine aI T (by simp) ?_;simp only[go_sem,h8];rw[if_pos he];exact .refl _
  rw[if_neg (by rw[he];simp)];simp only[go_sem,aa,I];refine dP so3 I ⟨by simp,rfl,by simp⟩ ?_;generalize J:aM _ O _=HP;replace T:=kpA J (by first|exact F|exact ne_i12_i8.symm) T;replace Y:=kpA J (by first|exact ne_jt_i12|exact E.symm) Y;replace I:HP O=some (iG (kN 0 0 { cZ l.sheet k b D with miles:=W ((cZ l.sheet k b D).miles+g.2.1) } jt)):=upS J;simp only[go_sem,ad,ae,aa,];refine dP so3 I ⟨by simp,rfl,by simp⟩ ?_;generalize J:aM _ O _=HP;replace T:=kpA J (by first|exact F|exact ne_i12_i8.symm) T;replace Y:=kpA J (by first|exact ne_jt_i12|exact E.symm) Y;replace I:HP O=some (iG (kN 0 (W (W (nO l b+g.1)-D)) { cZ l.sheet k b D with miles:=W ((cZ l.sheet k b D).miles+g.2.1) } jt)):=upS J;simp only[go_sem];refine aA (fun hb=>by simp at hb) (fun _=>?_);simp only[go_sem,h2,h4,aC hs,b1];refine aH (Xg s g.1) ?_;simp only[go_sem];by_cases hw:eN g.1 s.start>s.close
  ·rw[if_pos hw,if_pos hw,if_pos hw];refine aA (fun _=>?_) (fun hb=>by simp at hb);simp only[go_sem,h8];refine aI T (by simp) ?_;simp only[go_sem,h8];exact .refl _
  rw[if_neg hw,if_neg hw,if_neg hw];refine aA (fun hb=>by simp at hb) (fun _=>?_);simp only[go_sem,h2,h4,aa,aC hs,b1];refine dP so3 I ⟨by simp,rfl,by simp⟩ ?_;generalize J:aM _ O _=HP;replace T:=kpA J (by first|exact F|exact ne_i12_i8.symm) T;replace Y:=kpA J (by first|exact ne_jt_i12|exact E.symm) Y;replace I:HP O=some (iG (kN (W (eN g.1 s.start+s.service)) (W (W (nO l b+g.1)-D)) { cZ l.sheet k b D with miles:=W ((cZ l.sheet k b D).miles+g.2.1) } jt)):=upS J;simp only[go_sem,aa,I,];refine aY Y ⟨rfl,rfl⟩ ⟨rfl,trivial⟩ (by simp[(oI l.sheet k b D).2.2];omega) (fun j' ag=>?_);have ac:i8≠j':=bE T ag;have ab:O≠j':=bE I ag;generalize J:aM (aM _ jt none) j' _=HP;replace T:=kpB J ac (by first|exact X|exact ne_jt_i8.symm) T;replace I:=kpB J ab (by first|exact E|exact ne_jt_i12.symm) I;have aj:HP j'=some (yW ((cZ l.sheet k b D).times++[⟨g.1,eN g.1 s.start,0,false⟩])):=by rw[<-J,aB];(show some (⟨375,4,_⟩:Row)=some ⟨375,4,_⟩;rw[Xam];rfl)
  simp only[go_sem,aa,];refine dP WX I ⟨by simp,rfl,by simp⟩ ?_;generalize J:aM _ O _=HP;replace T:=kpA J (by first|exact F|exact ne_i12_i8.symm) T;replace aj:=kpA J (by first|exact ne_j'_i12|exact ab.symm) aj;replace I:HP O=some (iG (kN (W (eN g.1 s.start+s.service)) (W (W (nO l b+g.1)-D)) { cZ l.sheet k b D with miles:=W ((cZ l.sheet k b D).miles+g.2.1),times:=(cZ l.sheet k b D).times++[⟨g.1,eN g.1 s.start,0,false⟩] } j')):=upS J;simp only[go_sem,h4,aa,I,];apply aA <;> intro hd
  ·rw[if_pos (by simpa using hd)];simp only[go_sem,h8];refine aI T (by simp) ?_;simp only[go_sem,h8];exact .refl _
  ·rw[if_neg (by simpa using hd)];simp only[go_sem,h8,aa,I];refine aI T ⟨by simp,rfl,Xaf _⟩ ?_;simp only[go_sem,h8];have hm:=(oI l.sheet k b D).1;have:=fun H=>Qs (H:=H) (j:=j') (l:=⟨W (eN g.1 s.start+s.service),W (W (nO l b+g.1)-D),{ cZ l.sheet k b D with miles:=W ((cZ l.sheet k b D).miles+g.2.1),times:=(cZ l.sheet k b D).times++[⟨g.1,eN g.1 s.start,0,false⟩] }⟩)
   simp only[hm]at this |-;exact .tup [.agg (kN _ _ _ j'),int 0] _ (.cons _ _ _ _ (.agg _ _ (this _ ((aJ _ _ _ _ ac.symm).trans aj))) (ConvL.refl _))
 ·have au:k=st.length:=by omega
  have ah:((k:Int) == (st.length:Int))=true:=by simp;omega
  have eS:nD x t st k l b=rR x t (uC t st k) k l b:=by unfold nD;rw[List.getElem?_eq_none ap]
  rw[eS];unfold rR mP JD goL;simp only[hD];generalize hg:fO x.net t.profile (uC t st k) t.dst D=g;simp only[go_sem,h2,h4,ah];refine aA (fun hb=>by simp at hb) (fun _=>?_);simp only[go_sem];refine dK ?_;simp only[go_sem,h2,h4,];refine⟨_,J.q rfl,?_⟩;simp only[go_sem,ad,];refine⟨_,(alF x.net t.profile (uC t st k) t.dst D hn).q rfl,?_⟩;rw[hg];simp only[go_sem];apply aA <;> intro he
  ·simp only[go_sem,h8];refine aI T (by simp) ?_;simp only[go_sem,h8];rw[if_pos he];exact .refl _
  rw[if_neg (by rw[he];simp)];simp only[go_sem,aa,I];refine dP so3 I ⟨by simp,rfl,by simp⟩ ?_;generalize J:aM _ O _=HP;replace T:=kpA J (by first|exact F|exact ne_i12_i8.symm) T;replace Y:=kpA J (by first|exact ne_jt_i12|exact E.symm) Y;replace I:HP O=some (iG (kN 0 0 { cZ l.sheet k b D with miles:=W ((cZ l.sheet k b D).miles+g.2.1) } jt)):=upS J;simp only[go_sem,ad,ae,aa,];refine dP so3 I ⟨by simp,rfl,by simp⟩ ?_;generalize J:aM _ O _=HP;replace T:=kpA J (by first|exact F|exact ne_i12_i8.symm) T;replace Y:=kpA J (by first|exact ne_jt_i12|exact E.symm) Y;replace I:HP O=some (iG (kN 0 (W (W (nO l b+g.1)-D)) { cZ l.sheet k b D with miles:=W ((cZ l.sheet k b D).miles+g.2.1) } jt)):=upS J;simp only[go_sem];refine aA (fun _=>?_) (fun hb=>by simp at hb);simp only[go_sem,h4,];apply aA <;> intro hw
  ·rw[if_pos (by simpa using hw)];simp only[go_sem,h8];refine aI T (by simp) ?_;simp only[go_sem,h8];exact .refl _
  rw[if_neg (by simpa using hw)];simp only[go_sem,aa];refine dP so3 I ⟨by simp,rfl,by simp⟩ ?_;generalize J:aM _ O _=HP;replace T:=kpA J (by first|exact F|exact ne_i12_i8.symm) T;replace Y:=kpA J (by first|exact ne_jt_i12|exact E.symm) Y;replace I:HP O=some (iG (kN 0 (W (W (nO l b+g.1)-D)) { cZ l.sheet k b D with miles:=W ((cZ l.sheet k b D).miles+g.2.1),end_:=g.1 } jt)):=upS J;simp only[go_sem,aa,];refine dP so3 I ⟨by simp,rfl,by simp⟩ ?_;generalize J:aM _ O _=HP;replace T:=kpA J (by first|exact F|exact ne_i12_i8.symm) T;replace Y:=kpA J (by first|exact ne_jt_i12|exact E.symm) Y;replace I:HP O=some (iG (kN g.1 (W (W (nO l b+g.1)-D)) { cZ l.sheet k b D with miles:=W ((cZ l.sheet k b D).miles+g.2.1),end_:=g.1 } jt)):=upS J;simp only[go_sem,h4,aa,I,];apply aA <;> intro hd
  ·rw[if_pos (by simpa using hd)];simp only[go_sem,h8];refine aI T (by simp) ?_;simp only[go_sem,h8];exact .refl _
  ·rw[if_neg (by simpa using hd)];simp only[go_sem,h8,aa,I];refine aI T ⟨by simp,rfl,Xaf _⟩ ?_;simp only[go_sem,h8];have hm:=(oI l.sheet k b D).1;have:=fun H=>Qs (H:=H) (j:=jt) (l:=⟨g.1,W (W (nO l b+g.1)-D),{ cZ l.sheet k b D with miles:=W ((cZ l.sheet k b D).miles+g.2.1),end_:=g.1 }⟩)
   simp only[hm]at this |-;exact .tup [.agg (kN _ _ _ jt),int 0] _ (.cons _ _ _ _ (.agg _ _ (this _ ((aJ _ _ _ _ X.symm).trans Y))) (ConvL.refl _))
end Sq
namespace Sq
open Go.Proofs.Tryz
open Mv (bP bS aO)
def Bs(x:Instance)(t:VType)(st:List Stop):List Bool->Nat->Lab->Except Int Lab
 | [],_,l=>.ok l
 | b::bs,k,l=>match nD x t st k l b with
   | .error e=>.error e
   | .ok l'=>Bs x t st bs (k+1) l'
def HY(e:Except Int Lab):Sheet:=match e with| .ok l=>l.sheet| .error _=>aX
def Ny{x:Instance}{t:VType}{st:List Stop}{k:Nat}{l:Lab}{b:Bool}{e:Int}(h:nD x t st k l b=.error e):e≠0:=by
 unfold nD at h;split at h
 ·exact Mg h
 ·exact Lp h
def Gz{x:Instance}{t:VType}{st:List Stop}{k:Nat}{l l':Lab}{b:Bool}(E:k<st.length)(F:l.sheet.times.length=k)(h:nD x t st k l b=.ok l'):l'.sheet.times.length=k+1:=by
 unfold nD at h;rw[List.getElem?_eq_getElem E]at h;simp only at h;unfold pG at h;split at h
 ·cases h
 ·split at h
  ·cases h
  ·split at h
   ·cases h
   ·injection h with h;subst h;simp[iY,(oI _ _ _ _).2.2,F]
def auP(x:Instance)(t:VType)(r:Route)(st:List Stop)(bs:List Bool)(hn:NetOk x.net)(ag:st.length<=1048575)(hb:bs.length<=st.length+1):
  PC prog 309 [.agg (dV x t r st),.sl (bs.map dE)] (.tup [.agg (bR (HY (Bs x t st bs 0 (gK t r)))),int (Fy (Bs x t st bs 0 (gK t r)))]):=by
 refine pcd func309 rfl rfl ?_;simp only[go_sem];refine fI fun i4 aa af (F:aa i4=some (dA (bR aX))) N=>?_
 simp only[go_sem];refine aH (TU x t r st) ?_;simp only[go_sem];refine aN fun i6 Y=>?_
 simp only[go_sem];refine cJ Y (by simp[mJ]) fun HGi6 (J:HGi6 i6=some (iG (dT (gK t r)))) N=>?_
 replace F:=N F;obtain⟨I,F⟩:=F;simp only[go_sem];refine⟨fun ρ H=>∃(k:Nat) (l:Lab),k<=bs.length/\ρ 2=.rp (dV x t r st) 0/\ρ 4=.op i4 0 0/\ρ 6=.op i6 0 0/\ρ 13=.sl (bs.map dE)/\ρ 14=int bs.length/\ρ 15=int k/\H i4=some (dA (bR aX))/\H i6=some (iG (dT l))/\(k<=st.length->l.sheet.times.length=k)/\Bs x t st bs 0 (gK t r)=Bs x t st (bs.drop k) k l,fun ρ _=>bs.length-aR (ρ 15),
  ⟨0,gK t r,Xaa _,rfl,rfl,rfl,rfl,rfl,by simp only[go_sem];rfl,F,J,fun _=>rfl,rfl⟩,?_⟩
 rintro ρ H ⟨k,l,hk,h2,h4,h6,ad,ac,T,F,J,hl,X⟩;simp only[go_sem,ac,T];refine aA (fun E=>?_) (fun O=>?_)
 ·have E:=aV E;obtain⟨b,ab⟩:=aK E;have b1:=inB E;rw[Qt ab,Bs]at X;simp only[go_sem,h2,h6,ad,T,aC ab,b1,dE,J];refine aH (agB x t r st l k b hn (by omega) (by omega) (hl (by omega))) ?_;simp only[go_sem];refine aN fun i9 Z=>?_
  simp only[go_sem];refine cJ Z (by simp[mJ]) fun HGi9 (R9:HGi9 i9=some (iG (dT (akW (nD x t st k l b))))) N=>?_
  replace F:=(N F).2;replace J:=(N J).2;simp only[go_sem];cases hs:nD x t st k l b with
  | error e=>rw[hs]at X;have ae:=Ny hs;refine aA (fun _=>?_) (fun hb=>by simp[Fy]at hb;exact absurd hb ae);simp only[go_sem,h4];refine aI F (by simp) ?_;simp only[go_sem,h4];rw[X];exact .refl _
  | ok l'=>rw[hs]at X R9;refine aA (fun hb=>by simp[Fy]at hb) (fun _=>?_);simp only[go_sem,h6,R9];refine aI J (by simp[mJ]) ?_;generalize hP:aM _ i6 _=HP;replace F:=kpA hP (by first|exact I|exact ne_i6_i4.symm) F;replace J:HP i6=some (iG (dT l')):=upS hP;simp only[go_sem,h2,h4,h6,ad,ac,T,aQ k,J,F];exact⟨⟨k+1,l',E,rfl,rfl,fun ah=>Gz (by omega) (hl (by omega)) hs,X⟩,msr E⟩
 ·have O:=aW hk O;subst O;rw[Xcj,Bs]at X;simp only[go_sem,h4,h6,J];refine aI F (by simp[iP]) ?_;simp only[go_sem,h4];rw[X];exact .refl _
def aqP(l m:Lab):PC prog 346 [.agg (dT l),.agg (dT m)] (boo (wC l m)):=by refine pcd func346 rfl rfl ?_;simp only[go_sem];exact .refl _
def aoK(l m:Lab):PC prog 345 [.agg (dT l),.rp (dT m) 0] (boo (wC l m)):=by refine pcd func345 rfl rfl ?_;simp only[go_sem];refine aH (aqP l m) ?_;simp only[go_sem];exact .refl _
def OR{g:Nat}{cap:List AV}{p:Lab->Bool}(l:List Lab)(hl:l.length<=4000000000000000000)(T:aE prog g=true)(hg:∀v∈l,PC prog g (.agg (dT v)::cap) (boo (p v))):
  PC prog 370 [.sl (l.map dT),.fn g cap] (int (pC p l 0)):=by
 refine pcd func370 rfl rfl ?_;simp only[go_sem];refine⟨fun ρ _=>∃k:Nat,k<=l.length/\ρ 0=.sl (l.map dT)/\ρ 1=.fn g cap/\ρ 7=int l.length/\ρ 8=int k/\∀u∈l.take k,p u=false,fun ρ _=>l.length-aR (ρ 8),⟨0,Xaa _,rfl,rfl,rfl,rfl,by simp⟩,?_⟩;rintro ρ H ⟨k,Z,h0,h1,X,O,I⟩;simp only[go_sem,X,O];refine aA (fun E=>?_) (fun F=>?_)
 ·have E:=aV E;obtain⟨u,J⟩:=aK E;have b1:=inB E;simp only[go_sem,h0,h1,O,aC J,b1,T];refine aH (hg u (Xac J)) ?_;simp only[go_sem];apply aA <;> intro Y
  ·simp only[go_sem];exact bP (by rw[lR I J Y];omega)
  ·simp only[go_sem,h0,h1,X,O,aQ k];exact⟨⟨k+1,E,rfl,aO (p:=fun u=>p u=false) J Y I⟩,msr E⟩
 ·have F:=aW Z F;subst F;rw[Xad]at I;simp only[go_sem];exact bP (by rw[kP I])
def Hs{g:Nat}{cap:List AV}{p:Lab->Bool}(l:List Lab)(I:l.length<=4000000000000000000)(E:aE prog g=true)(F:∀v∈l,PC prog g (.agg (dT v)::cap) (boo (p v))):
  PC prog 344 [.sl (l.map dT),.fn g cap] (boo (l.any p)):=by
 refine pcd func344 rfl rfl ?_;simp only[go_sem];refine aH (OR l I E F) ?_;simp only[go_sem];exact bS (rD l 0 (Xbq _))
def qK(x:Instance)(t:VType)(st:List Stop)(k:Nat)(out:List Lab)(l:Lab)(bs:List Bool):List Lab:=(bs.map fun b=>nD x t st k l b).foldl wR out
def Jn(x:Instance)(t:VType)(r:Route)(st:List Stop)(ls:List Lab)(k:Nat):List Lab:=ls.foldl (fun out l=>qK x t st k out l (eK r.rests k)) []
def aiT(out:List Lab)(e:Except Int Lab):(wR out e).length<=out.length+1:=by
 unfold wR;split
 ·omega
 ·split
  ·omega
  ·simp
def GQ(f:List Bool)(k:Nat):(eK f k).length<=2:=by unfold eK;split <;> simp
def FV(x:Instance)(t:VType)(st:List Stop)(k:Nat)(l:Lab):∀(bs:List Bool) (out:List Lab),(qK x t st k out l bs).length<=out.length+bs.length
 | [],out=>by simp[qK]
 | b::bs,out=>by have:=FV x t st k l bs (wR out (nD x t st k l b));have E:=aiT out (nD x t st k l b);simp only[qK,Xba,Xbv,Xai]at this |-;omega
def FX(x:Instance)(t:VType)(r:Route)(st:List Stop)(k:Nat):∀(E:List Lab) (out:List Lab),(E.foldl (fun out l=>qK x t st k out l (eK r.rests k)) out).length<=out.length+2*E.length
 | [],out=>by simp
 | l::E,out=>by have:=FX x t r st k E (qK x t st k out l (eK r.rests k));have I:=FV x t st k l (eK r.rests k) out;have F:=GQ r.rests k;simp only[Xbv,Xai]at this |-;omega
abbrev XE(l:List Lab):Row:=⟨329,7,l.map dT⟩
def Kf:∀l:List Lab,dM 7 (l.map dT)
 | []=>trivial
 | _::r=>⟨rfl,Kf r⟩
def I6:∀l:List Bool,dM 1 (l.map dE)
 | []=>trivial
 | _::r=>⟨rfl,I6 r⟩
def WE{x:Instance}{t:VType}{st:List Stop}{k m:Nat}{out:List Lab}{l:Lab}{bs:List Bool}{b:Bool}(h:bs[m]?=some b):qK x t st k out l (bs.take (m+1))=wR (qK x t st k out l (bs.take m)) (nD x t st k l b):=by unfold qK;rw[bA h,Xam,Xbm];rfl
def atZ(x:Instance)(t:VType)(r:Route)(st:List Stop)(O:List Lab)(k:Nat)(hn:NetOk x.net)(a5:st.length<=1048575)(hk:k<=st.length)(az:O.length<=4194304)(hl:∀l∈O,l.sheet.times.length=k):
  PC prog 308 [.agg (dV x t r st),.sl (O.map dT),int k] (.sl ((Jn x t r st O k).map dT)):=by
 refine pcb (fun t=>t == 8) func308 rfl rfl ?_;simp only[go_sem];refine bN (fun ae H'=>ae 1=.sl (O.map dT)/\ae 2=int k/\ae 3=.rp (dV x t r st) 0/\ae 7=.sl ((eK r.rests k).map dE)) ?_ fun K hK=>aA (fun J=>?_) (fun J=>?_)
 rotate_left
 ·have J:k<r.rests.length:=by simp at J;omega
  simp only[go_sem,aQ k];refine⟨⟨by omega,I6 _⟩,hK _ _ ⟨rfl,rfl,rfl,?_⟩⟩;simp only[go_sem];have:eK r.rests k=(r.rests.take (k+1)).drop k:=by obtain⟨c,hc⟩:=aK J;unfold eK;rw[if_pos J,bA hc,List.drop_append_of_le_length (by simp;omega),Xcc (by simp;omega)];simp[List.getD,hc]
  rw[this,List.map_drop,List.map_take]
 ·have J:¬k<r.rests.length:=by simp at J;omega
  simp only[go_sem];refine hK _ _ ⟨rfl,rfl,rfl,?_⟩;simp only[go_sem];unfold eK;rw[if_neg J];rfl
 rintro ρ H ⟨h1,h2,h3,h7⟩;simp only[go_sem];refine aN fun j0 a0=>?_
 simp only[go_sem,h1,];have a4:=GQ r.rests k;generalize hC:eK r.rests k=cs at *;refine⟨fun ρ H=>∃(n:Nat) (j:Nat),n<=O.length/\ρ 2=int k/\ρ 3=.rp (dV x t r st) 0/\ρ 7=.sl (cs.map dE)/\ρ 29=.sl (O.map dT)/\ρ 30=int O.length/\ρ 31=int n/\ρ 8=.os j/\H j=some (XE ((O.take n).foldl (fun out l=>qK x t st k out l cs) [])),fun ρ _=>O.length-aR (ρ 31),
  ⟨0,j0,Xaa _,h2,h3,h7,rfl,rfl,by simp only[go_sem];rfl,rfl,aB _ _ _⟩,?_⟩
 rintro ρ H ⟨n,j,au,h2,h3,h7,Y,X,T,h8,R⟩;simp only[go_sem,X,T];refine aA (fun aa=>?_) (fun aj=>?_)
 ·have aa:=aV aa;obtain⟨l,an⟩:=aK aa;have b1:=inB aa;have av:=hl l (Xac an);have aw:((O.take n).foldl (fun out l=>qK x t st k out l cs) []).length<=2*n:=by have:=FX x t r st k (O.take n) [];rw[hC]at this;simp at this;omega
  have al:(O.take (n+1)).foldl (fun out l=>qK x t st k out l cs) []=qK x t st k ((O.take n).foldl (fun out l=>qK x t st k out l cs) []) l cs:=jX an;generalize hO:(O.take n).foldl (fun out l=>qK x t st k out l cs) []=out0 at *;simp only[go_sem,Y,T,aC an,b1];refine aN fun ad ak=>?_
  simp only[go_sem];refine cJ ak (by simp[mJ]) fun ai (I:ai ad=some (iG (dT l))) N=>?_
  replace R:=N R;obtain⟨E,R⟩:=R;simp only[go_sem,h7,];refine⟨fun ρ H=>∃(m:Nat) (j:Nat),m<=cs.length/\ρ 2=int k/\ρ 3=.rp (dV x t r st) 0/\ρ 7=.sl (cs.map dE)/\ρ 10=.op ad 0 0/\ρ 29=.sl (O.map dT)/\ρ 30=int O.length/\ρ 31=int n/\ρ 35=.sl (cs.map dE)/\ρ 36=int cs.length/\ρ 37=int m/\ρ 8=.os j/\j≠ad/\H ad=some (iG (dT l))/\H j=some (XE (qK x t st k out0 l (cs.take m))),fun ρ _=>cs.length-aR (ρ 37),
   ⟨0,j,Xaa _,h2,h3,h7,rfl,Y,X,T,rfl,rfl,by simp only[go_sem];rfl,h8,E,I,R⟩,?_⟩
  rintro ρ H ⟨m,j,hm,h2,h3,h7,af,Y,X,T,ah,ag,ac,h8,E,I,R⟩;simp only[go_sem,ag,ac];refine aA (fun F=>?_) (fun ab=>?_)
  ·have F:=aV F;obtain⟨b,ap⟩:=aK F;have b2:=inB F;have ax:=FV x t st k l (cs.take m) out0;have hf:=WE (x:=x) (t:=t) (st:=st) (k:=k) (out:=out0) (l:=l) ap;have ay:(cs.take m).length<=2:=by simp;omega
   simp only[go_sem,h2,h3,af,ah,ac,aC ap,b2,dE,I];refine aH (agB x t r st l k b hn (by omega) hk av) ?_;simp only[go_sem];refine aN fun ar am=>?_
   simp only[go_sem];refine cJ am (by simp[mJ]) fun HGi13 (R13:HGi13 ar=some (iG (dT (akW (nD x t st k l b))))) N=>?_
   replace I:=(N I).2;replace R:=(N R).2;simp only[go_sem,h8,];generalize hF:qK x t st k out0 l (cs.take m)=out at *;cases hs:nD x t st k l b with
   | error e=>
    rw[hs]at hf R13;have ao:(e == 0)=false:=by simpa using Ny hs
    refine⟨boo false,fun hg=>by simp[Fy,ao]at hg,?_⟩;simp only[go_sem,Fy,ao];refine aA (fun J=>by simp at J) (fun _=>?_);simp only[go_sem,h2,h3,h7,af,Y,X,T,ah,ag,ac,h8,aQ m];exact⟨⟨m+1,j,F,rfl,rfl,E,I,by rw[hf];exact R⟩,by simp only[aL];omega⟩
   | ok l'=>
    rw[hs]at hf R13;refine⟨_,fun _=>.inl ⟨[.sl (out.map dT),.fn 345 [.rp (dT l') 0]],.cons _ _ _ _ (.row _ _ _ R (ConvE.refl _)) (.cons _ _ _ _ (.fn _ _ _ (.cons _ _ _ _ (.ptr _ _ _ _ _ R13 (by simp) (ConvL.refl _)) .nil)) .nil),Hs out (by omega) rfl fun v _=>aoK v l',rfl⟩,?_⟩;simp only[go_sem,Fy,];apply aA <;> intro J
    ·have J:(out.any fun v=>wC v l')=false:=by simpa using J
     simp only[go_sem,h8,R13];refine aY R ⟨rfl,rfl⟩ ⟨rfl,trivial⟩ (by simp;omega) (fun j' aq=>?_);have Z:ad≠j':=bE I aq;simp only[go_sem,h2,h3,h7,af,Y,X,T,ah,ag,ac,aQ m];refine⟨⟨m+1,j',F,rfl,rfl,Z.symm,dL I E aq,?_⟩,by simp only[aL];omega⟩;have e1:wR out (.ok l')=out++[l']:=by show(if(out.any fun v=>wC v l')=true then out else out++[l'])=_;rw[if_neg (by rw[J];simp)]
     rw[hf,e1];exact kZ (l':=[l']) rfl
    ·have J:(out.any fun v=>wC v l')=true:=by simpa using J
     simp only[go_sem,h2,h3,h7,af,Y,X,T,ah,ag,ac,h8,aQ m];refine⟨⟨m+1,j,F,rfl,rfl,E,I,?_⟩,by simp only[aL];omega⟩;have e1:wR out (.ok l')=out:=by show(if(out.any fun v=>wC v l')=true then out else out++[l'])=_;rw[if_pos J]
     rw[hf,e1];exact R
  ·have ab:=aW hm ab;subst ab;rw[Xad]at R;simp only[go_sem,h2,h3,h7,Y,X,T,h8,aQ n];exact⟨⟨n+1,j,aa,rfl,rfl,by rw[al];exact R⟩,msr aa⟩
 ·have aj:=aW au aj;subst aj;rw[Xad]at R;simp only[go_sem,h8];unfold Jn;rw[hC];exact .row _ _ _ R (ConvE.refl _)
def dpP(x:Instance)(t:VType)(r:Route)(st:List Stop):Nat->List Lab
 | 0=>[gK t r]
 | k+1=>Jn x t r st (dpP x t r st k) k
def nB(b m:Lab):Lab:=if decide (m.sheet.end_<b.sheet.end_)=true then m else b
def Ei(x:Instance)(t:VType)(r:Route):Sheet×Int:=match dpP x t r (gB x r.visits) (r.visits.length+1)with
 | []=>(HY (Bs x t (gB x r.visits) (cV r) 0 (gK t r)),Fy (Bs x t (gB x r.visits) (cV r) 0 (gK t r)))
 | l0::ls=>((ls.foldl nB l0).sheet,0)
def lL(x:Instance)(r:Route):Sheet×Int:=
 if(!bW x r||decide ((r.rests.length:Int)>(r.visits.length:Int)+1))=true then(aX,2)else match x.types[r.type.toNat]? with
 | some t=>Ei x t r
 | none=>(aX,2)
def aiU{out:List Lab}{e:Except Int Lab}{m:Lab}(h:m∈wR out e):m∈out\/e=.ok m:=by
 unfold wR at h;split at h
 ·exact .inl h
 ·rename_i l;split at h
  ·exact .inl h
  ·rcases Xbb.1 h with h|h
   ·exact .inl h
   ·simp at h;exact .inr (by rw[h])
def Mu{x:Instance}{t:VType}{st:List Stop}{k:Nat}{l m:Lab}:∀(bs:List Bool) (out:List Lab),m∈qK x t st k out l bs->m∈out\/∃b,nD x t st k l b=.ok m
 | [],out,h=>.inl h
 | b::bs,out,h=>by
  rcases Mu bs (wR out (nD x t st k l b)) h with h|h
  ·rcases aiU h with h|h
   ·exact .inl h
   ·exact .inr ⟨b,h⟩
  ·exact .inr h
def Ns{x:Instance}{t:VType}{r:Route}{st:List Stop}{k:Nat}{m:Lab}:∀(E:List Lab) (out:List Lab),m∈E.foldl (fun out l=>qK x t st k out l (eK r.rests k)) out->m∈out\/∃l∈E,∃b,nD x t st k l b=.ok m
 | [],out,h=>.inl h
 | l::E,out,h=>by
  rcases Ns E _ h with h|⟨l',I,b,F⟩
  ·rcases Mu _ _ h with h|⟨b,F⟩
   ·exact .inl h
   ·exact .inr ⟨l,by simp,b,F⟩
  ·exact .inr ⟨l',by simp[I],b,F⟩
def Mr{x:Instance}{t:VType}{r:Route}{st:List Stop}:∀(k:Nat),k<=st.length->∀l∈dpP x t r st k,l.sheet.times.length=k
 | 0,_,l,h=>by simp[dpP]at h;subst h;rfl
 | k+1,hk,l,h=>by
  rcases Ns _ _ h with h|⟨l',E,b,F⟩
  ·simp at h
  ·exact Gz (by omega) (Mr k (by omega) l' E) F
def Xx(x:Instance)(t:VType)(r:Route)(st:List Stop):∀k:Nat,(dpP x t r st k).length<=2^k
 | 0=>by simp[dpP]
 | k+1=>by have h1:=FX x t r st k (dpP x t r st k) [];have E:=Xx x t r st k;rw[Xbj];simp only[dpP,Jn]at h1 |-;simp at h1;omega
def Vi(x:Instance)(r:Route):∃F t' r' E,Dh x r=(dV F t' r' E,bW x r)/\(bW x r=true->F=x/\r'=r/\E=gB x r.visits/\x.types[r.type.toNat]?=some t'):=by
 unfold Dh;cases J:bW x r with
 | false=>exact⟨_,_,_,_,by rw[if_neg (by simp)],fun h=>by simp at h⟩
 | true=>have:=tI J;obtain⟨t,I⟩:=aK (show r.type.toNat<x.types.length by omega);exact⟨x,t,r,gB x r.visits,by rw[if_pos rfl,I],fun _=>⟨rfl,rfl,rfl,I⟩⟩
def asN(x:Instance)(r:Route)(hn:NetOk x.net)(hr:r.visits.length<=1048576):PC prog 261 [.agg (aD x),.agg (bT r)] (.tup [.agg (bR (lL x r).1),int (lL x r).2]):=by
 have w:IntKind.i64.wrap ((r.visits.length:Int)+1)=(r.visits.length:Int)+1:=aU (by omega);refine pcb (fun t=>t == 57) func261 rfl rfl ?_;simp only[go_sem];refine fI fun i4 aj a6 (E:aj i4=some (dA (bR aX))) N=>?_
 simp only[go_sem];refine aH (asP x r hr) ?_;simp only[go_sem];obtain⟨x',t',r',az,ay,av⟩:=Vi x r;rw[ay];refine aN fun i6 ap=>?_
 simp only[go_sem];refine cJ ap (by simp[Gq]) fun ao (Z:ao i6=some (AB (dV x' t' r' az))) N=>?_
 replace E:=(N E).2;simp only[go_sem,w,];apply aA <;> intro h1
 ·simp only[go_sem];refine aI E (by simp) ?_;simp only[go_sem];have e:lL x r=(aX,2):=by unfold lL;rw[if_pos h1]
  rw[e];exact .refl _
 have hp:bW x r=true:=by rw[Xag]at h1;simpa using h1.1
 have an:r.rests.length<=r.visits.length+1:=by rw[Xag]at h1;have:=h1.2;simp at this;omega
 have a9:=tI hp;obtain⟨t,ht⟩:=aK (show r.type.toNat<x.types.length by omega);have a5:r.visits.length<=20:=by unfold bW at hp;simp only[Xak,Xax,Xag,decide_eq_false_iff_not]at hp;omega
 have eB:lL x r=Ei x t r:=by unfold lL;rw[if_neg (by rw[h1];simp),ht]
 obtain⟨ex,er,es,ab⟩:=av hp;rw[ex,er,es]at Z;rw[ht]at ab;injection ab with ab;rw[<-ab]at Z;rw[eB];have aw:(gB x r.visits).length=r.visits.length:=by simp[gB]
 have ak:=Xx x t r (gB x r.visits);have a0:=Mr (x:=x) (t:=t) (r:=r) (st:=gB x r.visits);unfold Ei;generalize hS:gB x r.visits=st at *;simp only[go_sem,Z];refine aH (TU x t r st) ?_;simp only[go_sem];refine⟨fun ρ H=>∃k:Nat,k<=r.visits.length+1/\ρ 3=.rp (bT r) 0/\ρ 4=.op i4 0 0/\ρ 6=.op i6 0 0/\ρ 8=int ((r.visits.length:Int)+1)/\ρ 38=int ((r.visits.length:Int)+1)/\ρ 39=int k/\ρ 9=.sl ((dpP x t r st k).map dT)/\H i4=some (dA (bR aX))/\H i6=some (AB (dV x t r st)),fun ρ _=>r.visits.length+1-aR (ρ 39),
  ⟨0,Xaa _,rfl,rfl,rfl,rfl,rfl,by simp only[go_sem];rfl,by simp only[go_sem];rfl,E,Z⟩,?_⟩
 rintro ρ H ⟨k,hk,h3,h4,h6,h8,aq,ac,h9,E,Z⟩;simp only[go_sem,aq,ac];refine aA (fun I=>?_) (fun J=>?_)
 ·have I:k<=r.visits.length:=by simp at I;omega
  simp only[go_sem,h6,ac,h9,Z];have a8:2^k<=2^20:=Xau (by decide) (by omega);have:=ak k;refine aH (atZ x t r st (dpP x t r st k) k hn (by omega) (by omega) (by omega) (a0 k (by omega))) ?_;simp only[go_sem,h3,h4,h6,h8,aq,ac,aQ k];exact⟨⟨k+1,by omega,rfl,rfl,E,Z⟩,by simp only[aL];omega⟩
 have J:k=r.visits.length+1:=by simp at J;omega
 subst J;simp only[go_sem,h9];cases hd:dpP x t r st (r.visits.length+1)with
 | nil=>
  rw[hd]at h9;refine aA (fun _=>?_) (fun hb=>by simp at hb);simp only[go_sem,h8];refine⟨⟨by omega,by omega⟩,aN fun j hj=>?_⟩;simp only[go_sem,h3,];have ax:(((r.visits.length:Int)+1)).toNat=r.visits.length+1:=by omega
  refine Xo auW (aB _ _ _) (.inl ⟨rfl,rfl,rfl⟩) (.inl rfl) rfl (I6 _) ?_;have X:=bE E hj;have al:=bE Z hj;generalize hG:aM (aM H j _) j _=H1;have Rj:H1 j=some (Cz (cV r)):=by rw[<-hG,aB,ax];exact congrArg (fun es=>some (⟨4,1,es⟩:Row)) (JJ an)
  replace E:=(congrFun hG.symm i4).trans (rQ E hj);replace Z:=(congrFun hG.symm i6).trans (rQ Z hj);simp only[go_sem,h6,Z];refine Cg rfl Rj fun Hr ba hr=>?_
  replace E:=(hr i4 X).trans E;simp only[go_sem];refine aH (auP x t r st (cV r) hn (by omega) (by rw[nM an,aw];exact Xaf _)) ?_;simp only[go_sem,h4,];refine aI E (by simp[iP]) ?_;simp only[go_sem,h4];exact .refl _
 | cons l0 ls=>
  rw[hd]at h9;have a7:=Kf (l0::ls);have ar:(l0::ls).length<=2^21:=by have:=ak (r.visits.length+1);rw[hd]at this;exact Xal this (Xau (by decide) (by omega))
  refine aA (fun hb=>by simp at hb;omega) (fun _=>?_);have b1:(0:Int)<=0/\(0:Int)<((l0::ls).length:Int):=⟨Xbq _,by simp⟩;simp only[go_sem,h9,b1];refine⟨by omega,?_⟩;refine aN fun T ag=>?_
  simp only[go_sem];refine cJ ag (by simp[mJ]) fun ad (F:ad T=some (iG (dT l0))) N=>?_
  replace E:=N E;obtain⟨O,E⟩:=E;simp only[go_sem,h9,];refine⟨⟨by omega,Kf ls⟩,?_⟩;refine⟨fun ρ H=>∃(m:Nat),m<=ls.length/\ρ 4=.op i4 0 0/\ρ 12=.op T 0 0/\ρ 65=.sl (ls.map dT)/\ρ 66=int ls.length/\ρ 67=int m/\H i4=some (dA (bR aX))/\H T=some (iG (dT ((ls.take m).foldl nB l0))),fun ρ _=>ls.length-aR (ρ 67),
   ⟨0,Xaa _,h4,rfl,rfl,rfl,by simp only[go_sem];rfl,E,F⟩,?_⟩
  rintro ρ H ⟨m,hm,h4,Y,ai,ae,aa,E,F⟩;simp only[go_sem,ae,aa];refine aA (fun I=>?_) (fun J=>?_)
  ·have I:=aV I;obtain⟨l,au⟩:=aK I;have b2:=inB I;have hf:(ls.take (m+1)).foldl nB l0=nB ((ls.take m).foldl nB l0) l:=jX au;generalize (ls.take m).foldl nB l0=bl at *;simp only[go_sem,ai,aa,aC au,b2];refine aN fun a4 ah=>?_
   simp only[go_sem];refine cJ ah (by simp[mJ]) fun af (am:af a4=some (iG (dT l))) N=>?_
   replace E:=(N E).2;replace F:=(N F).2;simp only[go_sem,Y,am,F];apply aA <;> intro hb
   ·simp only[go_sem,Y,am];refine aI F (by simp[mJ]) ?_;generalize hP:aM _ T _=HP;replace E:=kpA hP (by first|exact O|exact ne_i12_i4.symm) E;replace F:HP T=some (iG (dT l)):=upS hP;simp only[go_sem,h4,Y,ai,ae,aa,mC (show m<=4611686018427387904 by simp at ar;omega),F,E];exact⟨⟨m+1,I,rfl,by rw[hf];unfold nB;rw[if_pos hb]⟩,msr I⟩
   ·simp only[go_sem,h4,Y,ai,ae,aa,mC (show m<=4611686018427387904 by simp at ar;omega)];exact⟨⟨m+1,I,rfl,E,by rw[hf];unfold nB;rw[if_neg (by rw[hb];simp)];exact F⟩,msr I⟩
  ·have J:=aW hm J;subst J;rw[Xad]at F;simp only[go_sem,h4,Y,F];refine aI E (by simp[iP]) ?_;simp only[go_sem,h4];exact .refl _
def pJ(p:Int×Int):List AV:=[int p.1,int p.2]
def zO(m:List (Int×Int))(o:Int):Option Nat:=m.findIdx? fun p=>p.1 == o
def Aa(m:List (Int×Int))(o:Int):Int:=((m.find? fun p=>p.1 == o).map (·.2)).getD 0
def HH(m:List (Int×Int))(o v:Int):List (Int×Int):=match zO m o with
 | some i=>m.set i (o,v)
 | none=>m++[(o,v)]
abbrev Bg(m:List (Int×Int)):Row:=⟨0,2,m.map pJ⟩
def zF(o:Int):∀(m:List (Int×Int)) (i:Nat),wV (tP prog 3 (int o)) (m.map pJ) i=some ((zO m o).map (·+i))
 | [],i=>rfl
 | p::m,i=>by
  have ih:=zF o m (i+1);have E:tP prog 3 (int o) ((pJ p).getD 0 .any)=some (o == p.1):=by show tP prog 3 (int o) (int p.1)=_;unfold tP;simp only[kk3];simp[xV]
  rw[Xba,wV,E];unfold zO at *;rw[List.findIdx?_cons];by_cases h:o=p.1
  ·subst h;simp
  ·have h1:(o == p.1)=false:=by simpa using h
   have F:(p.1 == o)=false:=by simpa using fun e=>h e.symm
   rw[h1,F];simp only[Xbg,if_false];rw[ih];cases m.findIdx? (fun p=>p.1 == o)with
   | none=>rfl
   | some j=>simp;omega
def pS(o:Int)(m:List (Int×Int)):wV (tP prog 3 (int o)) (m.map pJ) 0=some (zO m o):=by rw[zF];cases zO m o <;> rfl
def rU(o:Int):pB prog 3 (int o)=true:=by simp only[pB,kk3];rfl
def EP(m:List (Int×Int))(o:Int):OS false (int 0) (m.map pJ) (zO m o)=int (Aa m o):=by
 unfold OS Aa zO;induction m with
 | nil=>rfl
 | cons p m ih=>
  rw[List.findIdx?_cons,List.find?_cons];cases h:p.1 == o with
  | true=>simp[pJ]
  | false=>
   cases E:m.findIdx? (fun p=>p.1 == o)with
   | none=>rw[E]at ih;simpa using ih
   | some j=>rw[E]at ih;simp at ih |-;exact ih
def ED(m:List (Int×Int))(o v:Int):Z4 (m.map pJ) (zO m o) (int o) (int v)=(HH m o v).map pJ:=by
 unfold Z4 HH;cases zO m o with
 | none=>simp[pJ]
 | some i=>simp[List.map_set,pJ]
def PP(m:List (Int×Int))(o v q:Int):Aa (HH m o v) q=if q=o then v else Aa m q:=by
 unfold Aa HH zO;induction m with
 | nil=>
  by_cases h:q=o
  ·subst h;simp
  ·have F:(o == q)=false:=by simpa using fun e=>h e.symm
   simp[h,F]
 | cons p m ih=>
  rw[List.findIdx?_cons];cases J:p.1 == o with
  | true=>
   have E:p.1=o:=by simpa using J
   simp only[if_true,List.set_cons_zero,List.find?_cons];by_cases h:q=o
   ·subst h;simp
   ·have F:(o == q)=false:=by simpa using fun e=>h e.symm
    have T:(p.1 == q)=false:=by rw[E];exact F
    simp[h,F,T]
  | false=>
   have E:p.1≠o:=by simpa using J
   cases O:m.findIdx? (fun p=>p.1 == o)with
   | none=>
    rw[O]at ih;simp only[Xbg,if_false,Option.map_none,Xch,List.find?_cons];cases I:p.1 == q with
    | true=>
     have:q≠o:=fun e=>E ((by simpa using I:p.1=q).trans e)
     simp[this]
    | false=>simpa using ih
   | some j=>
    rw[O]at ih;simp only[Xbg,if_false,Option.map_some,List.set_cons_succ,List.find?_cons];cases I:p.1 == q with
    | true=>
     have:q≠o:=fun e=>E ((by simpa using I:p.1=q).trans e)
     simp[this]
    | false=>simpa using ih
def Nk(a b:Int):PC prog 310 [int a,int b] (boo (a != -1&&a != b)):=by refine pcd func310 rfl rfl ?_;simp only[go_sem];exact .refl _
def PZ(l:List Visit)(o:Int):Nat:=l.countP fun v=>v.order == o
def ZD{l:List Visit}{k:Nat}{v:Visit}(h:l[k]?=some v)(o:Int):PZ (l.take (k+1)) o=PZ (l.take k) o+if v.order=o then 1 else 0:=by
 unfold PZ;rw[bA h,List.countP_append];by_cases e:v.order=o
 ·simp[e]
 ·have:(v.order == o)=false:=by simpa using e
  simp[e]
def anL(l:List Visit)(k:Nat)(o:Int):PZ (l.take k) o<=l.length:=Xal List.countP_le_length (by rw[Xap];omega)
def T8{l:List Visit}{k:Nat}{v:Visit}(h:l[k]?=some v):nH l k=decide (PZ (l.take k) v.order=0):=by
 have T:=(List.getElem?_eq_some_iff.1 h).1;rw[Xar];simp only[decide_eq_true_eq];unfold nH PZ;rw[List.countP_eq_zero,Xaj];constructor
 ·intro F u O;obtain⟨i,J,rfl⟩:=List.getElem_of_mem O;have E:i<k:=by simp at J;omega
  have:=F i (Xat.2 E);rw[gR h,gR (List.getElem?_eq_getElem (show i<l.length by omega))]at this;simpa using this
 ·intro F i J;have E:=Xat.1 J;have I:i<l.length:=by omega
  rw[gR h,gR (List.getElem?_eq_getElem I)];have:=F l[i] (List.mem_take_iff_getElem.2 ⟨i,by omega,rfl⟩);simpa using this
def amK(x:Instance)(r:Route)(s:Sheet)(hr:r.visits.length<=1048576):PC prog 262 [.agg (aD x),.agg (bT r),.agg (bR s)] (.agg (cE (mZ x r s))):=by
 refine pcd func262 rfl rfl ?_;simp only[go_sem];refine fI fun i6 aw bb (I:aw i6=some (nR cL)) N=>?_
 simp only[go_sem];apply aA <;> intro h1
 . have h1:cF r.type x.types.length=true:=h1;simp only[go_sem];refine aI I (by simp) ?_;simp only[go_sem];have e:mZ x r s=cL:=by unfold mZ;rw[if_pos h1]
   rw[e];exact .refl _
 have h1:cF r.type x.types.length=false:=h1;have a7:0<=r.type/\r.type<(x.types.length:Int):=by simp only[cF,Xag,decide_eq_false_iff_not]at h1;omega
 obtain⟨t,ht⟩:=aK (show r.type.toNat<x.types.length by omega);have e:mZ x r s=Uy x r s t:=by unfold mZ;rw[if_neg (by rw[h1];simp),ht]
 rw[e];simp only[go_sem,aC ht,a7];refine aN fun i7 az=>?_
 simp only[go_sem];refine cJ az (by simp[jH]) fun ax (R7:ax i7=some (kY t)) N=>?_
 replace I:=(N I).2;simp only[go_sem,R7];refine⟨by decide,?_⟩;refine aN fun Y an=>?_
 simp only[go_sem];refine cJ an (by simp) fun ai (E:ai Y=some (nR (vR t s))) N=>?_
 replace I:=N I;obtain⟨O,I⟩:=I;simp only[go_sem];refine aN fun jm ay=>?_
 have Z:=bE I ay;have F:=bE E ay;generalize hG:aM ai jm _=HM;have X:HM jm=some (Bg []):=by rw[<-hG,aB];rfl
 replace I:=(congrFun hG.symm i6).trans ((aJ _ _ _ _ Z).trans I);replace E:=(congrFun hG.symm Y).trans ((aJ _ _ _ _ F).trans E);simp only[go_sem];refine ⟨fun ρ H => ∃ (k : Nat) (m : List (Int × Int)), k <= r.visits.length /\ ρ 3 = .rp (aD x) 0 /\ ρ 4 = .rp (bT r) 0 /\ ρ 6 = .op i6 0 0 /\ ρ 10 = .op Y 0 0 /\ ρ 11 = .om jm /\ ρ 59 = .sl (r.visits.map aF) /\ ρ 60 = int r.visits.length /\ ρ 61 = int k /\ H i6 = some (nR cL) /\
     H Y=some (nR (((List.range r.visits.length).take k).foldl (fZ x r) (vR t s)))/\H jm=some (Bg m)/\∀o,Aa m o=(PZ (r.visits.take k) o:Nat),fun ρ _=>r.visits.length-aR (ρ 61),
   ⟨0,[],Xaa _,rfl,rfl,rfl,rfl,rfl,rfl,rfl,by simp only[go_sem];rfl,I,E,X,fun o=>rfl⟩,?_⟩
 rintro ρ H ⟨k,m,hk,h3,h4,h6,ac,ad,ag,ah,ae,I,E,X,hm⟩;simp only[go_sem,ah,ae];refine aA (fun T=>?_) (fun am=>?_)
 . have T:=aV T;obtain⟨v,hv⟩:=aK T;have b1:=inB T;have hs:((List.range r.visits.length).take (k+1)).foldl (fZ x r) (vR t s)=fZ x r (((List.range r.visits.length).take k).foldl (fZ x r) (vR t s)) k:=by rw[bA (iN T),Xbm];rfl
   generalize hA:((List.range r.visits.length).take k).foldl (fZ x r) (vR t s)=A at E hs;have ev:fB r.visits k=v.order:=gR hv;have a8:=T8 hv;have bc:=anL r.visits k v.order;have a9:=ZD hv;have a4:=hm v.order;have wm:IntKind.i64.wrap (Aa m v.order+1)=Aa m v.order+1:=aU (by omega);simp only[go_sem,ag,ae,aC hv,b1];refine aN fun a0 ap=>?_
   simp only[go_sem];refine cJ ap (by simp[dG]) fun ao (aj:ao a0=some (⟨112,2,[aF v]⟩)) N=>?_
   replace I:=(N I).2;replace E:=(N E).2;replace X:=N X;obtain⟨af,X⟩:=X;simp only[go_sem,ad,aj,];refine Fj X JG (rU _) (pS _ _) zv3 ?_;rw[EP];simp only[go_sem,wm];refine Oc X JG (rU _) (pS _ _) ?_;rw[ED];generalize hP:aM _ jm _=HP;replace I:=kpA hP (by first|exact Z|exact ne_jm_i6.symm) I;replace E:=kpA hP (by first|exact F|exact ne_jm_i10.symm) E;replace aj:=kpA hP (by first|exact ne_i13_jm|exact af.symm) aj;replace X:HP jm=some (Bg (HH m v.order (Aa m v.order+1))):=by rw[<-hP,aB];skip
   simp only[go_sem,h3,ad,aj];have au:∀o,Aa (HH m v.order (Aa m v.order+1)) o=(PZ (r.visits.take (k+1)) o:Nat):=fun o=>by
     rw[PP,a9 o,hm o,hm v.order];by_cases e:o=v.order
     . subst e;simp
     . rw[if_neg e,if_neg (fun h=>e h.symm)];rfl
   refine Fj X JG (rU _) (pS _ _) zv3 ?_;rw[EP,PP,if_pos rfl];have al:(cF v.order x.orders.length||decide (Aa m v.order+1>1))=(cF v.order x.orders.length|| !nH r.visits k):=by
     rw[a8,a4]
     congr 1
     rw[Xar];simp;omega
   simp only[go_sem];apply aA <;> intro hb
   . have ak:(cF v.order x.orders.length|| !nH r.visits k)=true:=al▸hb;have e:fZ x r A k=A:=by unfold fZ;rw[ev,if_pos ak]
     simp only[go_sem,h3,h4,h6,ac,ad,ag,ah,ae,aQ k];exact⟨⟨k+1,_,T,rfl,I,by rw[hs,e];exact E,X,au⟩,msr T⟩
   have ak:(cF v.order x.orders.length|| !nH r.visits k)=false:=al▸hb;have a6:cF v.order x.orders.length=false:=(Xag.1 ak).1;have ba:0<=v.order/\v.order<(x.orders.length:Int):=by simp only[cF,Xag,decide_eq_false_iff_not]at a6;omega
   obtain⟨o,ho⟩:=aK (show v.order.toNat<x.orders.length by omega);have e:fZ x r A k=Ax o r.type (A6 o r.type A):=by unfold fZ;rw[ev,if_neg (by rw[ak];simp),ho]
   rw[e]at hs;simp only[go_sem,h3,aj,aC ho,ba];refine aN fun av ar=>?_
   simp only[go_sem];refine cJ ar (by simp[uV]) fun aq (aa:aq av=some (nI o)) N=>?_
   replace I:=(N I).2;replace E:=N E;obtain⟨J,E⟩:=E;replace X:=(N X).2;simp only[go_sem,h4,aa,];refine aH (Nk o.now r.type) ?_;simp only[go_sem];refine bN (fun ab H'=>ab 3=.rp (aD x) 0/\ab 4=.rp (bT r) 0/\ab 6=.op i6 0 0/\ab 10=.op Y 0 0/\ab 11=.om jm/\ab 14=.op av 0 0/\ab 59=.sl (r.visits.map aF)/\ab 60=int r.visits.length/\ab 61=int k/\H' i6=some (nR cL)/\H' av=some (nI o)/\H' jm=some (Bg (HH m v.order (Aa m v.order+1)))/\H' Y=some (nR (A6 o r.type A))) ?_ fun K hK=>aA (fun hb=>?_) (fun hb=>?_)
   rotate_left
   . simp only[go_sem,ac,E];refine dP so3 E ⟨by simp,rfl,by simp⟩ ?_;generalize hP:aM _ Y _=HP;replace I:=kpA hP (by first|exact O|exact ne_i10_i6.symm) I;replace aa:=kpA hP (by first|exact ne_i14_i10|exact J.symm) aa;replace X:=kpA hP (by first|exact ne_jm_i10|exact F.symm) X;replace E:HP Y=some (nR (A6 o r.type A)):=by rw[<-hP,aB];(rw[A6,if_pos (show I4 o r.type=true from hb)];rfl)
     simp only[go_sem];exact hK _ _ ⟨h3,h4,h6,ac,ad,rfl,ag,ah,ae,I,aa,X,E⟩
   . simp only[go_sem];refine hK _ _ ⟨h3,h4,h6,ac,ad,rfl,ag,ah,ae,I,aa,X,?_⟩;rw[A6,if_neg (by rw[show I4 o r.type=false from hb];simp)];exact E
   rintro ρ H ⟨h3,h4,h6,ac,ad,a5,ag,ah,ae,I,aa,X,E⟩;simp only[go_sem,h4,a5,aa];refine aH (Nk o.last r.type) ?_;simp only[go_sem];apply aA <;> intro hb
   . simp only[go_sem,ac,E];refine dP so3 E ⟨by simp,rfl,by simp⟩ ?_;generalize hP:aM _ Y _=HP;replace I:=kpA hP (by first|exact O|exact ne_i10_i6.symm) I;replace aa:=kpA hP (by first|exact ne_i14_i10|exact J.symm) aa;replace X:=kpA hP (by first|exact ne_jm_i10|exact F.symm) X;replace E:HP Y=some (nR (Ax o r.type (A6 o r.type A))):=by rw[<-hP,aB];(rw[Ax,if_pos (show Ix o r.type=true from hb)];rfl)
     simp only[go_sem,h3,h4,h6,ac,ad,ag,ah,ae,aQ k,E,I,X];exact⟨⟨k+1,HH m v.order (Aa m v.order+1),T,rfl,by rw[hs],rfl,au⟩,msr T⟩
   . simp only[go_sem,h3,h4,h6,ac,ad,ag,ah,ae,aQ k];exact⟨⟨k+1,_,T,rfl,I,by rw[hs,Ax,if_neg (by rw[show Ix o r.type=false from hb];simp)];exact E,X,au⟩,msr T⟩
 . have am:=aW hk am;subst am;rw[Xan (by simp)]at E;simp only[go_sem,h6,ac,E];refine aI I (by simp[lA]) ?_;simp only[go_sem,h6];exact .refl _
def DH(x:Instance)(r:Route)(v:Visit):Bool:=match x.types[r.type.toNat]?,x.orders[v.order.toNat]? with
 | some t,some o=>xM t.skills o.skills
 | _,_=>false
def D9(x:Instance)(r:Route):Int:=if(r.visits.any fun v=> !DH x r v)=true then 18 else 0
def amJ(x:Instance)(r:Route)(hr:r.visits.length<=1048576)(Y:0<=r.type/\r.type<(x.types.length:Int))(aa:∀v∈r.visits,0<=v.order/\v.order<(x.orders.length:Int)):
  PC prog 259 [.agg (aD x),.agg (bT r)] (int (D9 x r)):=by
 obtain⟨t,ht⟩:=aK (show r.type.toNat<x.types.length by omega);refine pcd func259 rfl rfl ?_;simp only[go_sem];refine⟨fun ρ _=>∃k:Nat,k<=r.visits.length/\ρ 2=.rp (aD x) 0/\ρ 3=.rp (bT r) 0/\ρ 8=.sl (r.visits.map aF)/\ρ 9=int r.visits.length/\ρ 10=int k/\∀v∈r.visits.take k,(!DH x r v)=false,fun ρ _=>r.visits.length-aR (ρ 10),⟨0,Xaa _,rfl,rfl,rfl,rfl,rfl,by simp⟩,?_⟩;rintro ρ H ⟨k,hk,h2,h3,h8,h9,I,X⟩;simp only[go_sem,h9,I];refine aA (fun E=>?_) (fun F=>?_)
 ·have E:=aV E;obtain⟨v,T⟩:=aK E;have b1:=inB E;have ab:=aa v (Xac T);obtain⟨o,ho⟩:=aK (show v.order.toNat<x.orders.length by omega);have es:DH x r v=xM t.skills o.skills:=by unfold DH;rw[ht,ho]
  simp only[go_sem,h8,I,aC T,b1];refine aN fun Z J=>?_
  simp only[go_sem];refine cJ J (by simp[dG]) fun O (R6:O Z=some (⟨112,2,[aF v]⟩)) N=>?_
  simp only[go_sem];refine fV [Z] [(0,true),(1,true),(2,true),(3,true),(4,true),(5,true),(6,true),(7,true),(8,true),(9,true),(10,true),(11,true),(12,true),(13,true),(14,true)] (by simp[R6]) (by kernel_rfl) fun Hp Hr hp ac _ ad=>?_
  have P6:=(hp Z (by simp)).trans R6;simp only[go_sem,h2,h3,P6,aC ht,Y,aC ho,ab];refine⟨_,(auT t o.skills).q rfl,?_⟩;simp only[go_sem];refine gJ fun _ Hm _ _=>?_
  simp only[go_sem];apply aA <;> intro hb
  ·simp only[go_sem];exact bP (by unfold D9;rw[if_pos (Xas.2 ⟨v,Xac T,by rw[es];exact hb⟩)])
  ·simp only[go_sem,h2,h3,h8,h9,I,aQ k];exact⟨⟨k+1,E,rfl,aO (p:=fun v=>(!DH x r v)=false) T (by rw[es];exact hb) X⟩,msr E⟩
 ·have F:=aW hk F;subst F;rw[Xad]at X;simp only[go_sem];exact bP (by unfold D9;rw[if_neg (by rw[rZ X];simp)])
def kK(x:Instance)(r:Route):Sheet×Score×Int:=
 if cF r.type x.types.length=true then(aX,cL,2)
 else if(sV x r.visits != 0)=true then(aX,cL,sV x r.visits)
 else if(D9 x r != 0)=true then(aX,cL,D9 x r)
 else if(A5 x r != 0)=true then(aX,cL,A5 x r)
 else if((lL x r).2 != 0)=true then(aX,cL,(lL x r).2)
 else((lL x r).1,mZ x r (lL x r).1,0)
structure EvalB(x:Instance):Prop where
 net:NetOk x.net
 load:LoadB x
 apart:x.apart.length<=1048576
 before:x.before.length<=1048576
abbrev fnsL:List (List AV):=[[.v (.func (.func 258) #[] #[])],[.v (.func (.func 259) #[] #[])],[.v (.func (.func 260) #[] #[])]]
def Vl(x:Instance)(r:Route)(hx:EvalB x)(hr:r.visits.length<=1048575):PC prog 224 [.agg (aD x),.agg (bT r)] (.tup [.agg (bR (kK x r).1),.agg (cE (kK x r).2.1),int (kK x r).2.2]):=by
 refine pcd func224 rfl rfl ?_;simp only[go_sem];refine fI fun X ah an (F:ah X=some (dA (bR aX))) N=>?_
 simp only[go_sem];refine fI fun Y aj am (J:aj Y=some (nR cL)) N=>?_
 replace F:=N F;obtain⟨E,F⟩:=F;simp only[go_sem];apply aA <;> intro h1
 ·have h1:cF r.type x.types.length=true:=h1;simp only[go_sem];refine aI F (by simp) ?_;generalize I:aM _ X _=HP;replace J:=kpA I (by first|exact ne_i5_i4|exact E.symm) J;replace F:HP X=some (dA (bR aX)):=upS I;simp only[go_sem];refine aI J (by simp) ?_;generalize I:aM _ Y _=HP;replace F:=kpA I (by first|exact E|exact ne_i5_i4.symm) F;replace J:HP Y=some (nR cL):=upS I;simp only[go_sem,J,F];have e:kK x r=(aX,cL,2):=by unfold kK;rw[if_pos h1]
  rw[e];exact .refl _
 have c1:¬cF r.type x.types.length=true:=by rw[show cF r.type x.types.length=false from h1];simp
 have al:0<=r.type/\r.type<(x.types.length:Int):=by have h1:cF r.type x.types.length=false:=h1;simp only[cF,Xag,decide_eq_false_iff_not]at h1;omega
 simp only[go_sem];refine⟨fun ρ H=>∃(k:Nat),k<=3/\ρ 2=.rp (aD x) 0/\ρ 3=.rp (bT r) 0/\ρ 4=.op X 0 0/\ρ 5=.op Y 0 0/\ρ 25=.sl fnsL/\ρ 26=int 3/\ρ 27=int k/\H X=some (dA (bR aX))/\H Y=some (nR cL)/\(0<k->sV x r.visits=0)/\(1<k->D9 x r=0)/\(2<k->A5 x r=0),fun ρ _=>3-aR (ρ 27),
  ⟨0,Xaa _,rfl,rfl,rfl,rfl,rfl,by simp only[go_sem];rfl,by simp only[go_sem];rfl,F,J,fun h=>absurd h (by decide),fun h=>absurd h (by decide),fun h=>absurd h (by decide)⟩,?_⟩
 rintro ρ H ⟨k,hk,h2,h3,h4,h5,aa,ab,Z,F,J,q1,q2,q3⟩;simp only[go_sem,ab,Z];refine aA (fun ai=>?_) (fun ac=>?_)
 ·have ai:k<3:=by simp at ai;omega
  have hc:k=0\/k=1\/k=2:=by omega
  rcases hc with rfl|rfl|rfl
  ·simp only[go_sem,h2,h3,aa,Z];refine⟨by decide,PC.use (JR x r (by omega) hx.apart hx.before) ?_⟩;simp only[go_sem];apply aA <;> intro hb
   ·have e:kK x r=(aX,cL,sV x r.visits):=by unfold kK;rw[if_neg c1,if_pos hb]
    simp only[go_sem,h4,];refine aI F (by simp) ?_;generalize I:aM _ X _=HP;replace J:=kpA I (by first|exact ne_i5_i4|exact E.symm) J;replace F:HP X=some (dA (bR aX)):=upS I;simp only[go_sem,h5,];refine aI J (by simp) ?_;generalize I:aM _ Y _=HP;replace F:=kpA I (by first|exact E|exact ne_i5_i4.symm) F;replace J:HP Y=some (nR cL):=upS I;simp only[go_sem,h4,h5,J,F];rw[e];exact .refl _
   ·simp only[go_sem,h2,h3,h4,h5,aa,ab,Z];exact⟨⟨1,by decide,rfl,F,J,fun _=>by simpa using hb,fun h=>absurd h (by decide),fun h=>absurd h (by decide)⟩,by simp only[aL];decide⟩
  ·simp only[go_sem,h2,h3,aa,Z];refine⟨by decide,PC.use (amJ x r (by omega) al (akN (q1 (by decide)))) ?_⟩;simp only[go_sem];apply aA <;> intro hb
   ·have e:kK x r=(aX,cL,D9 x r):=by unfold kK;rw[if_neg c1,q1 (by decide),if_neg (by decide),if_pos hb]
    simp only[go_sem,h4,];refine aI F (by simp) ?_;generalize I:aM _ X _=HP;replace J:=kpA I (by first|exact ne_i5_i4|exact E.symm) J;replace F:HP X=some (dA (bR aX)):=upS I;simp only[go_sem,h5,];refine aI J (by simp) ?_;generalize I:aM _ Y _=HP;replace F:=kpA I (by first|exact E|exact ne_i5_i4.symm) F;replace J:HP Y=some (nR cL):=upS I;simp only[go_sem,h4,h5,J,F];rw[e];exact .refl _
   ·simp only[go_sem,h2,h3,h4,h5,aa,ab,Z];exact⟨⟨2,by decide,rfl,F,J,fun _=>q1 (by decide),fun _=>by simpa using hb,fun h=>absurd h (by decide)⟩,by simp only[aL];decide⟩
  ·simp only[go_sem,h2,h3,aa,Z];refine⟨by decide,PC.use (amP x r hx.load hr hx.apart hx.before) ?_⟩;simp only[go_sem];apply aA <;> intro hb
   ·have e:kK x r=(aX,cL,A5 x r):=by unfold kK;rw[if_neg c1,q1 (by decide),if_neg (by decide),q2 (by decide),if_neg (by decide),if_pos hb]
    simp only[go_sem,h4,];refine aI F (by simp) ?_;generalize I:aM _ X _=HP;replace J:=kpA I (by first|exact ne_i5_i4|exact E.symm) J;replace F:HP X=some (dA (bR aX)):=upS I;simp only[go_sem,h5,];refine aI J (by simp) ?_;generalize I:aM _ Y _=HP;replace F:=kpA I (by first|exact E|exact ne_i5_i4.symm) F;replace J:HP Y=some (nR cL):=upS I;simp only[go_sem,h4,h5,J,F];rw[e];exact .refl _
   ·simp only[go_sem,h2,h3,h4,h5,aa,ab,Z];exact⟨⟨3,by decide,rfl,F,J,fun _=>q1 (by decide),fun _=>q2 (by decide),fun _=>by simpa using hb⟩,by simp only[aL];decide⟩
 have ac:k=3:=by simp at ac;omega
 subst ac;have e1:=q1 (by decide);have e2:=q2 (by decide);have e3:=q3 (by decide);have eE:kK x r=if((lL x r).2 != 0)=true then(aX,cL,(lL x r).2)else((lL x r).1,mZ x r (lL x r).1,0):=by unfold kK;rw[if_neg c1,e1,e2,e3];rfl
 rw[eE];simp only[go_sem,h2,h3,];refine aH (asN x r hx.net (by omega)) ?_;simp only[go_sem];refine aN fun ad ae=>?_
 simp only[go_sem];refine cJ ae (by simp[iP]) fun HGi10 (R10:HGi10 ad=some (dA (bR (lL x r).1))) N=>?_
 replace F:=N F;obtain⟨T,F⟩:=F;replace J:=N J;obtain⟨O,J⟩:=J;simp only[go_sem];apply aA <;> intro hb
 ·rw[if_pos hb];simp only[go_sem,h4];refine aI F (by simp) ?_;generalize I:aM _ X _=HP;replace J:=kpA I (by first|exact ne_i5_i4|exact E.symm) J;replace F:HP X=some (dA (bR aX)):=upS I;simp only[go_sem,h5,];refine aI J (by simp) ?_;generalize I:aM _ Y _=HP;replace F:=kpA I (by first|exact E|exact ne_i5_i4.symm) F;replace J:HP Y=some (nR cL):=upS I;simp only[go_sem,h4,h5,J,F];exact .refl _
 ·rw[if_neg (by rw[hb];simp)];simp only[go_sem];refine fV [ad] [(0,true),(1,true),(2,true),(3,true),(4,true),(5,false),(6,false),(7,false)] (by simp[R10]) (by kernel_rfl) fun Hp Hr hp ag _ ao=>?_
  have ak:=(hp ad (by simp)).trans R10;have P4:=(ag X (by simp[T])).trans F;have P5:=(ag Y (by simp[O])).trans J;simp only[go_sem,h2,h3,ak];refine⟨_,(amK x r (lL x r).1 (by omega)).q rfl,?_⟩;simp only[go_sem,h4,];refine aI P4 (by simp[iP]) ?_;generalize I:aM _ X _=HP;replace P5:=kpA I (by first|exact ne_i5_i4|exact E.symm) P5;replace P4:HP X=some (dA (bR (lL x r).1)):=upS I;simp only[go_sem,h5,];refine aI P5 (by simp[lA]) ?_;generalize I:aM _ Y _=HP;replace P4:=kpA I (by first|exact E|exact ne_i5_i4.symm) P4;replace P5:HP Y=some (nR (mZ x r (lL x r).1)):=upS I;simp only[go_sem];refine gJ fun _ Hm _ af=>?_
  have M4:=(af X (by simp[T])).trans P4;have M5:=(af Y (by simp[O])).trans P5;simp only[go_sem,h4,h5,M4,M5];exact .refl _
end Sq
namespace Sq
open Mv (bP bS aO)
end Sq
namespace Sq
open Mv (aO)
open Mv (bP bS aO)
def WW(x:Instance):fR x=kL x.types:=by unfold fR kL;cases x.types <;> rfl
section
variable{x:Instance}(h:Acc x)
include h
def _root_.Go.Proofs.YtpagaknmdfgfkaaGreatDoor.Acc.dims:1<=fR x/\fR x<=3:=by rw[WW];have h1:=h.types;obtain⟨t,E⟩:=aK (show 0<x.types.length by omega);have:=ajS (h.type t (Xac E)).cap;omega
def _root_.Go.Proofs.YtpagaknmdfgfkaaGreatDoor.Acc.loadB:LoadB x:=⟨by have:=h.dims;omega,fun o E=>by have:=(V7 (h.order o E).load).1;rw[<-WW]at this;omega,by have:=h.orders;omega⟩
end
def E7{l:List Point}{i:Nat}(h:i<l.length):eM l i∈l:=by rw[dZ (List.getElem?_eq_getElem h)];exact List.getElem_mem h
def RQ{p:Point}{t:Int}(E:0<=p.t/\p.t<=4096/\p.t<=p.a/\p.a<=p.t+4096)(F:0<=t/\t<=12288):0<=AD p t/\AD p t<=100000000:=by unfold AD;rw[mB (n:=t+p.a) (by omega),mB (by omega)];omega
def acY{p q:Point}{t:Int}(T:0<=p.t/\p.t<=4096/\p.t<=p.a/\p.a<=p.t+4096)(hq:0<=q.t/\q.t<=4096/\q.t<=q.a/\q.a<=q.t+4096)(Y:p.a<=q.a)(h1:p.t<=t)(O:t<q.t):0<=I1 p q t/\I1 p q t<=100000000:=by
 unfold I1;have J:0<=t-p.t/\t-p.t<=4096:=by omega
 have I:0<=q.a-p.a/\q.a-p.a<=8192:=by omega
 have F:0<=(t-p.t)*(q.a-p.a):=Int.mul_nonneg J.1 I.1;have E:(t-p.t)*(q.a-p.a)<=4096*8192:=Int.mul_le_mul J.2 I.2 I.1 (by omega);rw[mB (n:=t-p.t) (by omega),mB (n:=q.a-p.a) (by omega),mB (n:=(t-p.t)*(q.a-p.a)) (by omega),mB (n:=q.t-p.t) (by omega)];generalize (t-p.t)*(q.a-p.a)=m at F E;rw[mB (n:=m+q.t) (by omega),mB (n:=m+q.t-p.t) (by omega),mB (n:=m+q.t-p.t-1) (by omega),Xce (by omega)];have X:0<=(m+q.t-p.t-1)/(q.t-p.t):=Int.ediv_nonneg (by omega) (by omega);have Z:(m+q.t-p.t-1)/(q.t-p.t)<=m+q.t-p.t-1:=Int.ediv_le_self _ (by omega);have e:IntKind.i64.wrap ((m+q.t-p.t-1)/(q.t-p.t))=(m+q.t-p.t-1)/(q.t-p.t):=mB (by omega);rw[e,mB (by omega)];omega
def aoN{l:List Point}{t:Int}(h:jJ l=[])(I:0<=t/\t<=12288):0<=gP l t/\gP l t<=100000000:=by
 have E:=OU h;have T:=E.len;unfold gP;split
 ·omega
 ·split
  ·rename_i k J;have F:=List.find?_some J;have O:=Xat.1 (List.mem_of_find?_eq_some J);simp only[mY,Xak,decide_eq_true_eq]at F;have:=E.mono k (by omega);exact acY (E.pt _ (E7 (by omega))) (E.pt _ (E7 (by omega))) this.2 F.1 F.2
  ·split
   ·exact RQ (E.pt _ (E7 (by omega))) I
   ·exact RQ (E.pt _ (E7 (by omega))) I
def Q4{t:Int}:∀(l:List Point) (s B:Int),(∀p∈l,0<=p.a/\p.a<=4096)->0<=s/\s<=B->B+4096*l.length<=1000000000000->0<=l.foldl (pL t) s/\l.foldl (pL t) s<=B+4096*l.length
 | [],s,B,_,hs,_=>by simpa using hs
 | p::l,s,B,hp,hs,hB=>by
  have h1:=hp p (by simp);simp only[Xai,Xbv]at hB |-;have e:0<=pL t s p/\pL t s p<=B+4096:=by
   unfold pL;split
   ·rw[mB (by omega)];omega
   ·omega
  have:=Q4 (t:=t) l (pL t s p) (B+4096) (fun q E=>hp q (by simp[E])) e (by omega);omega
def UC{a:Arc}{t:Int}(h:ArcOk a)(E:0<=t/\t<=12288):0<=tU a t/\tU a t<=1000000000:=by have h1:=aoN h.travel E;have I:=h.slow;have:=Q4 (t:=t) a.slow _ 100000000 (fun p F=>(h.pt p F).2) h1 (by omega);unfold tU;omega
def VM{s:Stop}(h:gM s=0)(I:0<=s.place):StopB s/\s.start<=s.close:=by
 unfold gM at h;split at h
 ·rename_i F;simp only[Go.Proofs.YtpagaknmdfgfkaaGreatDoor.kW,Xak,Xav]at F;omega
 ·split at h
  ·cases h
  ·rename_i E;simp only[Pi,Xcu,Xag,decide_eq_false_iff_not]at E;exact⟨⟨by omega,by omega,by omega,by omega⟩,by omega⟩
section
variable{x:Instance}(h:Acc x)
include h
def _root_.Go.Proofs.YtpagaknmdfgfkaaGreatDoor.Acc.go{t:VType}(O:t∈x.types):GoB x t:=by
 have E:=h.type t O;have Y:=E.start;have J:=E.close;have T:=E.drive;refine⟨fun p q d F X=>?_,E.rest,J,T.2⟩;unfold fO at X |-;split
 ·exact Xbq _
 ·split
  ·exact F.1
  ·cases I:pY x.net t.profile p q with
   | none=>exact Xbq _
   | some a=>exact(UC (h.arc a (List.mem_of_find?_eq_some I)) F).1
def _root_.Go.Proofs.YtpagaknmdfgfkaaGreatDoor.Acc.stop{v:Visit}(E:(bI x v).2=true):StopB (bI x v).1/\(bI x v).1.start<=(bI x v).1.close:=by
 unfold bI at E |-;split
 ·rename_i F;rw[if_pos F]at E;cases E
 ·rename_i F;rw[if_neg F]at E;cases I:x.orders[v.order.toNat]? with
  | none=>rw[I]at E;cases E
  | some o=>
   rw[I]at E;have O:0<=(pF o v).place:=by simpa using E
   have J:=h.order o (Xac I);refine VM ?_ O;show gM (pF o v)=0;unfold pF;cases v.drop
   ·exact J.wpick
   ·exact J.wdrop
def _root_.Go.Proofs.YtpagaknmdfgfkaaGreatDoor.Acc.route{r:Route}{t:VType}(E:bW x r=true)(J:x.types[r.type.toNat]?=some t):RouteB x t r/\∀v∈r.visits,(bI x v).1.start<=(bI x v).1.close:=by unfold bW at E;simp only[Xak,Xax,Xag,decide_eq_false_iff_not]at E;have I:∀v∈r.visits,(bI x v).2=true:=Xaj.1 E.2;have O:=h.type t (Xac J);have X:=O.start;have T:=O.close;refine⟨⟨h.go (Xac J),fun v F=>(h.stop (I v F)).1,⟨?_,by show -(12288*((0:Nat):Int))<=0/\(0:Int)<=4096;omega⟩,by omega⟩,fun v F=>(h.stop (I v F)).2⟩;unfold gK;show 0<=eN t.start r.start/\eN t.start r.start<=8192;unfold eN;split <;> omega
end
def aqH(x:Instance)(t:VType)(r:Route)(k:Nat)(F:k<=r.visits.length):uC t (gB x r.visits) k=iF x t r k:=by
 cases k with
 | zero=>rfl
 | succ j=>obtain⟨v,E⟩:=aK (show j<r.visits.length by omega);simp[uC,iF,gB,List.getD,E]
def agI(x:Instance)(t:VType)(r:Route)(k:Nat)(E:k<=r.visits.length)(l:Lab)(b:Bool):nD x t (gB x r.visits) k l b=gI x t r k l b:=by unfold nD gI;rw[aqH x t r k E];unfold gB;rw[List.getElem?_map];cases r.visits[k]? <;> rfl
def X3(x:Instance)(t:VType)(r:Route):∀(bs:List Bool) (k:Nat) (l:Lab),bs.length+k<=r.visits.length+1->Bs x t (gB x r.visits) bs k l=kO x t r bs k l
 | [],k,l,_=>rfl
 | b::bs,k,l,h=>by
  simp only[Xai]at h;unfold Bs kO;rw[agI x t r k (by omega)];cases gI x t r k l b with
  | error e=>rfl
  | ok l'=>exact X3 x t r bs (k+1) l' (by omega)
def auV(x:Instance)(t:VType)(r:Route)(k:Nat)(F:k<=r.visits.length)(E:List Lab):Jn x t r (gB x r.visits) E k=Bw x t r E k:=by
 unfold Jn Bw;rw[List.foldl_flatMap]
 congr 1
 funext out l;unfold qK
 congr 1
 exact List.map_congr_left fun b _=>agI x t r k F l b
def amW(x:Instance)(t:VType)(r:Route):∀k:Nat,k<=r.visits.length+1->dpP x t r (gB x r.visits) k=dpL x t r k
 | 0,_=>rfl
 | k+1,h=>by show Jn x t r _ _ k=Bw x t r _ k;rw[auV x t r k (by omega),amW x t r k (by omega)]
def _root_.Go.Proofs.YtpagaknmdfgfkaaGreatDoor.Acc.best{x:Instance}(h:Acc x)(r:Route):(lL x r).2=(lX x r).2:=by
 unfold lL;split
 ·rename_i E;unfold lX;rw[if_pos (by simpa using E)]
 ·rename_i E;have F:bW x r=true/\(r.rests.length:Int)<=(r.visits.length:Int)+1:=by simpa using E
  obtain⟨O,J⟩:=F;have T:∃t,x.types[r.type.toNat]?=some t:=by have:=O;unfold bW at this;simp only[Xak,Xax,Xag,cF,decide_eq_false_iff_not]at this;exact aK (by omega)
  obtain⟨t,I⟩:=T;rw[I];show(Ei x t r).2=_;obtain⟨Y,X⟩:=h.route O I;have J:r.rests.length<=r.visits.length+1:=by omega
  rw[amF Y O I J X];unfold Ei;rw[amW x t r _ (Xaf _)];cases dpL x t r (r.visits.length+1)with
  | nil=>show Fy (Bs x t _ _ 0 _)=_;rw[X3 x t r _ 0 _ (by rw[nM J];omega)]
  | cons l ls=>rfl
def vL{α:Type}(p:α->Bool)(l:List α):((∀y∈l,p y=false)/\pC p l 0= -1)\/∃(k:Nat) (x:α),l[k]?=some x/\p x=true/\(∀y∈l.take k,p y=false)/\pC p l 0=k:=by
 by_cases h:l.any p=true
 ·right;have I:l.findIdx p<l.length:=List.findIdx_lt_length_of_exists (by simpa using h);refine⟨l.findIdx p,l[l.findIdx p],List.getElem?_eq_getElem I,List.findIdx_getElem,?_,?_⟩
  ·intro y E;obtain⟨i,F,rfl⟩:=List.getElem_of_mem E;rw[Xap]at F;rw[List.getElem_take];exact List.not_of_lt_findIdx (by omega)
  ·have := lR (p := p) (l := l) (k := l.findIdx p) (x := l[l.findIdx p]) (by intro y E;obtain⟨i,F,rfl⟩:=List.getElem_of_mem E;rw[Xap]at F;rw[List.getElem_take];exact List.not_of_lt_findIdx (by omega)) (List.getElem?_eq_getElem I) List.findIdx_getElem 0;rw[this];omega
 ·left;have h:∀y∈l,p y=false:=fun y E=>by have:=Xbf.1 (Xcz.2 h) y E;simpa using this
  exact⟨h,kP h 0⟩
def zC{v u:Visit}:pM v u=true↔u=v:=by
 unfold pM;constructor
 ·intro h;simp only[Xbh,Xak,Xav]at h;cases u;cases v;simp only[Visit.mk.injEq];exact⟨h.1,h.2⟩
 ·rintro rfl;simp
def Zp{l:List Visit}{i:Nat}(Z:i<l.length):qU l i=Bo l i:=by
 obtain⟨v,J⟩:=aK Z;unfold qU Bo;rw[show l.getD i ⟨0,false⟩=v by simp[List.getD,J]];unfold bM;rw[rD _ 0 (Xbq _)];by_cases h:(l.take i).any (pM v)=true
 ·rw[h];rcases vL (pM v) l with⟨h1,_⟩|⟨k,y,hk,O,T,Y⟩
  ·obtain⟨u,I,E⟩:=Xas.1 h;rw[h1 u (Xco I)]at E;cases E
  ·rw[Y];have:k<i:=by
    refine Decidable.byContradiction fun hc=>?_
    obtain⟨u,I,E⟩:=Xas.1 h;have F:u∈l.take k:=by obtain⟨j,X,rfl⟩:=List.getElem_of_mem I;rw[Xap]at X;rw[List.getElem_take];exact List.mem_take_iff_getElem.2 ⟨j,by omega,rfl⟩
    rw[T u F]at E;cases E
   symm
   simp only[bne_iff_ne,ne_eq];omega
 ·have h : ∀ y ∈ l.take i, pM v y = false := fun y O => by have:=Xbf.1 (Xcz.2 h) y O;simpa using this
  rw[lR h J (zC.2 rfl) 0,rZ h];simp
def rX{α:Type}{p q:α->Bool}{l:List α}(h:∀a∈l,p a=q a):l.any p=l.any q:=by rw[Xar,Xas,Xas];exact⟨fun⟨a,h1,E⟩=>⟨a,h1,(h a h1)▸E⟩,fun⟨a,h1,E⟩=>⟨a,h1,(h a h1).symm▸E⟩⟩
def Mp{α:Type}{p q:α->Bool}{l:List α}(h:∀a∈l,p a=q a):l.all p=l.all q:=by rw[Xar,Xaj,Xaj];exact⟨fun F a E=>(h a E)▸F a E,fun F a E=>(h a E).symm▸F a E⟩
def GR{o:Order}{i:Int}(h1: -1<=o.pick.place)(E: -1<=o.drop.place):gW o i=cH o i:=by
 unfold gW cH;have e:∀n:Int,-1<=n->(decide (n>=0)=true↔(n != -1)=true):=by intro n F;simp only[decide_eq_true_eq,bne_iff_ne,ne_eq];omega
 simp only[e _ h1,e _ E]
def avL{l:List Visit}{u v:Visit}(h:u≠v)(T:bM l u>=0):bM l u≠bM l v:=by
 unfold bM at *;intro e;rcases vL (pM u) l with⟨_,h1⟩|⟨k,y,I,O,_,h1⟩
 ·omega
 ·rcases vL (pM v) l with⟨_,J⟩|⟨m,z,E,F,_,J⟩
  ·omega
  ·have:k=m:=by omega
   subst this;rw[I]at E;injection E with E;subst E;exact h ((zC.1 O).symm.trans (zC.1 F))
def aiG(l:List Visit)(v:Visit): -1<=bM l v:=by unfold bM;rcases vL (pM v) l with⟨_,h1⟩|⟨k,y,hk,hy,_,h1⟩ <;> omega
def aeA(l:List Visit)(o:Order)(i:Int):qM l (cH o i) (-1)= !(!iB l (cH o i)||(((cH o i).length:Int) == 2&&decide (bM l ((cH o i).getD 0 ⟨0,false⟩)>bM l ((cH o i).getD 1 ⟨0,false⟩)))):=by
 have e:∀v,decide (bM l v> -1)= !decide (bM l v<0):=fun v=>by rw[Xar];simp only[decide_eq_true_eq,Xax,decide_eq_false_iff_not];omega
 unfold cH;split
 ·split
  ·have E:=avL (l:=l) (u:=⟨i,false⟩) (v:=⟨i,true⟩) (by simp);have F:=aiG l ⟨i,true⟩;simp only[Xch,Xbn,qM,e,iB,List.all_cons,List.all_nil,Xai,List.length_nil,List.getD_cons_zero,List.getD_cons_succ,Xbh];rw[Xar];simp;omega
  ·simp[qM,iB,e]
 ·split
  ·simp[qM,iB,e]
  ·simp[qM,iB]
def ZP{x:Instance}(h:Acc x){l:List Visit}{v:Visit}(J:0<=v.order/\v.order<(x.orders.length:Int)):xG x.orders l v= !oG l (C7 x v.order) v:=by
 obtain⟨o,F⟩:=aK (show v.order.toNat<x.orders.length by omega);have E:=h.order o (Xac F);have I:cF v.order x.orders.length=false:=by simp only[cF,Xag,decide_eq_false_iff_not];omega
 unfold xG fX C7;rw[if_neg (by rw[I];simp),F];show(inV (gW o v.order) v&&qM l (gW o v.order) (-1))= !oG l (cH o v.order) v;rw[GR E.pick E.drop,aeA];unfold inV oG;rw[show decide (bM (cH o v.order) v>=0)= !decide (bM (cH o v.order) v<0)by rw[Xar];simp only[decide_eq_true_eq,Xax,decide_eq_false_iff_not];omega];generalize decide (bM (cH o v.order) v<0)=a;generalize iB l (cH o v.order)=b;generalize (((cH o v.order).length:Int) == 2&&decide (bM l ((cH o v.order).getD 0 ⟨0,false⟩)>bM l ((cH o v.order).getD 1 ⟨0,false⟩)))=c;cases a <;> cases b <;> cases c <;> rfl
def Lr{l:List Visit}{a b:Int}:GN l a b=true↔∃j k:Nat,k<j/\j<l.length/\fB l j=a/\fB l k=b:=by
 unfold GN wT;simp only[Xas,Xat,Xak,Xav];constructor
 ·rintro⟨j,F,k,E,h⟩;exact⟨j,k,E,F,h.1,h.2⟩
 ·rintro⟨j,k,E,F,h⟩;exact⟨j,F,k,E,h⟩
def JF{l:List Visit}{a b:Int}(O:a≠b):HE l a b=(!iU l b||(iU l a&& !GN l a b)):=by
 unfold HE;rcases vL (fun v:Visit=>v.order == b) l with⟨h0,h1⟩|⟨k,y,J,X,Y,h1⟩
 ·rw[h1,show iU l b=false from rZ h0];rfl
 ·rw[h1];have hb:iU l b=true:=Xas.2 ⟨y,Xac J,X⟩;rw[hb,show decide ((k:Int)<0)=false by simp];simp only[Xca,Xct,Xao]
  congr 2
  rw[Xar,Lr];unfold iU;rw[Xas];have I:y.order=b:=by simpa using X
  constructor
  ·rintro⟨u,hu,E⟩;obtain⟨i,hi,rfl⟩:=List.getElem_of_mem hu;rw[List.getElem_drop]at E;rw[Xbr]at hi;have E:(l[k+i]'(by omega)).order=a:=by simpa using E
   have ab:i≠0:=by
    rintro rfl;have:l[k+0]'(by omega)=y:=by have:=List.getElem?_eq_getElem (l:=l) (i:=k) (by omega);rw[J]at this;injection this with this;exact this.symm
    rw[this,I]at E;exact O E.symm
   exact⟨k+i,k,by omega,by omega,(gR (List.getElem?_eq_getElem (by omega))).trans E,(gR J).trans I⟩
  ·rintro⟨j,m,hm,Z,T,F⟩;have aa:k<=m:=by
    refine Decidable.byContradiction fun hc=>?_
    have:=Y (l[m]'(by omega)) (List.mem_take_iff_getElem.2 ⟨m,by omega,rfl⟩);rw[gR (List.getElem?_eq_getElem (show m<l.length by omega))]at F;simp[F]at this
   refine⟨l[j],?_,by rw[gR (List.getElem?_eq_getElem Z)]at T;simpa using T⟩;exact List.mem_drop_iff_getElem.2 ⟨j-k,by omega,by congr 1;omega⟩
def _root_.Go.Proofs.YtpagaknmdfgfkaaGreatDoor.Acc.seq{x:Instance}(h:Acc x)(l:List Visit):sV x l=fE x l:=by
 unfold sV fE;by_cases X:(l.any fun v=>cF v.order x.orders.length)=true
 ·rw[if_pos (by rw[X];simp),if_pos X]
 have O:(l.any fun v=>cF v.order x.orders.length)=false:=by simpa using X
 have F:∀v∈l,0<=v.order/\v.order<(x.orders.length:Int):=fun v J=>by
  have:=Xbf.1 O v J;have:cF v.order x.orders.length=false:=by simpa using this
  simp only[cF,Xag,decide_eq_false_iff_not]at this;omega
 have hl:=h.orders;have E:∀v∈l,AQ v=false:=fun v J=>by have:=F v J;simp only[AQ,Xag,decide_eq_false_iff_not];omega
 rw[if_neg X,(CF h.loadB F).1];show(if _ then _ else _)=_;rw[O];have Z:(((l.length:Int) == 0)||false)=(((0:Int) != 0)||((l.length:Int) == 0)):=by simp
 rw[Z];by_cases h0:(((0:Int) != 0)||((l.length:Int) == 0))=true
 ·rw[if_pos h0,if_pos h0]
 rw[if_neg h0,if_neg h0];have e2:(List.range l.length).any (qU l)=(List.range l.length).any (Bo l):=rX fun i hi=>Zp (Xat.1 hi)
 have e3:l.all (xG x.orders l)=zG x l:=Mp fun v J=>ZP h (F v J)
 have e4:(x.apart.any fun q=>iU l q.a&&iU l q.b)= !CE x (wP l:Nat):=by
  unfold CE;rw[List.not_all_eq_any_not];refine rX fun q Y=>?_
  have I:=h.apartB q Y;have h1:=uL E (i:=q.a) I.a.1 (by have:=I.a;omega);have T:=uL E (i:=q.b) I.b.1 (by have:=I.b;omega);rw[(CF h.loadB F).1]at h1 T;rw[h1,T];simp
 have e5:(x.before.any fun q=> !HE l q.a q.b)= !vZ x (wP l:Nat) l:=by
  unfold vZ;rw[List.not_all_eq_any_not];refine rX fun q Y=>?_
  have I:=h.beforeB q Y;have h1:=uL E (i:=q.a) I.a.1 (by have:=I.a;omega);have T:=uL E (i:=q.b) I.b.1 (by have:=I.b;omega);rw[(CF h.loadB F).1]at h1 T;unfold A0;rw[JF I.ne,h1,T]
 rw[e2,e3,e4,e5]
def awH{s c:Nat}(T:s<2^63)(Z:c<2^63):xR .andNot .i64 (s:Int) (c:Int)=0↔∀i,i<63->¬(s.testBit i=true/\c.testBit i=false):=by
 have h1:((s:Int)%((2^64:Nat):Int)).toNat=s:=by omega
 have X:((c:Int)%((2^64:Nat):Int)).toNat=c:=by omega
 have O:(BitVec.ofInt 64 (s:Int) &&& ~~~(BitVec.ofInt 64 (c:Int))).toNat<2^63:=by rw[BitVec.toNat_and,BitVec.toNat_ofInt,h1];exact Nat.lt_of_le_of_lt Nat.and_le_left T
 have e:xR .andNot .i64 (s:Int) (c:Int)=(((BitVec.ofInt 64 (s:Int) &&& ~~~(BitVec.ofInt 64 (c:Int))).toNat:Nat):Int):=by exact aU (n:=(((BitVec.ofInt 64 (s:Int) &&& ~~~(BitVec.ofInt 64 (c:Int))).toNat:Nat):Int)) (by omega)
 have E:∀i,i<64->(BitVec.ofInt 64 (s:Int) &&& ~~~(BitVec.ofInt 64 (c:Int))).toNat.testBit i=(s.testBit i&& !c.testBit i):=fun i I=>by
  rw[BitVec.testBit_toNat,BitVec.getLsbD_and,BitVec.getLsbD_not];have a1:(BitVec.ofInt 64 (s:Int)).getLsbD i=s.testBit i:=by rw[<-BitVec.testBit_toNat,BitVec.toNat_ofInt,h1]
  have a2:(BitVec.ofInt 64 (c:Int)).getLsbD i=c.testBit i:=by rw[<-BitVec.testBit_toNat,BitVec.toNat_ofInt,X]
  rw[a1,a2,decide_eq_true I];simp
 rw[e];constructor
 ·intro h0 i I F;have h0:(BitVec.ofInt 64 (s:Int) &&& ~~~(BitVec.ofInt 64 (c:Int))).toNat=0:=by omega
  have:=E i (by omega);rw[h0,F.1,F.2]at this;simp at this
 ·intro J;have:(BitVec.ofInt 64 (s:Int) &&& ~~~(BitVec.ofInt 64 (c:Int))).toNat=0:=by
   refine Nat.eq_of_testBit_eq fun i=>?_
   rw[Nat.zero_testBit];by_cases I:i<63
   ·rw[E i (by omega)];have:=J i I;cases Y:s.testBit i <;> cases h4:c.testBit i <;> simp_all
   ·refine Xcv (Xbu O (Xau (by decide) (by omega)))
  omega
def Pn{s i:Nat}(F:s<2^63):((IntKind.i64.wrap (Int.tdiv (s:Int) ((2^i:Nat):Int))).tmod 2 == 1)=s.testBit i:=by
 have e:Int.tdiv (s:Int) ((2^i:Nat):Int)=((s/2^i:Nat):Int):=by rw[Xce (by omega)];norm_cast
 have E:s/2^i<=s:=Xcp _ _;rw[e,Xdb];generalize s/2^i=q at E;rw[show IntKind.i64.wrap (q:Int)=(q:Int)from aU (by omega),Xcs (by omega)];rw[Xar];simp only[Xav,decide_eq_true_eq];omega
def Mh{s i:Nat}(F:s<2^63):((IntKind.i64.wrap (Int.tdiv (s:Int) ((2^i:Nat):Int))).tmod 2 == 0)= !s.testBit i:=by
 rw[<-Pn F];have e:Int.tdiv (s:Int) ((2^i:Nat):Int)=((s/2^i:Nat):Int):=by rw[Xce (by omega)];norm_cast
 have E:s/2^i<=s:=Xcp _ _;rw[e];generalize s/2^i=q at E;rw[show IntKind.i64.wrap (q:Int)=(q:Int)from aU (by omega),Xcs (by omega)];rw[Xar];simp only[Xav,Xax,beq_eq_false_iff_ne,ne_eq];omega
def ZZ{c s:Int}(T:0<=c/\c<=1073741823)(J:0<=s/\s<=1073741823):xM c s=sK c s:=by
 obtain⟨c,rfl⟩:=Int.eq_ofNat_of_zero_le T.1;obtain⟨s,rfl⟩:=Int.eq_ofNat_of_zero_le J.1;have E:c<2^63:=by omega
 have F:s<2^63:=by omega
 unfold xM sK;rw[show decide ((c:Int)>=0)=true by simp,show decide ((s:Int)>=0)=true by simp,show decide ((c:Int)<0)=false by simp,show decide ((s:Int)<0)=false by simp];simp only[Xaz,Bool.or_self,Xcy];rw[Xar,Xav,awH F E,Xaj];constructor
 ·intro h i I;have:=h i (Xat.1 I);unfold AA;rw[Pn F,Mh E];cases h1:s.testBit i <;> cases O:c.testBit i <;> simp_all
 ·intro h i I;have:=h i (Xat.2 I);unfold AA at this;rw[Pn F,Mh E]at this;cases h1:s.testBit i <;> cases O:c.testBit i <;> simp_all
def YT(a b:Int):W (W a+b)=W (a+b):=by
 show IntKind.i64.wrap (IntKind.i64.wrap a+b)=IntKind.i64.wrap (a+b);have e:∀n:Int,IntKind.i64.wrap n=if n%18446744073709551616>=9223372036854775808 then n%18446744073709551616-18446744073709551616 else n%18446744073709551616:=fun n=>by show(if(true&&decide (n%18446744073709551616>=9223372036854775808))=true then n%18446744073709551616-18446744073709551616 else n%18446744073709551616)=_;simp
 simp only[e]
 repeat' split
 all_goals omega
def axM(a b:Int):W (W a-b)=W (a-b):=by
 have:=YT a (-b)
 rwa [<-Int.sub_eq_add_neg,<-Int.sub_eq_add_neg]at this
def uK:Nat->(Nat->Int)->Int
 | 0,_=>0
 | n+1,f=>uK n f+f n
def BX{f g:Nat->Int}:∀{n:Nat},(∀i,i<n->f i=g i)->uK n f=uK n g
 | 0,_=>rfl
 | n+1,h=>by unfold uK;rw[BX fun i E=>h i (by omega),h n (by omega)]
def Ls{f g:Nat->Int}{i0:Nat}:∀{n:Nat},i0<n->(∀i,i<n->i≠i0->f i=g i)->uK n g=uK n f+(g i0-f i0)
 | n+1,E,h=>by
  unfold uK;by_cases e:i0=n
  ·subst e;rw[BX (f:=f) (g:=g) fun i E=>h i (by omega) (by omega)];omega
  ·have:=Ls (f:=f) (g:=g) (n:=n) (by omega) fun i E=>h i (by omega)
   rw[this,h n (by omega) (by omega)];omega
def MR{f:Nat->Int}{n:Nat}(h:∀i,n<=i->f i=0):∀m,uK (n+m) f=uK n f
 | 0=>rfl
 | m+1=>by show uK (n+m) f+f (n+m)=_;rw[MR h m,h _ (by omega)];omega
def JC(x:Instance)(j i:Nat):Int:=match x.orders[i]? with|some o=>o.load.getD j 0|none=>0
def stB(l:List Visit)(i:Int)(b:Bool)(k:Nat):Bool:=(l.take k).foldl (fun s v=>if(v.order != i)=true then s else !v.drop) b
def Bh{l:List Visit}{i:Int}{b:Bool}{k:Nat}{v:Visit}(h:l[k]?=some v):stB l i b (k+1)=if(v.order != i)=true then stB l i b k else !v.drop:=by unfold stB;rw[bA h,Xbm];rfl
def SC(l:List Visit)(i:Int)(b:Bool):∀k,k<=l.length->((∀u∈l.take k,u.order≠i)/\stB l i b k=b)\/∃m u,m<k/\l[m]?=some u/\u.order=i/\stB l i b k= !u.drop
 | 0,_=>.inl ⟨by simp,rfl⟩
 | k+1,hk=>by
  obtain⟨v,F⟩:=aK (show k<l.length by omega);rw[Bh F];by_cases h:v.order=i
  ·right;rw[if_neg (by simp[h])];exact⟨k,v,by omega,F,h,rfl⟩
  ·rw[if_pos (by simp[h])];rcases SC l i b k (by omega)with⟨h1,I⟩|⟨m,u,h1,I,J,O⟩
   ·left;refine⟨fun u E=>?_,I⟩;rw[bA F]at E;rcases Xbb.1 E with E|E
    ·exact h1 u E
    ·simp at E;subst E;exact h
   ·right;exact⟨m,u,by omega,I,J,O⟩
def WU(l:List Visit)(i:Int)(n:Nat)(b:Bool):∀m,m<=l.length->Dq l i n b m=(stB l i b (min n m),iU (l.take m) i)
 | 0,_=>by rw[Nat.min_zero];rfl
 | m+1,hm=>by
  obtain⟨v,E⟩:=aK (show m<l.length by omega);rw[LJ E,WU l i n b m (by omega)];have e:iU (l.take (m+1)) i=(iU (l.take m) i||v.order == i):=by unfold iU;rw[bA E,List.any_append];simp
  rw[e];unfold onS;by_cases h:v.order=i
  ·rw[if_neg (by simp[h])];by_cases F:m<n
   ·rw[if_pos (by simp;omega),show min n (m+1)=m+1 by omega,Bh E,if_neg (by simp[h])];simp[h]
   ·rw[if_neg (by simp;omega),show min n (m+1)=min n m by omega];simp[h]
  ·rw[if_pos (by simp[h])];have:(v.order == i)=false:=by simpa using h
   rw[this,Bool.or_false];by_cases F:m<n
   ·rw[show min n (m+1)=m+1 by omega,Bh E,if_pos (by simp[h]),show min n m=m by omega]
   ·rw[show min n (m+1)=min n m by omega]
def auL(l:List Visit)(k i:Nat)(o:Order)(E:k<=l.length):onB l k i o=(stB l i (decide (o.pick.place<0)) k&&iU l i):=by unfold onB;have:asF l i k (decide (o.pick.place<0))=Dq l i k (decide (o.pick.place<0)) l.length:=rfl;rw[this,WU l i k _ _ (Xaf _),Xad,show min k l.length=k by omega]
def onK(x:Instance)(l:List Visit)(k i:Nat):Bool:=match x.orders[i]? with|some o=>stB l i (decide (o.pick.place<0)) k&&iU l i|none=>false
def vU(x:Instance)(l:List Visit)(k j i:Nat):Int:=if onK x l k i=true then JC x j i else 0
def Wx(ll:List (List Int))(a:List Int)(j:Nat):lK (ll++[a]) j=W (lK ll j+a.getD j 0):=by unfold lK;rw[Xbm];rfl
def LO(x:Instance)(l:List Visit)(k j:Nat)(F:k<=l.length):∀n,n<=x.orders.length->lK (kF x.orders l k n) j=W (uK n (vU x l k j))
 | 0,_=>rfl
 | n+1,hn=>by
  obtain⟨o,E⟩:=aK (show n<x.orders.length by omega);have ih:=LO x l k j F n (by omega);rw[AH E];show _=W (uK n (vU x l k j)+vU x l k j n);have e:onK x l k n=onB l k n o:=by unfold onK;rw[E,auL l k n o F]
  unfold vU;rw[e];by_cases h:onB l k n o=true
  ·rw[if_pos h,if_pos h,Wx,ih,YT];unfold JC;rw[E];rfl
  ·rw[if_neg h,if_neg h,Xah,ih,Int.add_zero];rfl
def Jr{f:Int->Int->Int}{a b:List Int}{j:Nat}(F:j<a.length)(E:j<b.length):(List.zipWith f a b).getD j 0=f (a.getD j 0) (b.getD j 0):=by simp[List.getD,List.getElem?_zipWith,List.getElem?_eq_getElem F,List.getElem?_eq_getElem E]
def pkN(x:Instance)(i:Nat):Bool:=match x.orders[i]? with|some o=>decide (o.pick.place<0)|none=>false
def Np{x:Instance}{d:Nat}(O:∀o∈x.orders,o.load.length=d){s:Int}{j:Nat}(J:j<d):∀m,
  ((rN s m).foldl (qQ x) (List.replicate d 0)).getD j 0=W (uK m fun i=>if(dO s i&&pkN x i)=true then JC x j i else 0)
 | 0=>by simp[rN,uK,List.getD,J];rfl
 | m+1=>by
  have ih:=Np O (s:=s) J m;have F:=DI O (rN s m);rw[oB,Xbm];generalize X:(rN s m).foldl (qQ x) (List.replicate d 0)=A at ih F |-;show _=W (uK m _+if(dO s (m:Int)&&pkN x m)=true then JC x j m else 0);cases T:dO s (m:Int)with
  | false=>rw[Bool.false_and,if_neg (by simp),if_neg (by simp),Int.add_zero];exact ih
  | true=>
   rw[if_pos rfl];simp only[Xbv,List.foldl_nil];unfold qQ;rw[Xao];cases I:x.orders[m]? with
   | none=>
    have E:pkN x m=false:=by unfold pkN;rw[I]
    rw[E,Bool.and_false,if_neg (by simp),Int.add_zero];exact ih
   | some o=>
    have E:pkN x m=decide (o.pick.place<0):=by unfold pkN;rw[I]
    rw[E,Xaz];show(if decide (o.pick.place<0)=true then yZ A o.load else A).getD j 0=_;by_cases E:decide (o.pick.place<0)=true
    ·rw[if_pos E,if_pos E];unfold yZ;rw[Jr (by omega) (by rw[O o (Xac I)];exact J),ih];unfold YS JC;rw[YT,I]
    ·rw[if_neg E,if_neg E,Int.add_zero];exact ih
def ajW{l:List Visit}{k:Nat}{v:Visit}(h:l[k]?=some v):iU l v.order=true:=Xas.2 ⟨v,Xac h,by simp⟩
def Hd{x:Instance}{l:List Visit}(h:fE x l=0):(List.range l.length).any (Bo l)=false/\zG x l=true:=by
 unfold fE at h
 repeat' split at h
 all_goals first|(exfalso;omega)|skip
 rename_i h1 O J F E I T;exact⟨by simpa using F,by simpa using E⟩
def Pp{x:Instance}{l:List Visit}(h:fE x l=0){k:Nat}{v:Visit}(E:l[k]?=some v):bM l v=k:=by have F:k<l.length:=(List.getElem?_eq_some_iff.1 E).1;have:=Xbf.1 (Hd h).1 k (Xat.2 F);unfold Bo at this;rw[show l.getD k ⟨0,false⟩=v by simp[List.getD,E]]at this;simpa using this
def _root_.Go.Proofs.YtpagaknmdfgfkaaGreatDoor.Acc.board{x:Instance}(h:Acc x){l:List Visit}(Y:fE x l=0){k:Nat}{v:Visit}{o:Order}(X:l[k]?=some v)(ho:x.orders[v.order.toNat]?=some o):stB l v.order (decide (o.pick.place<0)) k=v.drop:=by
 have hk:k<l.length:=(List.getElem?_eq_some_iff.1 X).1;have hO:=h.order o (Xac ho);have hp:=Xaj.1 (Hd Y).2 v (Xac X);have aa:C7 x v.order=cH o v.order:=by unfold C7;rw[ho]
 rw[aa]at hp;simp only[oG,Xax,Xag,decide_eq_false_iff_not]at hp;obtain⟨⟨Z,ab⟩,I⟩:=hp;have F:v∈cH o v.order:=by
  unfold bM at Z;rcases vL (pM v) (cH o v.order)with⟨_,e⟩|⟨m,y,E,T,_,e⟩
  ·omega
  ·have:=Xac E
   rwa [zC.1 T]at this
 have J:∀w∈cH o v.order,0<=bM l w:=fun w hw=>by
  have:=Xaj.1 (show iB l (cH o v.order)=true by simpa using ab) w hw;have:=aiG l w;have h0:¬bM l w<0:=by simpa using ‹(!decide (bM l w<0))=true›
  omega
 rcases SC l v.order (decide (o.pick.place<0)) k (by omega)with⟨hn,he⟩|⟨m,u,E,hu,af,he⟩
 ·rw[he];cases O:v.drop with
  | false=>
   have:o.pick.place≠ -1:=by
    intro e;unfold cH at F;rw[e]at F;rcases Xbb.1 F with E|E
    ·simp at E
    ·split at E
     ·have:v=⟨v.order,true⟩:=by simpa using E
      rw[this]at O;cases O
     ·cases E
   have:=hO.pick;simp;omega
  | true=>
   refine decide_eq_true (Decidable.byContradiction fun ae=>?_);have h1:(o.pick.place != -1)=true:=by simp;omega
   have h2:(o.drop.place != -1)=true:=by
    unfold cH at F;rcases Xbb.1 F with E|E
    ·rw[if_pos h1]at E;have:v=⟨v.order,false⟩:=by simpa using E
     rw[this]at O;cases O
    ·split at E
     ·assumption
     ·cases E
   have e:cH o v.order=[⟨v.order,false⟩,⟨v.order,true⟩]:=by unfold cH;rw[if_pos h1,if_pos h2];rfl
   have ev:(⟨v.order,true⟩:Visit)=v:=by cases v;simp_all
   rw[e]at I J;have hi:=J ⟨v.order,false⟩ (by simp);have I:¬bM l ⟨v.order,false⟩>bM l ⟨v.order,true⟩:=by simpa using I
   rw[ev,Pp Y X]at I;unfold bM at hi I;rcases vL (pM ⟨v.order,false⟩) l with⟨_,e⟩|⟨m,y,E,T,_,e⟩
   ·omega
   ·have T:=zC.1 T;subst T;have ac:m≠k:=by rintro rfl;rw[X]at E;injection E with E;rw[E]at O;cases O
    exact hn ⟨v.order,false⟩ (List.mem_take_iff_getElem.2 ⟨m,by have:=(List.getElem?_eq_some_iff.1 E).1;omega,(List.getElem?_eq_some_iff.1 E).2⟩) rfl
 ·rw[he];have:u≠v:=by rintro rfl;have h1:=Pp Y hu;have h2:=Pp Y X;omega
  cases O:v.drop <;> cases ad:u.drop <;> first|rfl|(exfalso;apply this;cases u;cases v;simp_all)
def WZ{x:Instance}(h:Acc x){l:List Visit}(X:fE x l=0){j:Nat}(Z:j<(fR x).toNat):∀k,k<=l.length->(FL x l k).getD j 0=W (uK x.orders.length (vU x l k j))
 | 0,_=>by
  have J:=DS X;have I:∀v∈l,AQ v=false:=fun v E=>by have:=J v E;have:=h.orders;simp only[AQ,Xag,decide_eq_false_iff_not];omega
  have hs:=Np h.loadB.load (s:=(cU l).1) Z 63;have e0:FL x l 0=(rN (cU l).1 63).foldl (qQ x) (List.replicate (fR x).toNat 0):=rfl;rw[e0,hs];have hN:=h.orders;rw[show 63=x.orders.length+(63-x.orders.length)by omega,MR (n:=x.orders.length) (fun i O=>by
   have:pkN x i=false:=by unfold pkN;rw[List.getElem?_eq_none O]
   show(if(dO _ _&&pkN x i)=true then _ else _)=_;rw[this,Bool.and_false,if_neg (by simp)])]
  congr 1
  refine BX fun i O=>?_
  obtain⟨o,F⟩:=aK O;unfold vU onK pkN;rw[F,Iw I (by omega) (by omega)];show(if(iU l i&&decide (o.pick.place<0))=true then _ else _)=if(decide (o.pick.place<0)&&iU l i)=true then _ else _
  rw[Bool.and_comm]
 | k+1,hk=>by
  obtain⟨v,E⟩:=aK (show k<l.length by omega);have J:=DS X v (Xac E);obtain⟨o,F⟩:=aK (show v.order.toNat<x.orders.length by omega);have ih:=WZ h X Z k (by omega);have aa:=Ee h.loadB l k;have ab:=h.loadB.load o (Xac F);have hb:=h.board X E F;have hh:=ajW E;have hn:((v.order.toNat:Nat):Int)=v.order:=by omega
  have t0:vU x l k j v.order.toNat=if v.drop=true then o.load.getD j 0 else 0:=by unfold vU onK JC;rw[F,hn,hh];show(if(stB l v.order (decide (o.pick.place<0)) k&&true)=true then o.load.getD j 0 else 0)=_;rw[hb,Xbh]
  have t1:vU x l (k+1) j v.order.toNat=if v.drop=true then 0 else o.load.getD j 0:=by unfold vU onK JC;rw[F,hn,hh];show(if(stB l v.order (decide (o.pick.place<0)) (k+1)&&true)=true then o.load.getD j 0 else 0)=_;rw[show stB l v.order (decide (o.pick.place<0)) (k+1)= !v.drop by rw[Bh E,if_neg (by simp)],Xbh];cases v.drop <;> rfl
  have ht:∀i,i<x.orders.length->i≠v.order.toNat->vU x l k j i=vU x l (k+1) j i:=fun i O ac=>by
   obtain⟨T,Y⟩:=aK O;unfold vU onK;rw[Y];show(if(stB l i (decide (T.pick.place<0)) k&&iU l i)=true then _ else _)=if(stB l i (decide (T.pick.place<0)) (k+1)&&iU l i)=true then _ else _
   rw[show stB l i (decide (T.pick.place<0)) (k+1)=stB l i (decide (T.pick.place<0)) k by rw[Bh E,if_pos (by simp;omega)]]
  rw[Ls (f:=vU x l k j) (g:=vU x l (k+1) j) (i0:=v.order.toNat) (by omega) ht,Mt E,t0,t1];unfold Us;rw[F];show(if v.drop=true then DB (FL x l k) o.load else yZ (FL x l k) o.load).getD j 0=_;cases hd:v.drop with
  | true=>rw[if_pos rfl,if_pos rfl,if_pos rfl];unfold DB;rw[Jr (by omega) (by omega),ih];unfold Vc;rw[axM];congr 1;omega
  | false=>rw[if_neg (by simp),if_neg (by simp),if_neg (by simp)];unfold yZ;rw[Jr (by omega) (by omega),ih];unfold YS;rw[YT];congr 1;omega
def anE{x:Instance}(h:Acc x)(l:List Visit)(n:Int):jI (kF x.orders l n x.orders.length) (fR x)=true:=by
 have J:=h.dims;unfold jI;rw[show decide (fR x<0)=false by simp;omega,show decide (fR x>3)=false by simp;omega];simp only[Bool.or_self,Xcy,Xaz];rw[Xaj];intro a I;unfold kF at I;obtain⟨i,_,E⟩:=List.mem_flatMap.1 I;cases F:x.orders[i]? with
 | none=>rw[F]at E;cases E
 | some o=>
  rw[F]at E;have:=h.loadB.load o (Xac F);dsimp only at E;split at E
  ·have:a=o.load:=by simpa using E
   subst this;simp;omega
  ·cases E
def acV{a b:List Int}(h1:a.length=b.length)(h:∀j,j<a.length->a.getD j 0=b.getD j 0):a=b:=by
 refine List.ext_getElem h1 fun j E F=>?_
 have:=h j E;simpa[List.getD,List.getElem?_eq_getElem E,List.getElem?_eq_getElem F]using this
def LA{x:Instance}(h:Acc x){l:List Visit}(I:fE x l=0){k:Nat}(F:k<=l.length):nA x l k=(FL x l k,0):=by
 unfold nA wF;rw[if_pos (anE h l k)]
 congr 1
 have J:=Ee h.loadB l k;refine acV (by simp[J]) fun j E=>?_
 have E:j<(fR x).toNat:=by simpa using E
 rw[WZ h I E k F,<-LO x l k j F _ (Xaf _)];simp[List.getD,E]
def _root_.Go.Proofs.YtpagaknmdfgfkaaGreatDoor.Acc.loads{x:Instance}(h:Acc x)(l:List Visit):oV x l=kI x l:=by
 unfold oV kI;rw[h.seq l];by_cases E:(fE x l != 0)=true
 ·rw[if_pos E,if_pos E]
 rw[if_neg E,if_neg E];have E:fE x l=0:=by simpa using E
 have F:AW (OB x l)=0:=GE fun e F=>by unfold OB at F;obtain⟨n,I,rfl⟩:=Xbe.1 F;rw[LA h E (by have:=Xat.1 I;omega)];rfl
 rw[if_neg (by rw[F];simp)]
 congr 1
 unfold yC Kd;exact List.map_congr_left fun n I=>by rw[LA h E (by have:=Xat.1 I;omega)]
def _root_.Go.Proofs.YtpagaknmdfgfkaaGreatDoor.Acc.fits{x:Instance}(h:Acc x)(r:Route):A5 x r=AS x r:=by unfold A5 AS;rw[h.loads]
end Sq
namespace Sq
open Mv (bP bS aO)
def UA{x:Instance}{t:VType}{r:Route}(E:RouteB x t r){k:Nat}(X:k<=r.visits.length){l m T:Lab}{b:Bool}(bl:LabB l k)(I:LabB m k)(J:oO l m)(h:gI x t r k m b=.ok T):
  ∃l',gI x t r k l b=.ok l'/\oO l' T:=by
 have Y:=E.short;by_cases F:k<r.visits.length
 ·obtain⟨v,O⟩:=aK F;have e:∀l,gI x t r k l b=pG x t (iF x t r k) (bI x v).1 k l b:=fun l=>by unfold gI;rw[O]
  rw[e]at h |-;exact Js (by omega) E.go (E.stop v (Xac O)) bl I J h
 ·have e:∀l,gI x t r k l b=rR x t (iF x t r k) k l b:=fun l=>by unfold gI;rw[List.getElem?_eq_none (by omega)]
  rw[e]at h |-;exact Kw (by omega) E.go bl I J h
def okO(e:Except Int Lab):Option Lab:=match e with| .ok l=>some l| .error _=>none
def okL(es:List (Except Int Lab)):List Lab:=es.filterMap okO
def anI(a b:List (Except Int Lab)):okL (a++b)=okL a++okL b:=List.filterMap_append
def Pm{es:List (Except Int Lab)}{l:Lab}:l∈okL es↔.ok l∈es:=by
 unfold okL;rw[List.mem_filterMap];constructor
 ·rintro⟨e,E,h⟩;cases e with
  | error e=>cases h
  | ok l'=>injection h with h;subst h;exact E
 ·intro h;exact⟨_,h,rfl⟩
def Pd(fixed:List Bool):Nat->List (List Bool)
 | 0=>[[]]
 | k+1=>(Pd fixed k).flatMap fun c=>(eK fixed k).map fun b=>c++[b]
def B5(fixed:List Bool):∀k,∀c∈Pd fixed k,c.length=k
 | 0,c,h=>by have h:c∈[[]]:=h;simp at h;subst h;rfl
 | k+1,c,h=>by obtain⟨d,E,h⟩:=List.mem_flatMap.1 h;obtain⟨b,_,rfl⟩:=Xbe.1 h;simp[B5 fixed k d E]
def wH(x:Instance)(t:VType)(r:Route)(k:Nat)(l:Lab):List (Except Int Lab):=(eK r.rests k).map fun b=>gI x t r k l b
def N9(x:Instance)(t:VType)(r:Route)(L:List (List Bool)):List Lab:=okL (L.map fun c=>kO x t r c 0 (gK t r))
def Mc(x:Instance)(t:VType)(r:Route)(k:Nat):∀L:List (List Bool),(∀c∈L,c.length=k) ->
   N9 x t r (L.flatMap fun c=>(eK r.rests k).map fun b=>c++[b])=(N9 x t r L).flatMap fun l=>okL (wH x t r k l)
 | [],_=>rfl
 | c::L,h=>by
   have ih:=Mc x t r k L fun d F=>h d (by simp[F])
   have I:=h c (by simp);unfold N9 at ih |-;rw[List.flatMap_cons,Xam,anI,ih,Xba];have e : okL (((eK r.rests k).map fun b => c ++ [b]).map fun c => kO x t r c 0 (gK t r)) = match kO x t r c 0 (gK t r) with
       | .error _=>[]
       | .ok l=>okL (wH x t r k l):=by
     rw[List.map_map];cases E:kO x t r c 0 (gK t r)with
     | error e=>
       dsimp only;refine List.filterMap_eq_nil_iff.2 fun a J=>?_
       obtain⟨b,_,rfl⟩:=Xbe.1 J;show okO (kO x t r (c++[b]) 0 (gK t r))=none;rw[qG,E];rfl
     | ok l=>
       dsimp only;unfold wH
       congr 1
       refine List.map_congr_left fun b _=>?_
       show kO x t r (c++[b]) 0 (gK t r)=_;rw[qG,E];show gI x t r (0+c.length) l b=_;rw[I,Xcg]
   rw[e];cases E:kO x t r c 0 (gK t r)with
   | error e=>rfl
   | ok l=>rfl
inductive Cov:List Lab->List Lab->Prop
 | nil:Cov [] []
 | keep {f d:List Lab} (l:Lab):Cov f d->Cov (f++[l]) (d++[l])
 | skip {f d:List Lab} (l m:Lab):Cov f d->m∈d->oO m l->Cov (f++[l]) d
def Cov.sub{f d:List Lab}(h:Cov f d):∀m∈d,m∈f:=by
 induction h with
 | nil=>simp
 | keep l _ ih=>
  intro m E;rcases Xbb.1 E with E|E
  ·exact Xbt _ (ih m E)
  ·exact Xcw _ E
 | skip l m _ _ _ ih=>intro q F;exact Xbt _ (ih q F)
def Cov.add{F D:List Lab}(h:Cov F D)(es:List (Except Int Lab)):Cov (F++okL es) (es.foldl wR D):=by
 induction es generalizing F D with
 | nil=>simpa[okL]using h
 | cons e es ih=>
  cases e with
  | error e=>exact ih h
  | ok l=>
   have J:F++okL (.ok l::es)=(F++[l])++okL es:=by rw[show okL (.ok l::es)=l::okL es from rfl,Xaq];rfl
   rw[J,Xbv];refine ih ?_;show Cov (F++[l]) (if D.any (wC · l)=true then D else D++[l]);by_cases E:D.any (wC · l)=true
   ·rw[if_pos E];obtain⟨m,O,I⟩:=Xas.1 E;exact .skip l m h O (IK.1 I)
   ·rw[if_neg E];exact .keep l h
def Cov.skips{F D:List Lab}(h:Cov F D)(E:List Lab):(∀l∈E,∃m∈D,oO m l)->Cov (F++E) D:=by
 induction E generalizing F with
 | nil=>intro _;simpa using h
 | cons l E ih=>intro I;obtain⟨m,O,J⟩:=I l (by simp);rw[show F++l::E=(F++[l])++E by simp];exact ih (.skip l m h O J) fun q T=>I q (by simp[T])
def Cov.grow{x:Instance}{t:VType}{r:Route}(hB:RouteB x t r){k:Nat}(X:k<=r.visits.length){f d:List Lab}(h:Cov f d):
  (∀l∈f,LabB l k)->Cov (f.flatMap fun l=>okL (wH x t r k l)) (Bw x t r d k):=by
 induction h with
 | nil=>intro _;exact .nil
 | @keep f d l h ih=>
  intro E;have ih:=ih fun q F=>E q (Xbt _ F)
  rw[Xcd,show[l].flatMap (fun l=>okL (wH x t r k l))=okL (wH x t r k l)by simp];have e:Bw x t r (d++[l]) k=(wH x t r k l).foldl wR (Bw x t r d k):=by unfold Bw;rw[Xcd,Xbm,show[l].flatMap (fun l=>(eK r.rests k).map fun b=>gI x t r k l b)=wH x t r k l by simp[wH]]
  rw[e];exact ih.add _
 | @skip f d l m h hm hb ih=>
  intro E;have ih:=ih fun q F=>E q (Xbt _ F)
  rw[Xcd,show[l].flatMap (fun l=>okL (wH x t r k l))=okL (wH x t r k l)by simp];refine ih.skips _ fun q F=>?_
  obtain⟨b,J,I⟩:=Xbe.1 (Pm.1 F);obtain⟨Y,h1,Z⟩:=UA hB X (E m (Xbt _ (h.sub m hm))) (E l (by simp)) hb I;obtain⟨q',O,T⟩:=(Cm (d.flatMap fun l=>(eK r.rests k).map fun b=>gI x t r k l b) []).2.2 Y (List.mem_flatMap.2 ⟨m,hm,Xbe.2 ⟨b,J,h1⟩⟩);exact⟨q',O,T.trans Z⟩
def Yz{x:Instance}{t:VType}{r:Route}(E:RouteB x t r):∀k,k<=r.visits.length+1->Cov (N9 x t r (Pd r.rests k)) (dpL x t r k)
 | 0,_=>Cov.keep (gK t r) Cov.nil
 | k+1,hk=>by
  have ih:=Yz E k (by omega);show Cov (N9 x t r ((Pd r.rests k).flatMap fun c=>(eK r.rests k).map fun b=>c++[b])) (Bw x t r (dpL x t r k) k);rw[Mc x t r k _ (B5 r.rests k)];refine ih.grow E (by omega) fun l I=>?_
  obtain⟨c,F,J⟩:=Xbe.1 (Pm.1 I);exact Oh E k c l (B5 r.rests k c F) (by omega) J
def fmS(o:Option Lab)(m:Lab):Option Lab:=match o with|none=>some m|some b=>some (nB b m)
def fm(l:List Lab):Option Lab:=l.foldl fmS none
def XJ(l:Lab)(E:List Lab):fm (l::E)=some (E.foldl nB l):=by
 show E.foldl fmS (some l)=_;induction E generalizing l with
 | nil=>rfl
 | cons a r ih=>exact ih (nB l a)
def Oq(f:List Lab)(l:Lab):fm (f++[l])=fmS (fm f) l:=by unfold fm;rw[Xbm];rfl
def adA(b m:Lab):(nB b m).sheet.end_<=b.sheet.end_/\(nB b m).sheet.end_<=m.sheet.end_:=by unfold nB;split <;> simp_all <;> omega
def Qb:∀(F:List Lab) (b:Lab),(F.foldl nB b).sheet.end_<=b.sheet.end_/\∀m∈F,(F.foldl nB b).sheet.end_<=m.sheet.end_
 | [],b=>⟨Xbq _,by simp⟩
 | a::r,b=>by
  have ih:=Qb r (nB b a);have h:=adA b a;refine⟨Int.le_trans ih.1 h.1,fun m E=>?_⟩;rcases Xbc.1 E with rfl|E
  ·exact Int.le_trans ih.1 h.2
  ·exact ih.2 m E
def atS{d:List Lab}{m:Lab}(E:m∈d):∃b,fm d=some b/\b.sheet.end_<=m.sheet.end_:=by
 cases d with
 | nil=>cases E
 | cons a r=>
  refine⟨_,XJ a r,?_⟩;have h:=Qb r a;rcases Xbc.1 E with rfl|E
  ·exact h.1
  ·exact h.2 m E
def Cov.first{f d:List Lab}(h:Cov f d):(∀l∈f,l.sheet.end_=l.ready)->fm f=fm d:=by
 induction h with
 | nil=>intro _;rfl
 | keep l h ih=>intro E;rw[Oq,Oq,ih fun q F=>E q (Xbt _ F)]
 | skip l m h hm hb ih=>intro E;rw[Oq,ih fun q F=>E q (Xbt _ F)];obtain⟨b,h1,O⟩:=atS hm;rw[h1];have J:=E l (by simp);have T:=E m (Xbt _ (h.sub m hm));have I:=hb.1;show some (nB b l)=some b;unfold nB;rw[if_neg (by simp;omega)]
def Fe:∀(m:Nat) (p:List Bool),tQ p (m+1)=(tQ p m).flatMap fun c=>[c++[false],c++[true]]
 | 0,p=>rfl
 | m+1,p=>by show tQ (p++[false]) (m+1)++tQ (p++[true]) (m+1)=(tQ (p++[false]) m++tQ (p++[true]) m).flatMap _;rw[Fe m,Fe m,Xcd]
def J5(fixed:List Bool):∀k,k<=fixed.length->Pd fixed k=[fixed.take k]
 | 0,_=>rfl
 | k+1,h=>by show(Pd fixed k).flatMap _=_;rw[J5 fixed k (by omega)];unfold eK;rw[if_pos (by omega)];simp only[List.flatMap_cons,List.flatMap_nil,Xah,Xba,Xbz];rw[bA (List.getElem?_eq_getElem (by omega))];simp[List.getD,List.getElem?_eq_getElem (show k<fixed.length by omega)]
def agQ(fixed:List Bool):∀m,Pd fixed (fixed.length+m)=tQ fixed m
 | 0=>by rw[Nat.add_zero,J5 fixed _ (Xaf _),Xad];rfl
 | m+1=>by show(Pd fixed (fixed.length+m)).flatMap _=_;rw[agQ fixed m,Fe];unfold eK;rw[if_neg (show ¬fixed.length.add m<fixed.length from fun e=>absurd (show fixed.length+m<fixed.length from e) (by omega))];rfl
def ZW(o:Option Lab)(b:Sheet×Bool):Prop:=match o with|none=>b=(aX,false)|some m=>b=(m.sheet,true)
def SU{x:Instance}{r:Route}{t:VType}(T:bW x r=true)(O:x.types[r.type.toNat]?=some t)(J:∀v∈r.visits,(bI x v).1.start<=(bI x v).1.close):
  ∀(L:List (List Bool)) (o:Option Lab) (b:Sheet×Bool),(∀c∈L,c.length=r.visits.length+1)->ZW o b->ZW ((N9 x t r L).foldl fmS o) (A3 x r L b)
 | [],o,b,_,h=>h
 | c::L,o,b,hl,h=>by
  have h0:=Re (bs:=c) T O (hl c (by simp)) J;have ih:=SU T O J L;show ZW _ (A3 x r L (iI x r c b));have I:=fun d X=>hl d (List.mem_cons_of_mem c X)
  unfold N9;rw[Xba];cases E:kO x t r c 0 (gK t r)with
  | error e=>
   rw[E]at h0;have F:=EN _ _ _ _ E;show ZW ((N9 x t r L).foldl fmS o) _;have:iI x r c b=b:=by unfold iI;rw[if_neg];rw[h0.2];simp[F]
   rw[this];exact ih o b I h
  | ok m=>
   rw[E]at h0;show ZW ((N9 x t r L).foldl fmS (fmS o m)) _;refine ih _ _ I ?_;unfold iI;rw[h0.1,h0.2];cases o with
   | none=>have h:b=(aX,false):=h;rw[h];rfl
   | some q=>have h:b=(q.sheet,true):=h;rw[h];show(if((0:Int) == 0&&(!true||decide (m.sheet.end_<q.sheet.end_)))=true then(m.sheet,true)else(q.sheet,true))=((nB q m).sheet,true);unfold nB;simp only[BEq.rfl,Xct,Xca,Xaz];split <;> rfl
def _root_.Go.Proofs.YtpagaknmdfgfkaaGreatDoor.Acc.best2{x:Instance}(h:Acc x)(r:Route):lL x r=lX x r:=by
 by_cases hb:(!bW x r||decide ((r.rests.length:Int)>(r.visits.length:Int)+1))=true
 ·unfold lL lX;rw[if_pos hb,if_pos (by simpa using hb)]
 have ac:bW x r=true/\(r.rests.length:Int)<=(r.visits.length:Int)+1:=by simpa using hb
 obtain⟨X,O⟩:=ac;have aa:∃t,x.types[r.type.toNat]?=some t:=by have:=tI X;exact aK (by omega)
 obtain⟨t,Y⟩:=aa;obtain⟨hB,hs⟩:=h.route X Y;have O:r.rests.length<=r.visits.length+1:=by omega
 have h2:=h.best r;have h0:=Re (bs:=cV r) X Y (nM O) hs;have hz:(fA x r (cV r)).2.2≠0->(fA x r (cV r)).1=aX:=by
  intro ad;cases T:kO x t r (cV r) 0 (gK t r)with
  | error e=>rw[T]at h0;exact h0.1
  | ok l=>rw[T]at h0;exact absurd h0.2 ad
 refine Prod.ext ?_ h2;rw[RT X O hz];unfold lL;rw[if_neg hb,Y];show(Ei x t r).1=_;have I:tQ r.rests (sT r)=Pd r.rests (r.visits.length+1):=by rw[<-agQ];unfold sT;congr 1;omega
 have E:=SU X Y hs (tQ r.rests (sT r)) none (aX,false) (fun c Z=>by rw[I]at Z;exact B5 _ _ c Z) rfl;have J:=(Yz hB (r.visits.length+1) (Xaf _)).first fun l hl=>by
  obtain⟨c,Z,F⟩:=Xbe.1 (Pm.1 hl);obtain⟨cs,b,rfl,hm⟩:=Pv (B5 r.rests _ c Z);rw[qG]at F;cases T:kO x t r cs 0 (gK t r)with
  | error e=>rw[T]at F;cases F
  | ok l'=>rw[T]at F;have F:gI x t r (0+cs.length) l' b=.ok l:=F;unfold gI at F;rw[List.getElem?_eq_none (by omega)]at F;obtain⟨_,_,_,rfl⟩:=Qo F;rfl
 rw[<-I]at J;have E:ZW (fm (dpL x t r (r.visits.length+1))) (A3 x r (tQ r.rests (sT r)) (aX,false)):=J▸E;unfold Ei;rw[amW x t r _ (Xaf _)];generalize ab:dpL x t r (r.visits.length+1)=d at E;cases d with
 | nil=>have E:A3 x r (tQ r.rests (sT r)) (aX,false)=(aX,false):=E;rw[E];show HY (Bs x t (gB x r.visits) (cV r) 0 (gK t r))=aX;rw[X3 x t r _ 0 _ (by rw[nM O];omega)];have hk:Ja r.rests (cV r):=(uW (by rw[nM O];omega)).2 ⟨_,rfl⟩;obtain⟨e,F⟩:=(UE hB).1 ab (cV r) (nM O) hk;rw[F];rfl
 | cons l ls=>rw[XJ]at E;have E:A3 x r (tQ r.rests (sT r)) (aX,false)=((ls.foldl nB l).sheet,true):=E;rw[E];rfl
def _root_.Go.Proofs.YtpagaknmdfgfkaaGreatDoor.Acc.eval{x:Instance}(h:Acc x)(r:Route):kK x r=pQ x r:=by
 unfold kK pQ;by_cases E:cF r.type x.types.length=true
 ·rw[if_pos E,if_pos E]
 rw[if_neg E,if_neg E];have J:∃t,x.types[r.type.toNat]?=some t:=by simp only[cF,Xcu,Xag,decide_eq_false_iff_not]at E;exact aK (by omega)
 obtain⟨t,I⟩:=J;rw[I];show _=NE x r t;unfold NE;rw[h.seq];by_cases F:(fE x r.visits != 0)=true
 ·rw[if_pos F,if_pos F]
 rw[if_neg F,if_neg F];have O:fE x r.visits=0:=by simpa using F
 have Y:=h.type t (Xac I);have es:(r.visits.any fun v=> !DH x r v)=r.visits.any fun v=> !uP x t v:=rX fun v X=>by have Z:=DS O v X;obtain⟨o,T⟩:=aK (show v.order.toNat<x.orders.length by omega);unfold DH uP;rw[I,T];exact congrArg _ (ZZ Y.skills (h.order o (Xac T)).skills)
 unfold D9;rw[es,h.fits,h.best2];by_cases h1:(r.visits.any fun v=> !uP x t v)=true
 ·rw[if_pos h1,if_pos (by simp),if_pos h1]
 rw[if_neg h1,if_neg (by simp),if_neg h1]
end Sq
end Go.Proofs.YtpagaknmdfgfkaaGreatDoor
