import Derived.Test.YtkjdacijpeiphaaGreatDoorVp12
import Derived.Test.YtkjdacijpeiphaaGreatDoorVp13
set_option linter.unusedSimpArgs false
set_option linter.unusedVariables false
set_option linter.defProp false
set_option maxRecDepth 100000
namespace Go.Proofs.YtkjdacijpeiphaaGreatDoor
open Go.Aw Go.Aw.D Go.Proofs Ty
namespace Sq
open Go.Proofs.Tryz
open Mv (bP cK aR)
def cG(l:Lab):List AV:=[int l.ready,int l.since,boo l.sheet.rest,int l.sheet.depart,.sl (l.sheet.times.map oT),int l.sheet.end_,int l.sheet.miles]
def iG(l:Lab):(cG l).length=7:=(rfl)
def WB(l:Lab):(cG l).getD 0 .any=int l.ready:=(rfl)
def Wg(l:Lab):(cG l).getD 1 .any=int l.since:=(rfl)
def UB(l:Lab):(cG l).getD 4 .any=.sl (l.sheet.times.map oT):=(rfl)
def VK(l:Lab):(cG l).getD 5 .any=int l.sheet.end_:=(rfl)
def VD(l:Lab):((cG l).drop 2).take 5=bQ l.sheet:=(rfl)
def ON(l:Lab):(cG l).take 7=cG l:=(rfl)
def cH(x:Instance)(t:VType)(r:Route)(st:List Stop):List AV:=aE x++(bM t++(bI r++[.sl (st.map dQ)]))
section
variable(x:Instance)(t:VType)(r:Route)(st:List Stop)
def B6:(cH x t r st).length=25:=(rfl)
def Te:(cH x t r st).getD 8 .any=int t.src:=(rfl)
def Q8:(cH x t r st).getD 9 .any=int t.dst:=(rfl)
def NH:(cH x t r st).getD 12 .any=int t.profile:=(rfl)
def M6:(cH x t r st).getD 13 .any=int t.start:=(rfl)
def Mw:(cH x t r st).getD 14 .any=int t.close:=(rfl)
def N3:(cH x t r st).getD 15 .any=int t.drive:=(rfl)
def NL:(cH x t r st).getD 16 .any=int t.rest:=(rfl)
def NO:(cH x t r st).getD 21 .any=int r.start:=(rfl)
def Mk:(cH x t r st).getD 22 .any=.sl (r.rests.map dX):=(rfl)
def Mh:(cH x t r st).getD 24 .any=.sl (st.map dQ):=(rfl)
def Ll:(cH x t r st).take 2=gA x.net:=(rfl)
def JR:(cH x t r st).take 25=cH x t r st:=(rfl)
end
attribute [go_sem] iG WB Wg UB VK VD ON B6 Te Q8 NH M6 Mw N3 NL NO Mk Mh Ll JR
def AF:Lab:=⟨0,0,bV⟩
abbrev eR(cs:List AV):Row:=⟨201,7,[cs]⟩
def rI(t:VType)(st:List Stop)(k:Nat):Int:=match k with
 | 0=>t.src
 | j+1=>(st.getD j kU).place
def KR(x:Instance)(t:VType)(r:Route)(st:List Stop):PC prog 107 [.agg (cH x t r st)] (.agg (cG (Hv t r))):=by
 refine pcd func107 rfl rfl ?_;simp only[go_sem];refine dV fun I E A (F:E I=some (eR (cG AF))) N=>?_
 clear N A;simp only[go_sem,F];refine aN F (by simp) ?_;simp only[go_sem];exact .refl _
def Vy(x:Instance)(t:VType)(r:Route)(st:List Stop)(k:Nat)(I:k<=st.length)(J:st.length<=1048576):PC prog 189 [.agg (cH x t r st),int k] (int (rI t st k)):=by
 refine pcd func189 rfl rfl ?_;simp only[go_sem];refine aA (fun A=>?_) (fun A=>?_)
 ·have:k=0:=by simp at A;exact A
  subst this;simp only[go_sem];exact .refl _
 ·obtain⟨j,rfl⟩:∃j,k=j+1:=⟨k-1,by simp at A;omega⟩;obtain⟨s,E⟩:=aO (show j<st.length by omega);have w:IntKind.i64.wrap (((j+1:Nat):Int)-1)=(j:Int):=by rw[bE (by omega)];omega
  have F:=inB (show j<st.length by omega);simp only[go_sem,w,aC E,F];exact bP (by unfold rI;simp[List.getD,E])
def P9:∀l:List Tm,cA 4 (l.map oT)
 | []=>trivial
 | _::r=>⟨rfl,P9 r⟩
def V4(l:List Tm)(M:l.length<=1048576):NC prog 187 [.sl (l.map oT)] (Cn l) .os:=by
 refine ncb (fun t=>t == 2||t == 5) func187 rfl rfl ?_;simp only[go_sem];refine aJ fun j J=>?_
 have R:=aB bG j (some (Cn []));generalize aI bG j _=H at R |-;simp only[go_sem];refine⟨fun I=>?_,?_⟩
 ·refine aA (fun _=>?_) (fun A=>by simp at A);simp only[go_sem];refine aJ fun i F=>?_
  simp only[go_sem];refine⟨i,rfl,?_⟩;rw[aB,List.map_eq_nil_iff.1 I];rfl
 ·refine aA (fun A=>by simp at A) (fun _=>?_);simp only[go_sem];refine aJ fun i F=>?_
  simp only[go_sem];refine bT (aB _ _ _) ⟨rfl,rfl⟩ (P9 _) (by simp only[Xaa,List.length_nil];omega) (fun j' E=>?_);simp only[go_sem];refine⟨j',rfl,?_⟩;exact aB _ _ _
def kC(x:Instance)(t:VType)(st:List Stop)(k:Nat)(l:Lab)(b:Bool):Except Int Lab:=match st[k]? with
 | some s=>Gt x t (rI t st k) s k l b
 | none=>KF x t (rI t st k) k l b
def Ua(e:Except Int Lab):Lab:=match e with| .ok l=>l| .error _=>AF
def pG:Instance:=⟨⟨[],[]⟩,[],[],[],[]⟩
def zG:VType:=⟨ByteArray.empty,0,0,0,[],0,0,0,0,0,0,0,0,0⟩
def yJ:Route:=⟨0,0,[],[]⟩
abbrev sX(cs:List AV):Row:=⟨197,25,[cs]⟩
def iL(x:Instance)(l:List Visit):List Stop:=l.map fun v=>(iA x v).1
def yF(x:Instance)(r:Route):List AV×Bool:=if fE x r=true then match x.types[r.type.toNat]? with
 | some t=>(cH x t r (iL x r.visits),true)
 | none=>(cH pG zG yJ [],false)
 else(cH pG zG yJ [],false)
def Cu(x:Instance)(t:VType)(r:Route)(j:Nat):List AV:=aE x++(bM t++(bI r++[.os j]))
def tk1{x:Instance}{l:List AV}:(aE x++l).take 6=aE x:=(rfl)
def dr1{x:Instance}{l:List AV}:(aE x++l).drop 20=l.drop 14:=(rfl)
def tk2{x:Instance}{t:VType}{l:List AV}:(aE x++bM t++l).take 20=aE x++bM t:=(rfl)
def dr2{x:Instance}{t:VType}{l:List AV}:(aE x++bM t++l).drop 24=l.drop 4:=(rfl)
abbrev Ac(l:List Stop):Row:=⟨56,4,l.map dQ⟩
def TS(x:Instance)(t:VType)(r:Route)(j:Nat):(Cu x t r j).getD 24 .any=.os j:=(rfl)
def QO(x:Instance)(t:VType)(r:Route)(j:Nat):(Cu x t r j).take 25=Cu x t r j:=(rfl)
def SK(x:Instance)(t:VType)(r:Route)(j:Nat):(Cu x t r j).length=25:=(rfl)
attribute [go_sem] TS QO SK
def wX{H:aG}{l l':List AV}(h:ConvL H l l'):∀p:List AV,ConvL H (p++l) (p++l')
 | []=>h
 | a::p=>.cons a a _ _ (.refl a) (wX h p)
def Q6{H:aG}{x:Instance}{t:VType}{r:Route}{A:Nat}{st:List Stop}(R:H A=some (Ac st)):ConvL H (Cu x t r A) (cH x t r st):=
 wX (wX (wX (.cons _ _ _ _ (.row _ _ _ R (ConvE.refl _)) .nil) _) _) _
def SX{x:Instance}{v:Visit}(h:(iA x v).2=true):0<=(iA x v).1.place/\fM x v=((iA x v).1,0):=by
 refine⟨?_,by unfold fM;rw[if_pos h]⟩;unfold iA at h |-;split at h
 ·cases h
 ·rename_i A;rw[if_neg A];split at h
  ·rename_i o E;simpa using h
  ·cases h
def NB{x:Instance}{v:Visit}(h:(iA x v).2=false):((fM x v).2 != 0)=true:=by unfold fM;rw[if_neg (by rw[h];simp)];show((if bZ v.order x.orders.length=true then(2:Int)else 19) != 0)=true;split <;> rfl
def Zo(x:Instance)(r:Route)(hl:r.visits.length<=1048576):PC prog 106 [.agg (aE x),.agg (bI r)] (.tup [.agg (yF x r).1,boo (yF x r).2]):=by
 refine pcb (fun t=>t == 47) func106 rfl rfl ?_;simp only[go_sem];refine dV fun i4 ax aw (A:ax i4=some (sX (cH pG zG yJ []))) N=>?_
 clear N aw;simp only[go_sem,A];refine aA (fun h1=>?_) (fun h1=>?_)
 ·have hp:fE x r=false:=by unfold fE;rw[show(bZ r.type x.types.length||decide (r.start<0)||decide (r.start>4096)||decide ((r.visits.length:Int)>20))=true from h1];rfl
  have e:yF x r=(cH pG zG yJ [],false):=by unfold yF;rw[if_neg (by rw[hp];simp)]
  rw[e];simp only[go_sem];refine aN A (by simp) ?_;simp only[go_sem];exact .refl _
 have hp:fE x r=r.visits.all fun v=>(iA x v).2:=by unfold fE;rw[show(bZ r.type x.types.length||decide (r.start<0)||decide (r.start>4096)||decide ((r.visits.length:Int)>20))=false from h1];rfl
 have a4:0<=r.type/\r.type<(x.types.length:Int):=by simp only[Xaj,decide_eq_false_iff_not]at h1;omega
 have a5:r.visits.length<=20:=by simp only[Xaj,decide_eq_false_iff_not]at h1;omega
 obtain⟨t,ht⟩:=aO (show r.type.toNat<x.types.length by omega);simp only[go_sem];refine As [(0,true),(1,true),(2,true),(3,true),(4,true),(5,true),(6,true),(7,true),(8,true),(9,false),(10,false)] (by kernel_rfl) ?_;simp only[go_sem,aC ht,a4,Xai,tk1,dr1,tk2,dr2];refine dV fun i6 ag au (E:ag i6=some (sX (cH pG zG yJ []))) N=>?_
 replace A:=N A;obtain⟨M,A⟩:=A;clear N au;simp only[go_sem,E,A];refine Ru 24 56 4 ⟨rfl,by decide⟩ E ⟨by simp,rfl,Xaf _⟩ fun X aj=>?_
 have U:i6≠X:=bC E aj;have O:i4≠X:=bC A aj;generalize hG:aI (aI ag X _) i6 _=HG;replace A:=kpR hG M O A;have Rs:HG X=some (Ac []):=by rw[<-hG,aD _ _ _ _ U.symm,aB];rfl
 replace E:HG i6=some (sX (Cu x t r X)):=by rw[<-hG,aB];rfl
 clear hG aj;simp only[go_sem];refine⟨fun ρ H=>∃k:Nat,k<=r.visits.length/\ρ 2=.rp (aE x) 0/\ρ 4=.op i4 0 0/\ρ 6=.op i6 0 0/\ρ 49=.sl (r.visits.map aL)/\ρ 50=int r.visits.length/\ρ 51=int k/\H i4=some (sX (cH pG zG yJ []))/\(∃X,H i6=some (sX (Cu x t r X))/\H X=some (Ac (iL x (r.visits.take k))))/\∀v∈r.visits.take k,(iA x v).2=true,fun ρ _=>r.visits.length-aU (ρ 51),⟨0,Xab _,by simp only[go_sem],by simp only[go_sem],by simp only[go_sem],by simp only[go_sem],by simp only[go_sem,Xaa],by simp only[go_sem];rfl,A,⟨X,E,Rs⟩,by simp⟩,?_⟩;clear A E Rs U O X;rintro ρ H ⟨k,hk,h2,Y,h6,J,F,I,A,⟨X,E,Rs⟩,hz⟩;have aa:X≠i6:=TP Rs E (by rfl);have T:X≠i4:=TP Rs A (by rfl);simp only[go_sem,h2,Y,h6,J,F,I];refine aA (fun ab=>?_) (fun ak=>?_)
 ·have ab:=bU ab;obtain⟨v,hv⟩:=aO ab;have b1:=inB ab;simp only[go_sem,h2,Y,h6,J,F,I,aC hv,b1];refine aJ fun i8 ai=>?_
  simp only[go_sem,h2,Y,h6,J,F,I,A,E,Rs];refine bH ai (by simp[cN]) fun av (R8:av i8=some (⟨72,2,[aL v]⟩)) N=>?_
  replace A:=N A;obtain⟨ap,A⟩:=A;replace E:=N E;obtain⟨al,E⟩:=E;replace Rs:=N Rs;obtain⟨ar,Rs⟩:=Rs;clear N ai;simp only[go_sem,h2,Y,h6,J,F,I,R8,A,E,Rs];refine aP (O3 x v) ?_;simp only[go_sem,h2,Y,h6,J,F,I];refine aJ fun i9 af=>?_
  simp only[go_sem,h2,Y,h6,J,F,I,A,E,Rs];refine bH af (by simp[jW]) fun ah (R9:ah i9=some (wW (fM x v).1)) N=>?_
  replace A:=N A;obtain⟨ao,A⟩:=A;replace E:=N E;obtain⟨am,E⟩:=E;replace Rs:=N Rs;obtain⟨aq,Rs⟩:=Rs;clear N af;simp only[go_sem,h2,Y,h6,J,F,I,R9,A,E,Rs];cases ac:(iA x v).2 with
  | false=>
   have a0:=NB ac;refine aA (fun _=>?_) (fun hb=>by rw[a0]at hb;simp at hb);simp only[go_sem,Y];refine aN A (by simp) ?_;simp only[go_sem,Y];have e:yF x r=(cH pG zG yJ [],false):=by unfold yF;rw[if_neg (by rw[hp,uB hv ac];simp)]
   rw[e];exact .refl _
  | true=>
   obtain⟨a6,ay⟩:=SX ac;rw[ay]at R9 |-;refine aA (fun hb=>by simp at hb;omega) (fun _=>?_);simp only[go_sem,h2,Y,h6,J,F,I,E,R9];refine bT Rs ⟨rfl,rfl⟩ ⟨rfl,trivial⟩ (by simp[iL];omega) (fun j' ae=>?_);have Z:i6≠j':=bC E ae;have an:i4≠j':=bC A ae;replace A:=sR (r':=⟨56,4,List.map dQ (iL x (r.visits.take k))++[dQ (iA x v).1]⟩) A T ae;replace E:=sR (r':=⟨56,4,List.map dQ (iL x (r.visits.take k))++[dQ (iA x v).1]⟩) E aa ae;have az:aI (aI ah X none) j' (some (⟨56,4,List.map dQ (iL x (r.visits.take k))++[dQ (iA x v).1]⟩:Row)) j'=some (Ac (iL x (r.visits.take (k+1)))):=by rw[aZ hv];unfold iL;rw[Xak];exact lV (l':=[(iA x v).1]) rfl
   simp only[go_sem,h2,Y,h6,J,F,I];refine bO Y0 E ⟨by simp,rfl,by simp⟩ ?_;simp only[go_sem,h2,Y,h6,J,F,I,aT k];exact⟨⟨k+1,ab,rfl,(aD _ _ _ _ M).trans A,⟨j',rfl,(aD _ _ _ _ Z.symm).trans az⟩,aR (p:=fun v=>(iA x v).2=true) hv ac hz⟩,by simp only[aF];omega⟩
 ·have ak:=bW hk ak;subst ak;rw[Xad]at hz Rs;simp only[go_sem,Y,h6,E];refine aN A ⟨by simp,rfl,Xaf _⟩ ?_;simp only[go_sem,Y];have e:yF x r=(cH x t r (iL x r.visits),true):=by unfold yF;rw[if_pos (by rw[hp];exact Xal.2 hz),ht]
  rw[e];exact .tup [.agg (Cu x t r X),boo true] _ (.cons _ _ _ _ (.agg _ _ (Q6 ((aD _ _ _ _ T).trans Rs))) (ConvL.refl _))
def gE(rdy sin:Int)(sd:Sheet)(j:Nat):List AV:=[int rdy,int sin,boo sd.rest,int sd.depart,.os j,int sd.end_,int sd.miles]
def Oe(a b s j):(gE a b s j).length=7:=(rfl)
def TF(a b s j):(gE a b s j).getD 0 .any=int a:=(rfl)
def TT(a b s j):(gE a b s j).getD 1 .any=int b:=(rfl)
def Wi(a b s j):(gE a b s j).getD 4 .any=.os j:=(rfl)
def Un(a b s j):(gE a b s j).getD 6 .any=int s.miles:=(rfl)
def OJ(a b s j):(gE a b s j).take 7=gE a b s j:=(rfl)
attribute [go_sem] Oe TF TT Wi Un OJ
def LK{H:aG}{j:Nat}{l:Lab}(R:H j=some (Cn l.sheet.times)):ConvL H (gE l.ready l.since l.sheet j) (cG l):=
 .cons _ _ _ _ (.refl _) (.cons _ _ _ _ (.refl _) (.cons _ _ _ _ (.refl _) (.cons _ _ _ _ (.refl _) (.cons _ _ _ _ (.row _ _ _ R (ConvE.refl _)) (ConvL.refl _)))))
def XC{l:List Tm}{j:Nat}{A:Tm}(h:l[j]?=some A)(b:Bool):(l.map oT).set j (kT ((l.map oT).getD j []) 3 [boo b])=(l.set j ⟨A.arrive,A.begin_,A.depart,b⟩).map oT:=by rw[aC h,List.map_set];rfl
def ZL{l:List Tm}{j:Nat}{A:Tm}(h:l[j]?=some A)(d:Int):(l.map oT).set j (kT ((l.map oT).getD j []) 2 [int d])=(l.set j ⟨A.arrive,A.begin_,d,A.rest⟩).map oT:=by rw[aC h,List.map_set];rfl
def Tu(x:Instance)(t:VType)(r:Route)(st:List Stop)(l:Lab)(k:Nat)(b:Bool)(hn:NetOk x.net)(aq:st.length<=1048576)(hk:k<=st.length)(hl:l.sheet.times.length=k):
  PC prog 152 [.agg (cH x t r st),.agg (cG l),int k,boo b] (.tup [.agg (cG (Ua (kC x t st k l b))),int (KG (kC x t st k l b))]):=by
 refine pcd func152 rfl rfl ?_;simp only[go_sem];refine dV fun i8 al an (O:al i8=some (eR (cG AF))) N=>?_
 clear N an;simp only[go_sem,O];refine dD (by rfl) (by kernel_rfl) ?_;simp only[go_sem];refine gT (fun ab H'=>ab 2=int k/\ab 3=boo b/\ab 4=.rp (cH x t r st) 0/\ab 5=.rp (cG l) 0/\ab 8=.op i8 0 0/\ab 10=int (AQ t l b)/\ab 11=int (BS l b)/\H' i8=some (eR (cG AF))) ?_ fun K hK=>aA (fun hb=>?_) (fun hb=>?_)
 rotate_left
 ·simp only[go_sem];exact hK _ _ ⟨by simp only[go_sem],by simp only[go_sem],by simp only[go_sem],by simp only[go_sem],by simp only[go_sem],by simp only[go_sem];unfold AQ;rw[if_pos hb];rfl,by simp only[go_sem];unfold BS;rw[if_pos hb],O⟩
 ·simp only[go_sem];exact hK _ _ ⟨by simp only[go_sem],by simp only[go_sem],by simp only[go_sem],by simp only[go_sem],by simp only[go_sem],by simp only[go_sem];unfold AQ;rw[if_neg (by rw[hb];simp)],by simp only[go_sem];unfold BS;rw[if_neg (by rw[hb];simp)],O⟩
 clear O;rintro ρ H ⟨Z,h3,h4,h5,X,I,J,O⟩;simp only[go_sem,Z,h3,h4,h5,X,I,J];refine aJ fun T ag=>?_
 simp only[go_sem,Z,h3,h4,h5,X,I,J,O];refine bH ag (by simp[dZ]) fun aj (E:aj T=some (eR ([int 0,int 0]++bQ l.sheet))) N=>?_
 replace O:=N O;obtain⟨F,O⟩:=O;clear N ag;simp only[go_sem,Z,h3,h4,h5,X,I,J,E,O];refine NC.use (V4 l.sheet.times (by omega)) fun jt ak=>?_
 have aa:i8≠jt:=bC O ak;have A:T≠jt:=bC E ak;generalize hG:aI aj jt _=HG;replace O:=(congrFun hG.symm i8).trans ((aD _ _ _ _ aa).trans O);replace E:=(congrFun hG.symm T).trans ((aD _ _ _ _ A).trans E);have Y:HG jt=some (Cn l.sheet.times):=by rw[<-hG,aB]
 clear hG ak;simp only[go_sem,Z,h3,h4,h5,X,I,J,E];refine bO Um E ⟨by simp,rfl,by simp⟩ ?_;generalize M:aI _ T _=HP;replace O:=kpA M (by first|exact F|exact ne_i12_i8.symm) O;replace Y:=kpA M (by first|exact ne_jt_i12|exact A.symm) Y;replace E:HP T=some (eR (gE 0 0 l.sheet jt)):=upS M;clear M;simp only[go_sem,Z,h3,h4,h5,X,I,J,E,O,Y];refine gT (fun ab H'=>ab 2=int k/\ab 4=.rp (cH x t r st) 0/\ab 8=.op i8 0 0/\ab 10=int (AQ t l b)/\ab 11=int (BS l b)/\ab 12=.op T 0 0/\H' i8=some (eR (cG AF))/\H' T=some (eR (gE 0 0 (dP l.sheet k b (AQ t l b)) jt))/\H' jt=some (Cn (dP l.sheet k b (AQ t l b)).times)) ?_ fun K hK=>aA (fun hb=>?_) (fun hb=>?_)
 rotate_left
 ·have h0:k=0:=by simp at hb;exact hb
  subst h0;simp only[go_sem,Z,h3,h4,h5,X,I,J,E];refine bO so4 E ⟨by simp,rfl,by simp⟩ ?_;generalize M:aI _ T _=HP;replace O:=kpA M (by first|exact F|exact ne_i12_i8.symm) O;replace Y:=kpA M (by first|exact ne_jt_i12|exact A.symm) Y;replace E:HP T=some (eR (gE 0 0 { l.sheet with rest:=b } jt)):=upS M;clear M;simp only[go_sem,Z,h3,h4,h5,X,I,J,E,O,Y];refine bO so3 E ⟨by simp,rfl,by simp⟩ ?_;generalize M:aI _ T _=HP;replace O:=kpA M (by first|exact F|exact ne_i12_i8.symm) O;replace Y:=kpA M (by first|exact ne_jt_i12|exact A.symm) Y;replace E:HP T=some (eR (gE 0 0 { l.sheet with rest:=b,depart:=AQ t l b } jt)):=upS M;clear M;simp only[go_sem,Z,h3,h4,h5,X,I,J,E,O,Y];exact hK _ _ ⟨by simp only[go_sem,Z],by simp only[go_sem,h4],by simp only[go_sem,X],by simp only[go_sem,I],by simp only[go_sem,J],by simp only[go_sem],O,E,Y⟩
 ·obtain⟨j,rfl⟩:∃j,k=j+1:=⟨k-1,by simp at hb;omega⟩;have w:IntKind.i64.wrap (((j+1:Nat):Int)-1)=(j:Int):=by rw[bE (by omega)];omega
  obtain⟨tm,am⟩:=aO (show j<l.sheet.times.length by omega);have b1:=inB (show j<l.sheet.times.length by omega);have eg:l.sheet.times.getD j NS=tm:=by simp[List.getD,am]
  simp only[go_sem,Z,h3,h4,h5,X,I,J,E,Y,w];refine⟨⟨b1.1,b1.2⟩,bO so4 Y ⟨by simpa using b1.2,rfl,by simp⟩ ?_⟩;generalize M:aI _ jt _=HP;replace O:=kpA M (by first|exact aa|exact ne_jt_i8.symm) O;replace E:=kpA M (by first|exact A|exact ne_jt_i12.symm) E;replace Y:HP jt=some (Cn (l.sheet.times.set j ⟨tm.arrive,tm.begin_,tm.depart,b⟩)):=by rw[<-M,aB];exact congrArg (fun es=>some (⟨280,4,es⟩:Row)) (XC am b)
  clear M;simp only[go_sem,Z,h3,h4,h5,X,I,J,w,Y,O,E];have ap:(l.sheet.times.set j ⟨tm.arrive,tm.begin_,tm.depart,b⟩)[j]?=some ⟨tm.arrive,tm.begin_,tm.depart,b⟩:=by rw[List.getElem?_set_self (by omega)]
  refine⟨⟨b1.1,by rw[Xaw];exact b1.2⟩,bO so3 Y ⟨by simpa using b1.2,rfl,by simp⟩ ?_⟩;generalize M:aI _ jt _=HP;replace O:=kpA M (by first|exact aa|exact ne_jt_i8.symm) O;replace E:=kpA M (by first|exact A|exact ne_jt_i12.symm) E;replace Y:HP jt=some (Cn ((l.sheet.times.set j ⟨tm.arrive,tm.begin_,tm.depart,b⟩).set j ⟨tm.arrive,tm.begin_,AQ t l b,b⟩)):=by rw[<-M,aB];exact congrArg (fun es=>some (⟨280,4,es⟩:Row)) (ZL ap _)
  clear M;simp only[go_sem,Z,h3,h4,h5,X,I,J,w,Y,O,E];refine hK _ _ ⟨by simp only[go_sem,Z],by simp only[go_sem,h4],by simp only[go_sem,X],by simp only[go_sem,I],by simp only[go_sem,J],by simp only[go_sem],O,E,?_⟩;rw[Y,List.set_set];simp only[dP,eg]
 clear O E Y Z h3 h4 h5 X I J;rintro ρ H ⟨Z,h4,X,I,J,U,O,E,Y⟩;generalize hD:AQ t l b=D at *;have M:=Vy x t r st k hk aq;rcases Xay k st.length with ao|ar
 ·obtain⟨s,hs⟩:=aO ao;have b1:=inB ao;have ae:((k:Int) == (st.length:Int))=false:=by simp;omega
  have eS:kC x t st k l b=Gt x t (rI t st k) s k l b:=by unfold kC;rw[hs]
  rw[eS];unfold Gt RM NM goL;simp only[hD];generalize hg:iD x.net t.profile (rI t st k) s.place D=g;simp only[go_sem,Z,h4,X,I,J,U,ae];refine aA (fun _=>?_) (fun hb=>by simp at hb);simp only[go_sem,Z,h4,X,I,J,U,aC hs,b1];refine dD (by rfl) (by kernel_rfl) ?_;simp only[go_sem,Z,h4,X,I,J,U];refine⟨_,M.q rfl,?_⟩;simp only[go_sem,Z,h4,X,I,J,U];refine⟨_,(WD x.net t.profile (rI t st k) s.place D hn).q rfl,?_⟩;rw[hg];simp only[go_sem,Z,h4,X,I,J,U];refine aA (fun he=>?_) (fun he=>?_)
  ·simp only[go_sem,X];refine aN O (by simp) ?_;simp only[go_sem,X];rw[if_pos he];exact .refl _
  rw[if_neg (by rw[he];simp)];simp only[go_sem,Z,h4,X,I,J,U,E];refine bO so3 E ⟨by simp,rfl,by simp⟩ ?_;generalize M:aI _ T _=HP;replace O:=kpA M (by first|exact F|exact ne_i12_i8.symm) O;replace Y:=kpA M (by first|exact ne_jt_i12|exact A.symm) Y;replace E:HP T=some (eR (gE 0 0 { dP l.sheet k b D with miles:=W ((dP l.sheet k b D).miles+g.2.1) } jt)):=upS M;clear M;simp only[go_sem,Z,h4,X,I,J,U,E,O,Y];refine bO so3 E ⟨by simp,rfl,by simp⟩ ?_;generalize M:aI _ T _=HP;replace O:=kpA M (by first|exact F|exact ne_i12_i8.symm) O;replace Y:=kpA M (by first|exact ne_jt_i12|exact A.symm) Y;replace E:HP T=some (eR (gE 0 (W (W (BS l b+g.1)-D)) { dP l.sheet k b D with miles:=W ((dP l.sheet k b D).miles+g.2.1) } jt)):=upS M;clear M;simp only[go_sem,Z,h4,X,I,J,U,ae,E,O,Y];refine aA (fun hb=>by simp at hb) (fun _=>?_);simp only[go_sem,Z,h4,X,I,J,U,aC hs,b1];refine aP (Pe s g.1) ?_;simp only[go_sem,Z,h4,X,I,J,U];by_cases hw:jL g.1 s.start>s.close
  ·rw[if_pos hw,if_pos hw,if_pos hw];refine aA (fun _=>?_) (fun hb=>by simp at hb);simp only[go_sem,X];refine aN O (by simp) ?_;simp only[go_sem,X];exact .refl _
  rw[if_neg hw,if_neg hw,if_neg hw];refine aA (fun hb=>by simp at hb) (fun _=>?_);simp only[go_sem,Z,h4,X,I,J,U,aC hs,b1];refine bO so3 E ⟨by simp,rfl,by simp⟩ ?_;generalize M:aI _ T _=HP;replace O:=kpA M (by first|exact F|exact ne_i12_i8.symm) O;replace Y:=kpA M (by first|exact ne_jt_i12|exact A.symm) Y;replace E:HP T=some (eR (gE (W (jL g.1 s.start+s.service)) (W (W (BS l b+g.1)-D)) { dP l.sheet k b D with miles:=W ((dP l.sheet k b D).miles+g.2.1) } jt)):=upS M;clear M;simp only[go_sem,Z,h4,X,I,J,U,ae,E,O,Y];refine bT Y ⟨rfl,rfl⟩ ⟨rfl,trivial⟩ (by simp[(oI l.sheet k b D).2.2];omega) (fun j' ah=>?_);have af:i8≠j':=bC O ah;have ac:T≠j':=bC E ah;generalize M:aI (aI _ jt none) j' _=HP;replace O:=kpB M af (by first|exact aa|exact ne_jt_i8.symm) O;replace E:=kpB M ac (by first|exact A|exact ne_jt_i12.symm) E;have ai:HP j'=some (Cn ((dP l.sheet k b D).times++[⟨g.1,jL g.1 s.start,0,false⟩])):=by rw[<-M,aB];(show some (⟨280,4,_⟩:Row)=some ⟨280,4,_⟩;rw[Xak];rfl)
  clear M ah;simp only[go_sem,Z,h4,X,I,J,U,ae,ai,O,E];refine bO Um E ⟨by simp,rfl,by simp⟩ ?_;generalize M:aI _ T _=HP;replace O:=kpA M (by first|exact F|exact ne_i12_i8.symm) O;replace ai:=kpA M (by first|exact ne_j'_i12|exact ac.symm) ai;replace E:HP T=some (eR (gE (W (jL g.1 s.start+s.service)) (W (W (BS l b+g.1)-D)) { dP l.sheet k b D with miles:=W ((dP l.sheet k b D).miles+g.2.1),times:=(dP l.sheet k b D).times++[⟨g.1,jL g.1 s.start,0,false⟩] } j')):=upS M;clear M;simp only[go_sem,Z,h4,X,I,J,U,ae,E,O,ai];refine aA (fun hd=>?_) (fun hd=>?_)
  ·rw[if_pos (by simpa using hd)];simp only[go_sem,X];refine aN O (by simp) ?_;simp only[go_sem,X];exact .refl _
  ·rw[if_neg (by simpa using hd)];simp only[go_sem,X,U,E];refine aN O ⟨by simp,rfl,Xaf _⟩ ?_;simp only[go_sem,X];have hm:=(oI l.sheet k b D).1;have:=fun H=>LK (H:=H) (j:=j') (l:=⟨W (jL g.1 s.start+s.service),W (W (BS l b+g.1)-D),{ dP l.sheet k b D with miles:=W ((dP l.sheet k b D).miles+g.2.1),times:=(dP l.sheet k b D).times++[⟨g.1,jL g.1 s.start,0,false⟩] }⟩)
   simp only[hm]at this |-;exact .tup [.agg (gE _ _ _ j'),int 0] _ (.cons _ _ _ _ (.agg _ _ (this _ ((aD _ _ _ _ af.symm).trans ai))) (ConvL.refl _))
 ·have au:k=st.length:=by omega
  have ae:((k:Int) == (st.length:Int))=true:=by simp;omega
  have eS:kC x t st k l b=KF x t (rI t st k) k l b:=by unfold kC;rw[List.getElem?_eq_none ar]
  rw[eS];unfold KF RM Tr goL;simp only[hD];generalize hg:iD x.net t.profile (rI t st k) t.dst D=g;simp only[go_sem,Z,h4,X,I,J,U,ae];refine aA (fun hb=>by simp at hb) (fun _=>?_);simp only[go_sem,Z,h4,X,I,J,U];refine dD (by rfl) (by kernel_rfl) ?_;simp only[go_sem,Z,h4,X,I,J,U];refine⟨_,M.q rfl,?_⟩;simp only[go_sem,Z,h4,X,I,J,U];refine⟨_,(WD x.net t.profile (rI t st k) t.dst D hn).q rfl,?_⟩;rw[hg];simp only[go_sem,Z,h4,X,I,J,U];refine aA (fun he=>?_) (fun he=>?_)
  ·simp only[go_sem,X];refine aN O (by simp) ?_;simp only[go_sem,X];rw[if_pos he];exact .refl _
  rw[if_neg (by rw[he];simp)];simp only[go_sem,Z,h4,X,I,J,U,E];refine bO so3 E ⟨by simp,rfl,by simp⟩ ?_;generalize M:aI _ T _=HP;replace O:=kpA M (by first|exact F|exact ne_i12_i8.symm) O;replace Y:=kpA M (by first|exact ne_jt_i12|exact A.symm) Y;replace E:HP T=some (eR (gE 0 0 { dP l.sheet k b D with miles:=W ((dP l.sheet k b D).miles+g.2.1) } jt)):=upS M;clear M;simp only[go_sem,Z,h4,X,I,J,U,E,O,Y];refine bO so3 E ⟨by simp,rfl,by simp⟩ ?_;generalize M:aI _ T _=HP;replace O:=kpA M (by first|exact F|exact ne_i12_i8.symm) O;replace Y:=kpA M (by first|exact ne_jt_i12|exact A.symm) Y;replace E:HP T=some (eR (gE 0 (W (W (BS l b+g.1)-D)) { dP l.sheet k b D with miles:=W ((dP l.sheet k b D).miles+g.2.1) } jt)):=upS M;clear M;simp only[go_sem,Z,h4,X,I,J,U,ae,E,O,Y];refine aA (fun _=>?_) (fun hb=>by simp at hb);simp only[go_sem,Z,h4,X,I,J,U];refine aA (fun hw=>?_) (fun hw=>?_)
  ·rw[if_pos (by simpa using hw)];simp only[go_sem,X];refine aN O (by simp) ?_;simp only[go_sem,X];exact .refl _
  rw[if_neg (by simpa using hw)];simp only[go_sem,Z,h4,X,I,J,U,E];refine bO so3 E ⟨by simp,rfl,by simp⟩ ?_;generalize M:aI _ T _=HP;replace O:=kpA M (by first|exact F|exact ne_i12_i8.symm) O;replace Y:=kpA M (by first|exact ne_jt_i12|exact A.symm) Y;replace E:HP T=some (eR (gE 0 (W (W (BS l b+g.1)-D)) { dP l.sheet k b D with miles:=W ((dP l.sheet k b D).miles+g.2.1),end_:=g.1 } jt)):=upS M;clear M;simp only[go_sem,Z,h4,X,I,J,U,ae,E,O,Y];refine bO so3 E ⟨by simp,rfl,by simp⟩ ?_;generalize M:aI _ T _=HP;replace O:=kpA M (by first|exact F|exact ne_i12_i8.symm) O;replace Y:=kpA M (by first|exact ne_jt_i12|exact A.symm) Y;replace E:HP T=some (eR (gE g.1 (W (W (BS l b+g.1)-D)) { dP l.sheet k b D with miles:=W ((dP l.sheet k b D).miles+g.2.1),end_:=g.1 } jt)):=upS M;clear M;simp only[go_sem,Z,h4,X,I,J,U,ae,E,O,Y];refine aA (fun hd=>?_) (fun hd=>?_)
  ·rw[if_pos (by simpa using hd)];simp only[go_sem,X];refine aN O (by simp) ?_;simp only[go_sem,X];exact .refl _
  ·rw[if_neg (by simpa using hd)];simp only[go_sem,X,U,E];refine aN O ⟨by simp,rfl,Xaf _⟩ ?_;simp only[go_sem,X];have hm:=(oI l.sheet k b D).1;have:=fun H=>LK (H:=H) (j:=jt) (l:=⟨g.1,W (W (BS l b+g.1)-D),{ dP l.sheet k b D with miles:=W ((dP l.sheet k b D).miles+g.2.1),end_:=g.1 }⟩)
   simp only[hm]at this |-;exact .tup [.agg (gE _ _ _ jt),int 0] _ (.cons _ _ _ _ (.agg _ _ (this _ ((aD _ _ _ _ aa.symm).trans Y))) (ConvL.refl _))
end Sq
namespace Sq
open Go.Proofs.Tryz
open Mv (bP cK aR)
def I3(x:Instance)(t:VType)(st:List Stop):List Bool->Nat->Lab->Except Int Lab
 | [],_,l=>.ok l
 | b::bs,k,l=>match kC x t st k l b with
   | .error e=>.error e
   | .ok l'=>I3 x t st bs (k+1) l'
def Qp(e:Except Int Lab):Sheet:=match e with| .ok l=>l.sheet| .error _=>bV
def GO{x:Instance}{t:VType}{st:List Stop}{k:Nat}{l:Lab}{b:Bool}{e:Int}(h:kC x t st k l b=.error e):e≠0:=by
 unfold kC at h;split at h
 ·exact Q0 h
 ·exact Sx h
def B9{x:Instance}{t:VType}{st:List Stop}{k:Nat}{l l':Lab}{b:Bool}(A:k<st.length)(E:l.sheet.times.length=k)(h:kC x t st k l b=.ok l'):l'.sheet.times.length=k+1:=by
 unfold kC at h;rw[List.getElem?_eq_getElem A]at h;simp only at h;unfold Gt at h;split at h
 ·cases h
 ·split at h
  ·cases h
  ·split at h
   ·cases h
   ·injection h with h;subst h;simp[NM,(oI _ _ _ _).2.2,E]
def Zp(x:Instance)(t:VType)(r:Route)(st:List Stop)(bs:List Bool)(hn:NetOk x.net)(aj:st.length<=1048575)(hb:bs.length<=st.length+1):
  PC prog 109 [.agg (cH x t r st),.sl (bs.map dX)] (.tup [.agg (bQ (Qp (I3 x t st bs 0 (Hv t r)))),int (KG (I3 x t st bs 0 (Hv t r)))]):=by
 refine pcd func109 rfl rfl ?_;simp only[go_sem];refine dV fun i4 ag af (A:ag i4=some (fA (bQ bV))) N=>?_
 clear N af;simp only[go_sem,A];refine aP (KR x t r st) ?_;simp only[go_sem];refine aJ fun i6 X=>?_
 simp only[go_sem,A];refine bH X (by simp[iG]) fun HGi6 (J:HGi6 i6=some (eR (cG (Hv t r)))) N=>?_
 replace A:=N A;obtain⟨M,A⟩:=A;clear N X;simp only[go_sem,J,A];refine⟨fun ρ H=>∃(k:Nat) (l:Lab),k<=bs.length/\ρ 2=.rp (cH x t r st) 0/\ρ 4=.op i4 0 0/\ρ 6=.op i6 0 0/\ρ 13=.sl (bs.map dX)/\ρ 14=int bs.length/\ρ 15=int k/\H i4=some (fA (bQ bV))/\H i6=some (eR (cG l))/\(k<=st.length->l.sheet.times.length=k)/\I3 x t st bs 0 (Hv t r)=I3 x t st (bs.drop k) k l,fun ρ _=>bs.length-aU (ρ 15),
  ⟨0,Hv t r,Xab _,by simp only[go_sem],by simp only[go_sem],by simp only[go_sem],by simp only[go_sem],by simp only[go_sem,Xaa],by simp only[go_sem];rfl,A,J,fun _=>rfl,rfl⟩,?_⟩
 clear A J;rintro ρ H ⟨k,l,hk,h2,T,Y,F,E,I,A,J,hl,Z⟩;simp only[go_sem,h2,T,Y,F,E,I];refine aA (fun O=>?_) (fun aa=>?_)
 ·have O:=bU O;obtain⟨b,ae⟩:=aO O;have b1:=inB O;rw[AP ae,I3]at Z;simp only[go_sem,h2,T,Y,F,E,I,aC ae,b1,dX,J];refine aP (Tu x t r st l k b hn (by omega) (by omega) (hl (by omega))) ?_;simp only[go_sem,h2,T,Y,F,E,I];refine aJ fun i9 U=>?_
  simp only[go_sem,h2,T,Y,F,E,I,A,J];refine bH U (by simp[iG]) fun HGi9 (R9:HGi9 i9=some (eR (cG (Ua (kC x t st k l b))))) N=>?_
  replace A:=N A;obtain⟨ac,A⟩:=A;replace J:=N J;obtain⟨ab,J⟩:=J;clear N U;simp only[go_sem,h2,T,Y,F,E,I,R9,A,J];cases hs:kC x t st k l b with
  | error e=>rw[hs]at Z;have ah:=GO hs;refine aA (fun _=>?_) (fun hb=>by simp[KG]at hb;exact absurd hb ah);simp only[go_sem,T];refine aN A (by simp) ?_;simp only[go_sem,T];rw[Z];exact .refl _
  | ok l'=>rw[hs]at Z R9;refine aA (fun hb=>by simp[KG]at hb) (fun _=>?_);simp only[go_sem,h2,T,Y,F,E,I,R9];refine aN J (by simp[iG]) ?_;generalize hP:aI _ i6 _=HP;replace A:=kpA hP (by first|exact M|exact ne_i6_i4.symm) A;replace J:HP i6=some (eR (cG l')):=upS hP;clear hP;simp only[go_sem,h2,T,Y,F,E,I,aT k,J,A];exact⟨⟨k+1,l',O,rfl,rfl,fun ai=>B9 (by omega) (hl (by omega)) hs,Z⟩,by simp only[aF];omega⟩
 ·have aa:=bW hk aa;subst aa;rw[Xbi,I3]at Z;simp only[go_sem,T,Y,J];refine aN A (by simp[dZ]) ?_;simp only[go_sem,T];rw[Z];exact .refl _
def WT(l m:Lab):PC prog 155 [.agg (cG l),.agg (cG m)] (boo (yK l m)):=by refine pcd func155 rfl rfl ?_;simp only[go_sem];exact .refl _
def XW(l m:Lab):PC prog 154 [.agg (cG l),.rp (cG m) 0] (boo (yK l m)):=by refine pcd func154 rfl rfl ?_;simp only[go_sem];refine aP (WT l m) ?_;simp only[go_sem];exact .refl _
def IC{g:Nat}{cap:List AV}{p:Lab->Bool}(l:List Lab)(Z:l.length<=4000000000000000000)(T:aH prog g=true)(U:∀v∈l,PC prog g (.agg (cG v)::cap) (boo (p v))):
  PC prog 191 [.sl (l.map cG),.fn g cap] (int (oE p l 0)):=by
 refine pcd func191 rfl rfl ?_;simp only[go_sem];refine⟨fun ρ _=>∃k:Nat,k<=l.length/\ρ 0=.sl (l.map cG)/\ρ 1=.fn g cap/\ρ 7=int l.length/\ρ 8=int k/\∀u∈l.take k,p u=false,fun ρ _=>l.length-aU (ρ 8),⟨0,Xab _,rfl,rfl,rfl,rfl,by simp⟩,?_⟩;rintro ρ H ⟨k,Y,h0,h1,J,F,I⟩;simp only[go_sem,h0,h1,J,F];refine aA (fun A=>?_) (fun E=>?_)
 ·have A:=bU A;obtain⟨u,M⟩:=aO A;have X:=inB A;simp only[go_sem,h0,h1,J,F,aC M,X,T];refine aP (U u (Xac M)) ?_;simp only[go_sem,h0,h1,J,F];refine aA (fun O=>?_) (fun O=>?_)
  ·simp only[go_sem,F];exact bP (by rw[nF I M O];omega)
  ·simp only[go_sem,h0,h1,J,F,aT k];exact⟨⟨k+1,A,rfl,aR (p:=fun u=>p u=false) M O I⟩,by simp only[aF];omega⟩
 ·have E:=bW Y E;subst E;rw[Xad]at I;simp only[go_sem];exact bP (by rw[lD I])
def CR{g:Nat}{cap:List AV}{p:Lab->Bool}(l:List Lab)(F:l.length<=4000000000000000000)(A:aH prog g=true)(E:∀v∈l,PC prog g (.agg (cG v)::cap) (boo (p v))):
  PC prog 153 [.sl (l.map cG),.fn g cap] (boo (l.any p)):=by
 refine pcd func153 rfl rfl ?_;simp only[go_sem];refine aP (IC l F A E) ?_;simp only[go_sem];exact cK (mX l 0 (Xbs _))
def lR(x:Instance)(t:VType)(st:List Stop)(k:Nat)(out:List Lab)(l:Lab)(bs:List Bool):List Lab:=(bs.map fun b=>kC x t st k l b).foldl Fp out
def O0(x:Instance)(t:VType)(r:Route)(st:List Stop)(ls:List Lab)(k:Nat):List Lab:=ls.foldl (fun out l=>lR x t st k out l (iS r.rests k)) []
def Vd(out:List Lab)(e:Except Int Lab):(Fp out e).length<=out.length+1:=by
 unfold Fp;split
 ·omega
 ·split
  ·omega
  ·simp
def Ci(f:List Bool)(k:Nat):(iS f k).length<=2:=by unfold iS;split <;> simp
def Bs(x:Instance)(t:VType)(st:List Stop)(k:Nat)(l:Lab):∀(bs:List Bool) (out:List Lab),(lR x t st k out l bs).length<=out.length+bs.length
 | [],out=>by simp[lR]
 | b::bs,out=>by have:=Bs x t st k l bs (Fp out (kC x t st k l b));have A:=Vd out (kC x t st k l b);simp only[lR,Xat,List.foldl_cons,Xae]at this |-;omega
def BN(x:Instance)(t:VType)(r:Route)(st:List Stop)(k:Nat):∀(A:List Lab) (out:List Lab),(A.foldl (fun out l=>lR x t st k out l (iS r.rests k)) out).length<=out.length+2*A.length
 | [],out=>by simp
 | l::A,out=>by have:=BN x t r st k A (lR x t st k out l (iS r.rests k));have E:=Bs x t st k l (iS r.rests k) out;have F:=Ci r.rests k;simp only[List.foldl_cons,Xae]at this |-;omega
abbrev PT(l:List Lab):Row:=⟨201,7,l.map cG⟩
def En:∀l:List Lab,cA 7 (l.map cG)
 | []=>trivial
 | _::r=>⟨rfl,En r⟩
def Dz:∀l:List Bool,cA 1 (l.map dX)
 | []=>trivial
 | _::r=>⟨rfl,Dz r⟩
def NI{x:Instance}{t:VType}{st:List Stop}{k m:Nat}{out:List Lab}{l:Lab}{bs:List Bool}{b:Bool}(h:bs[m]?=some b):lR x t st k out l (bs.take (m+1))=Fp (lR x t st k out l (bs.take m)) (kC x t st k l b):=by unfold lR;rw[aZ h,Xak,List.foldl_append];rfl
def Z7(x:Instance)(t:VType)(r:Route)(st:List Stop)(ls:List Lab)(k:Nat)(hn:NetOk x.net)(az:st.length<=1048575)(hk:k<=st.length)(ay:ls.length<=4194304)(hl:∀l∈ls,l.sheet.times.length=k):
  PC prog 108 [.agg (cH x t r st),.sl (ls.map cG),int k] (.sl ((O0 x t r st ls k).map cG)):=by
 refine pcb (fun t=>t == 8) func108 rfl rfl ?_;simp only[go_sem];refine gT (fun ai H'=>ai 1=.sl (ls.map cG)/\ai 2=int k/\ai 3=.rp (cH x t r st) 0/\ai 7=.sl ((iS r.rests k).map dX)) ?_ fun K hK=>aA (fun hb=>?_) (fun hb=>?_)
 rotate_left
 ·have hb:k<r.rests.length:=by simp at hb;omega
  simp only[go_sem,aT k];refine⟨⟨by omega,Dz _⟩,hK _ _ ⟨by simp only[go_sem],by simp only[go_sem],by simp only[go_sem],?_⟩⟩;simp only[go_sem];have:iS r.rests k=(r.rests.take (k+1)).drop k:=by obtain⟨c,hc⟩:=aO hb;unfold iS;rw[if_pos hb,aZ hc,List.drop_append_of_le_length (by simp;omega),List.drop_of_length_le (by simp;omega)];simp[List.getD,hc]
  rw[this,List.map_drop,List.map_take]
 ·have hb:¬k<r.rests.length:=by simp at hb;omega
  simp only[go_sem];refine hK _ _ ⟨by simp only[go_sem],by simp only[go_sem],by simp only[go_sem],?_⟩;simp only[go_sem];unfold iS;rw[if_neg hb];rfl
 rintro ρ H ⟨h1,T,M,O⟩;simp only[go_sem,h1,T,M,O];refine aJ fun j0 av=>?_
 simp only[go_sem,h1,T,M,O];have a5:=Ci r.rests k;generalize hC:iS r.rests k=cs at *;refine⟨fun ρ H=>∃(n:Nat) (j:Nat),n<=ls.length/\ρ 2=int k/\ρ 3=.rp (cH x t r st) 0/\ρ 7=.sl (cs.map dX)/\ρ 29=.sl (ls.map cG)/\ρ 30=int ls.length/\ρ 31=int n/\ρ 8=.os j/\H j=some (PT ((ls.take n).foldl (fun out l=>lR x t st k out l cs) [])),fun ρ _=>ls.length-aU (ρ 31),
  ⟨0,j0,Xab _,by simp only[go_sem,T],by simp only[go_sem,M],by simp only[go_sem,O],by simp only[go_sem],by simp only[go_sem,Xaa],by simp only[go_sem];rfl,by simp only[go_sem],aB _ _ _⟩,?_⟩
 clear h1 T M O av j0;rintro ρ H ⟨n,j,ax,T,M,O,F,I,E,h8,R⟩;simp only[go_sem,T,M,O,F,I,E,h8];refine aA (fun ah=>?_) (fun an=>?_)
 ·have ah:=bU ah;obtain⟨l,al⟩:=aO ah;have b1:=inB ah;have au:=hl l (Xac al);have a4:((ls.take n).foldl (fun out l=>lR x t st k out l cs) []).length<=2*n:=by have:=BN x t r st k (ls.take n) [];rw[hC]at this;simp at this;omega
  have ak:(ls.take (n+1)).foldl (fun out l=>lR x t st k out l cs) []=lR x t st k ((ls.take n).foldl (fun out l=>lR x t st k out l cs) []) l cs:=jT al;generalize hO:(ls.take n).foldl (fun out l=>lR x t st k out l cs) []=out0 at *;simp only[go_sem,T,M,O,F,I,E,h8,aC al,b1];refine aJ fun ac af=>?_
  simp only[go_sem,T,M,O,F,I,E,h8,R];refine bH af (by simp[iG]) fun am (J:am ac=some (eR (cG l))) N=>?_
  replace R:=N R;obtain⟨A,R⟩:=R;clear N af;simp only[go_sem,T,M,O,F,I,E,h8,J,R];refine⟨fun ρ H=>∃(m:Nat) (j:Nat),m<=cs.length/\ρ 2=int k/\ρ 3=.rp (cH x t r st) 0/\ρ 7=.sl (cs.map dX)/\ρ 10=.op ac 0 0/\ρ 29=.sl (ls.map cG)/\ρ 30=int ls.length/\ρ 31=int n/\ρ 35=.sl (cs.map dX)/\ρ 36=int cs.length/\ρ 37=int m/\ρ 8=.os j/\j≠ac/\H ac=some (eR (cG l))/\H j=some (PT (lR x t st k out0 l (cs.take m))),fun ρ _=>cs.length-aU (ρ 37),
   ⟨0,j,Xab _,by simp only[go_sem,T],by simp only[go_sem,M],by simp only[go_sem,O],by simp only[go_sem],by simp only[go_sem,F],by simp only[go_sem,I],by simp only[go_sem,E],by simp only[go_sem],by simp only[go_sem,Xaa],by simp only[go_sem];rfl,by simp only[go_sem,h8],A,J,R⟩,?_⟩
  clear T M O F I E h8 R J A j;rintro ρ H ⟨m,j,hm,T,M,O,X,F,I,E,Y,Z,aa,h8,A,J,R⟩;simp only[go_sem,T,M,O,X,F,I,E,Y,Z,aa,h8];refine aA (fun U=>?_) (fun ag=>?_)
  ·have U:=bU U;obtain⟨b,ap⟩:=aO U;have b2:=inB U;have a0:=Bs x t st k l (cs.take m) out0;have hf:=NI (x:=x) (t:=t) (st:=st) (k:=k) (out:=out0) (l:=l) ap;have a6:(cs.take m).length<=2:=by simp;omega
   simp only[go_sem,T,M,O,X,F,I,E,Y,Z,aa,h8,aC ap,b2,dX,J];refine aP (Tu x t r st l k b hn (by omega) hk au) ?_;simp only[go_sem,T,M,O,X,F,I,E,Y,Z,aa,h8];refine aJ fun aw ae=>?_
   simp only[go_sem,T,M,O,X,F,I,E,Y,Z,aa,h8,J,R];refine bH ae (by simp[iG]) fun HGi13 (R13:HGi13 aw=some (eR (cG (Ua (kC x t st k l b))))) N=>?_
   replace J:=N J;obtain⟨aj,J⟩:=J;replace R:=N R;obtain⟨ao,R⟩:=R;clear N ae;simp only[go_sem,T,M,O,X,F,I,E,Y,Z,aa,h8,R13,J,R];generalize hF:lR x t st k out0 l (cs.take m)=out at *;cases hs:kC x t st k l b with
   | error e=>
    rw[hs]at hf R13;have ar:(e == 0)=false:=by simpa using GO hs
    refine⟨boo false,fun hg=>by simp[gt,KG,ar]at hg,?_⟩;simp only[go_sem,KG,ar];refine aA (fun hb=>by simp at hb) (fun _=>?_);simp only[go_sem,T,M,O,X,F,I,E,Y,Z,aa,h8,aT m];exact⟨⟨m+1,j,U,rfl,rfl,A,J,by rw[hf];exact R⟩,by simp only[aF];omega⟩
   | ok l'=>
    rw[hs]at hf R13;refine⟨_,fun _=>.inl ⟨[.sl (out.map cG),.fn 154 [.rp (cG l') 0]],.cons _ _ _ _ (.row _ _ _ R (ConvE.refl _)) (.cons _ _ _ _ (.fn _ _ _ (.cons _ _ _ _ (.ptr _ _ _ _ _ R13 (by simp) (ConvL.refl _)) .nil)) .nil),CR out (by omega) (by simp only[go_sem]) fun v _=>XW v l',rfl⟩,?_⟩;simp only[go_sem,KG,T,M,O,X,F,I,E,Y,Z,aa,h8];refine aA (fun hb=>?_) (fun hb=>?_)
    ·have hb:(out.any fun v=>yK v l')=false:=by simpa using hb
     simp only[go_sem,T,M,O,X,F,I,E,Y,Z,aa,h8,R13];refine bT R ⟨rfl,rfl⟩ ⟨rfl,trivial⟩ (by simp only[Xaa,Xae,List.length_nil];omega) (fun j' aq=>?_);have ab:ac≠j':=bC J aq;simp only[go_sem,T,M,O,X,F,I,E,Y,Z,aa,h8,aT m];refine⟨⟨m+1,j',U,rfl,rfl,ab.symm,sR J A aq,?_⟩,by simp only[aF];omega⟩;have e1:Fp out (.ok l')=out++[l']:=by show(if(out.any fun v=>yK v l')=true then out else out++[l'])=_;rw[if_neg (by rw[hb];simp)]
     rw[hf,e1];exact lV (l':=[l']) rfl
    ·have hb:(out.any fun v=>yK v l')=true:=by simpa using hb
     simp only[go_sem,T,M,O,X,F,I,E,Y,Z,aa,h8,aT m];refine⟨⟨m+1,j,U,rfl,rfl,A,J,?_⟩,by simp only[aF];omega⟩;have e1:Fp out (.ok l')=out:=by show(if(out.any fun v=>yK v l')=true then out else out++[l'])=_;rw[if_pos hb]
     rw[hf,e1];exact R
  ·have ag:=bW hm ag;subst ag;rw[Xad]at R;simp only[go_sem,T,M,O,F,I,E,h8,aT n];exact⟨⟨n+1,j,ah,rfl,rfl,by rw[ak];exact R⟩,by simp only[aF];omega⟩
 ·have an:=bW ax an;subst an;rw[Xad]at R;simp only[go_sem,h8];unfold O0;rw[hC];exact .row _ _ _ R (ConvE.refl _)
def dpP(x:Instance)(t:VType)(r:Route)(st:List Stop):Nat->List Lab
 | 0=>[Hv t r]
 | k+1=>O0 x t r st (dpP x t r st k) k
def Ap(b m:Lab):Lab:=if decide (m.sheet.end_<b.sheet.end_)=true then m else b
def TX(x:Instance)(t:VType)(r:Route):Sheet×Int:=match dpP x t r (iL x r.visits) (r.visits.length+1)with
 | []=>(Qp (I3 x t (iL x r.visits) (Bu r) 0 (Hv t r)),KG (I3 x t (iL x r.visits) (Bu r) 0 (Hv t r)))
 | l0::ls=>((ls.foldl Ap l0).sheet,0)
def mD(x:Instance)(r:Route):Sheet×Int:=
 if(!fE x r||decide ((r.rests.length:Int)>(r.visits.length:Int)+1))=true then(bV,2)else match x.types[r.type.toNat]? with
 | some t=>TX x t r
 | none=>(bV,2)
def Wt{out:List Lab}{e:Except Int Lab}{m:Lab}(h:m∈Fp out e):m∈out\/e=.ok m:=by
 unfold Fp at h;split at h
 ·exact .inl h
 ·rename_i l;split at h
  ·exact .inl h
  ·rcases Xas.1 h with h|h
   ·exact .inl h
   ·simp at h;exact .inr (by rw[h])
def GP{x:Instance}{t:VType}{st:List Stop}{k:Nat}{l m:Lab}:∀(bs:List Bool) (out:List Lab),m∈lR x t st k out l bs->m∈out\/∃b,kC x t st k l b=.ok m
 | [],out,h=>.inl h
 | b::bs,out,h=>by
  rcases GP bs (Fp out (kC x t st k l b)) h with h|h
  ·rcases Wt h with h|h
   ·exact .inl h
   ·exact .inr ⟨b,h⟩
  ·exact .inr h
def F3{x:Instance}{t:VType}{r:Route}{st:List Stop}{k:Nat}{m:Lab}:∀(A:List Lab) (out:List Lab),m∈A.foldl (fun out l=>lR x t st k out l (iS r.rests k)) out->m∈out\/∃l∈A,∃b,kC x t st k l b=.ok m
 | [],out,h=>.inl h
 | l::A,out,h=>by
  rcases F3 A _ h with h|⟨l',E,b,F⟩
  ·rcases GP _ _ h with h|⟨b,F⟩
   ·exact .inl h
   ·exact .inr ⟨l,by simp,b,F⟩
  ·exact .inr ⟨l',by simp[E],b,F⟩
def Gl{x:Instance}{t:VType}{r:Route}{st:List Stop}:∀(k:Nat),k<=st.length->∀l∈dpP x t r st k,l.sheet.times.length=k
 | 0,_,l,h=>by simp[dpP]at h;subst h;rfl
 | k+1,hk,l,h=>by
  rcases F3 _ _ h with h|⟨l',A,b,E⟩
  ·simp at h
  ·exact B9 (by omega) (Gl k (by omega) l' A) E
def PY(x:Instance)(t:VType)(r:Route)(st:List Stop):∀k:Nat,(dpP x t r st k).length<=2^k
 | 0=>by simp[dpP]
 | k+1=>by have h1:=BN x t r st k (dpP x t r st k) [];have A:=PY x t r st k;rw[Nat.pow_succ];simp only[dpP,O0]at h1 |-;simp at h1;omega
def Nr(x:Instance)(r:Route):∃E t' r' A,yF x r=(cH E t' r' A,fE x r)/\(fE x r=true->E=x/\r'=r/\A=iL x r.visits/\x.types[r.type.toNat]?=some t'):=by
 unfold yF;cases I:fE x r with
 | false=>exact⟨_,_,_,_,by rw[if_neg (by simp)],fun h=>by simp at h⟩
 | true=>have:=xT I;obtain⟨t,F⟩:=aO (show r.type.toNat<x.types.length by omega);exact⟨x,t,r,iL x r.visits,by rw[if_pos rfl,F],fun _=>⟨rfl,rfl,rfl,F⟩⟩
def ZA(x:Instance)(r:Route)(hn:NetOk x.net)(hr:r.visits.length<=1048576):PC prog 69 [.agg (aE x),.agg (bI r)] (.tup [.agg (bQ (mD x r).1),int (mD x r).2]):=by
 have w:IntKind.i64.wrap ((r.visits.length:Int)+1)=(r.visits.length:Int)+1:=bE (by omega);refine pcb (fun t=>t == 57) func69 rfl rfl ?_;simp only[go_sem];refine dV fun i4 aw ar (A:aw i4=some (fA (bQ bV))) N=>?_
 clear N ar;simp only[go_sem,A];refine aP (Zo x r hr) ?_;simp only[go_sem];obtain⟨x',t',r',a5,au,ao⟩:=Nr x r;rw[au];refine aJ fun i6 ai=>?_
 simp only[go_sem,w,A];refine bH ai (by simp[B6]) fun aq (Z:aq i6=some (sX (cH x' t' r' a5))) N=>?_
 replace A:=N A;obtain⟨an,A⟩:=A;clear N ai;simp only[go_sem,w,Z,A];refine aA (fun h1=>?_) (fun h1=>?_)
 ·simp only[go_sem];refine aN A (by simp) ?_;simp only[go_sem];have e:mD x r=(bV,2):=by unfold mD;rw[if_pos h1]
  rw[e];exact .refl _
 have hp:fE x r=true:=by rw[Xaj]at h1;simpa using h1.1
 have ay:r.rests.length<=r.visits.length+1:=by rw[Xaj]at h1;have:=h1.2;simp at this;omega
 have bd:=xT hp;obtain⟨t,ht⟩:=aO (show r.type.toNat<x.types.length by omega);have ba:r.visits.length<=20:=by unfold fE at hp;simp only[Xap,Xbh,Xaj,decide_eq_false_iff_not]at hp;omega
 have eB:mD x r=TX x t r:=by unfold mD;rw[if_neg (by rw[h1];simp),ht]
 obtain⟨ex,er,es,ae⟩:=ao hp;rw[ex,er,es]at Z;rw[ht]at ae;injection ae with ae;rw[<-ae]at Z;clear au ao ex er es ae;rw[eB];have a4:(iL x r.visits).length=r.visits.length:=by simp[iL]
 have az:=PY x t r (iL x r.visits);have a6:=Gl (x:=x) (t:=t) (r:=r) (st:=iL x r.visits);unfold TX;generalize hS:iL x r.visits=st at *;simp only[go_sem,Z];refine aP (KR x t r st) ?_;simp only[go_sem];refine⟨fun ρ H=>∃k:Nat,k<=r.visits.length+1/\ρ 3=.rp (bI r) 0/\ρ 4=.op i4 0 0/\ρ 6=.op i6 0 0/\ρ 8=int ((r.visits.length:Int)+1)/\ρ 38=int ((r.visits.length:Int)+1)/\ρ 39=int k/\ρ 9=.sl ((dpP x t r st k).map cG)/\H i4=some (fA (bQ bV))/\H i6=some (sX (cH x t r st)),fun ρ _=>r.visits.length+1-aU (ρ 39),
  ⟨0,Xab _,by simp only[go_sem],by simp only[go_sem],by simp only[go_sem],by simp only[go_sem],by simp only[go_sem],by simp only[go_sem];rfl,by simp only[go_sem];rfl,A,Z⟩,?_⟩
 clear A Z;rintro ρ H ⟨k,hk,h3,F,h6,h8,ag,ah,Y,A,Z⟩;simp only[go_sem,h3,F,h6,h8,ag,ah,Y];refine aA (fun I=>?_) (fun X=>?_)
 ·have I:k<=r.visits.length:=by simp at I;omega
  simp only[go_sem,h3,F,h6,h8,ag,ah,Y,Z];have bb:2^k<=2^20:=Xaq (by decide) (by omega);have:=az k;refine aP (Z7 x t r st (dpP x t r st k) k hn (by omega) (by omega) (by omega) (a6 k (by omega))) ?_;simp only[go_sem,h3,F,h6,h8,ag,ah,aT k];exact⟨⟨k+1,by omega,rfl,rfl,A,Z⟩,by simp only[aF];omega⟩
 have X:k=r.visits.length+1:=by simp at X;omega
 subst X;simp only[go_sem,h3,F,h6,h8,Y];cases hd:dpP x t r st (r.visits.length+1)with
 | nil=>
  rw[hd]at Y;refine aA (fun _=>?_) (fun hb=>by simp at hb);simp only[go_sem,h3,F,h6,h8,Y];refine⟨⟨by omega,by omega⟩,aJ fun j hj=>?_⟩;simp only[go_sem,h3,F,h6,h8,Y];have a8:(((r.visits.length:Int)+1)).toNat=r.visits.length+1:=by omega
  refine XU aaU (aB _ _ _) (.inl ⟨rfl,rfl,rfl⟩) (.inl rfl) rfl (Dz _) ?_;have ac:=bC A hj;have ax:=bC Z hj;generalize hG:aI (aI H j _) j _=H1;have Rj:H1 j=some (X3 (Bu r)):=by rw[<-hG,aB,a8];exact congrArg (fun es=>some (⟨4,1,es⟩:Row)) (M7 ay)
  replace A:=(congrFun hG.symm i4).trans (YJ A hj);replace Z:=(congrFun hG.symm i6).trans (YJ Z hj);clear hG hj;simp only[go_sem,h3,F,h6,h8,Y,Z];refine FM (by simp only[go_sem]) Rj fun Hr bc hr=>?_
  replace A:=(hr i4 ac).trans A;simp only[go_sem,h3,F,h6,h8,Y];refine aP (Zp x t r st (Bu r) hn (by omega) (by rw[NV ay,a4];exact Xaf _)) ?_;simp only[go_sem,h3,F,h6,h8,Y];refine aN A (by simp[dZ]) ?_;simp only[go_sem,F];exact .refl _
 | cons l0 ls=>
  rw[hd]at Y;have a9:=En (l0::ls);have a0:(l0::ls).length<=2^21:=by have:=az (r.visits.length+1);rw[hd]at this;exact Xag this (Xaq (by decide) (by omega))
  refine aA (fun hb=>by simp at hb;omega) (fun _=>?_);have b1:(0:Int)<=0/\(0:Int)<((l0::ls).length:Int):=⟨Xbs _,by simp⟩;simp only[go_sem,h3,F,h6,h8,Y,aC (l:=l0::ls) (k:=0) (x:=l0) rfl,b1];refine⟨by omega,?_⟩;refine aJ fun aa ab=>?_
  simp only[go_sem,h3,F,h6,h8,Y,A];refine bH ab (by simp[iG]) fun am (E:am aa=some (eR (cG l0))) N=>?_
  replace A:=N A;obtain⟨T,A⟩:=A;clear N ab;simp only[go_sem,h3,F,h6,h8,Y,E,A];refine⟨⟨by omega,En ls⟩,?_⟩;refine⟨fun ρ H=>∃(m:Nat),m<=ls.length/\ρ 4=.op i4 0 0/\ρ 12=.op aa 0 0/\ρ 65=.sl (ls.map cG)/\ρ 66=int ls.length/\ρ 67=int m/\H i4=some (fA (bQ bV))/\H aa=some (eR (cG ((ls.take m).foldl Ap l0))),fun ρ _=>ls.length-aU (ρ 67),
   ⟨0,Xab _,by simp only[go_sem,F],by simp only[go_sem],by simp only[go_sem],by simp only[go_sem,Xaa],by simp only[go_sem];rfl,A,E⟩,?_⟩
  clear h3 F h6 h8 Y A E ag ah Z;rintro ρ H ⟨m,hm,F,J,O,U,M,A,E⟩;simp only[go_sem,F,J,O,U,M];refine aA (fun I=>?_) (fun X=>?_)
  ·have I:=bU I;obtain⟨l,ap⟩:=aO I;have b2:=inB I;have hf:(ls.take (m+1)).foldl Ap l0=Ap ((ls.take m).foldl Ap l0) l:=jT ap;generalize (ls.take m).foldl Ap l0=bl at *;simp only[go_sem,F,J,O,U,M,aC ap,b2];refine aJ fun a7 af=>?_
   simp only[go_sem,F,J,O,U,M,A,E];refine bH af (by simp[iG]) fun ak (av:ak a7=some (eR (cG l))) N=>?_
   replace A:=N A;obtain⟨al,A⟩:=A;replace E:=N E;obtain⟨aj,E⟩:=E;clear N af;simp only[go_sem,F,J,O,U,M,av,A,E];refine aA (fun hb=>?_) (fun hb=>?_)
   ·simp only[go_sem,F,J,O,U,M,av];refine aN E (by simp[iG]) ?_;generalize hP:aI _ aa _=HP;replace A:=kpA hP (by first|exact T|exact ne_i12_i4.symm) A;replace E:HP aa=some (eR (cG l)):=upS hP;clear hP;simp only[go_sem,F,J,O,U,M,lG (show m<=4611686018427387904 by simp at a0;omega),E,A];exact⟨⟨m+1,I,rfl,by rw[hf];unfold Ap;rw[if_pos hb]⟩,by simp only[aF];omega⟩
   ·simp only[go_sem,F,J,O,U,M,lG (show m<=4611686018427387904 by simp at a0;omega)];exact⟨⟨m+1,I,rfl,A,by rw[hf];unfold Ap;rw[if_neg (by rw[hb];simp)];exact E⟩,by simp only[aF];omega⟩
  ·have X:=bW hm X;subst X;rw[Xad]at E;simp only[go_sem,F,J,E];refine aN A (by simp[dZ]) ?_;simp only[go_sem,F];exact .refl _
def kQ(p:Int×Int):List AV:=[int p.1,int p.2]
def rF(m:List (Int×Int))(o:Int):Option Nat:=m.findIdx? fun p=>p.1 == o
def mS(m:List (Int×Int))(o:Int):Int:=((m.find? fun p=>p.1 == o).map (·.2)).getD 0
def xJ(m:List (Int×Int))(o v:Int):List (Int×Int):=match rF m o with
 | some i=>m.set i (o,v)
 | none=>m++[(o,v)]
abbrev nN(m:List (Int×Int)):Row:=⟨0,2,m.map kQ⟩
def sG(o:Int):∀(m:List (Int×Int)) (i:Nat),qC (mZ prog 3 (int o)) (m.map kQ) i=some ((rF m o).map (·+i))
 | [],i=>rfl
 | p::m,i=>by
  have ih:=sG o m (i+1);have E:mZ prog 3 (int o) ((kQ p).getD 0 .any)=some (o == p.1):=by show mZ prog 3 (int o) (int p.1)=_;unfold mZ;simp only[kk3];simp[rM]
  rw[Xat,qC,E];unfold rF at *;rw[List.findIdx?_cons];by_cases h:o=p.1
  ·subst h;simp
  ·have h1:(o == p.1)=false:=by simpa using h
   have A:(p.1 == o)=false:=by simpa using fun e=>h e.symm
   rw[h1,A];simp only[Xar,if_false];rw[ih];cases m.findIdx? (fun p=>p.1 == o)with
   | none=>rfl
   | some j=>simp;omega
def gO(o:Int)(m:List (Int×Int)):qC (mZ prog 3 (int o)) (m.map kQ) 0=some (rF m o):=by rw[sG];cases rF m o <;> rfl
def iX(o:Int):kR prog 3 (int o)=true:=by simp only[kR,kk3];rfl
def rZ(m:List (Int×Int))(o:Int):Em false (int 0) (m.map kQ) (rF m o)=int (mS m o):=by
 unfold Em mS rF;induction m with
 | nil=>rfl
 | cons p m ih=>
  rw[List.findIdx?_cons,List.find?_cons];cases h:p.1 == o with
  | true=>simp[kQ]
  | false=>
   cases A:m.findIdx? (fun p=>p.1 == o)with
   | none=>rw[A]at ih;simpa using ih
   | some j=>rw[A]at ih;simp at ih |-;exact ih
def vV(m:List (Int×Int))(o v:Int):Ta (m.map kQ) (rF m o) (int o) (int v)=(xJ m o v).map kQ:=by
 unfold Ta xJ;cases rF m o with
 | none=>simp[kQ]
 | some i=>simp[List.map_set,kQ]
def At(m:List (Int×Int))(o v q:Int):mS (xJ m o v) q=if q=o then v else mS m q:=by
 unfold mS xJ rF;induction m with
 | nil=>
  by_cases h:q=o
  ·subst h;simp
  ·have E:(o == q)=false:=by simpa using fun e=>h e.symm
   simp[h,E]
 | cons p m ih=>
  rw[List.findIdx?_cons];cases I:p.1 == o with
  | true=>
   have A:p.1=o:=by simpa using I
   simp only[if_true,List.set_cons_zero,List.find?_cons];by_cases h:q=o
   ·subst h;simp
   ·have E:(o == q)=false:=by simpa using fun e=>h e.symm
    have M:(p.1 == q)=false:=by rw[A];exact E
    simp[h,E,M]
  | false=>
   have A:p.1≠o:=by simpa using I
   cases J:m.findIdx? (fun p=>p.1 == o)with
   | none=>
    rw[J]at ih;simp only[Xar,if_false,Option.map_none,List.cons_append,List.find?_cons];cases F:p.1 == q with
    | true=>
     have:q≠o:=fun e=>A ((by simpa using F:p.1=q).trans e)
     simp[this]
    | false=>simpa using ih
   | some j=>
    rw[J]at ih;simp only[Xar,if_false,Option.map_some,List.set_cons_succ,List.find?_cons];cases F:p.1 == q with
    | true=>
     have:q≠o:=fun e=>A ((by simpa using F:p.1=q).trans e)
     simp[this]
    | false=>simpa using ih
def GV(a b:Int):PC prog 110 [int a,int b] (boo (a != -1&&a != b)):=by refine pcd func110 rfl rfl ?_;simp only[go_sem];exact .refl _
def Km(l:List Visit)(o:Int):Nat:=l.countP fun v=>v.order == o
def QK{l:List Visit}{k:Nat}{v:Visit}(h:l[k]?=some v)(o:Int):Km (l.take (k+1)) o=Km (l.take k) o+if v.order=o then 1 else 0:=by
 unfold Km;rw[aZ h,List.countP_append];by_cases e:v.order=o
 ·simp[e]
 ·have:(v.order == o)=false:=by simpa using e
  simp[e]
def YG(l:List Visit)(k:Nat)(o:Int):Km (l.take k) o<=l.length:=Xag List.countP_le_length (by rw[Xah];omega)
def Na{l:List Visit}{k:Nat}{v:Visit}(h:l[k]?=some v):sJ l k=decide (Km (l.take k) v.order=0):=by
 have M:=(List.getElem?_eq_some_iff.1 h).1;rw[Xao];simp only[decide_eq_true_eq];unfold sJ Km;rw[List.countP_eq_zero,Xal];constructor
 ·intro I u J;obtain⟨i,E,rfl⟩:=List.getElem_of_mem J;have A:i<k:=by simp at E;omega
  have:=I i (Xba.2 A);rw[sU h,sU (List.getElem?_eq_getElem (show i<l.length by omega))]at this;simpa using this
 ·intro I i E;have A:=Xba.1 E;have F:i<l.length:=by omega
  rw[sU h,sU (List.getElem?_eq_getElem F)];have:=I l[i] (List.mem_take_iff_getElem.2 ⟨i,by omega,rfl⟩);simpa using this
def Yn(x:Instance)(r:Route)(s:Sheet)(hr:r.visits.length<=1048576):PC prog 70 [.agg (aE x),.agg (bI r),.agg (bQ s)] (.agg (aV (qR x r s))):=by
 refine pcd func70 rfl rfl ?_;simp only[go_sem];refine dV fun i6 a7 a6 (I:a7 i6=some (lC bB)) N=>?_
 clear N a6;simp only[go_sem,I];refine aA (fun h1=>?_) (fun h1=>?_)
 . have h1:bZ r.type x.types.length=true:=h1;simp only[go_sem];refine aN I (by simp) ?_;simp only[go_sem];have e:qR x r s=bB:=by unfold qR;rw[if_pos h1]
   rw[e];exact .refl _
 have h1:bZ r.type x.types.length=false:=h1;have bd:0<=r.type/\r.type<(x.types.length:Int):=by simp only[bZ,Xaj,decide_eq_false_iff_not]at h1;omega
 obtain⟨t,ht⟩:=aO (show r.type.toNat<x.types.length by omega);have e:qR x r s=Vc x r s t:=by unfold qR;rw[if_neg (by rw[h1];simp),ht]
 rw[e];simp only[go_sem,aC ht,bd];refine aJ fun i7 ap=>?_
 simp only[go_sem,I];refine bH ap (by simp[jZ]) fun a8 (R7:a8 i7=some (Dl t)) N=>?_
 replace I:=N I;obtain⟨a5,I⟩:=I;clear N ap;simp only[go_sem,R7,I];refine⟨by decide,?_⟩;refine aJ fun ab ak=>?_
 simp only[go_sem,I];refine bH ak (by simp) fun al (E:al ab=some (lC (BD t s))) N=>?_
 replace I:=N I;obtain⟨aa,I⟩:=I;clear N ak;simp only[go_sem,E,I];refine aJ fun jm au=>?_
 have ac:=bC I au;have U:=bC E au;generalize hG:aI al jm _=HM;have X:HM jm=some (nN []):=by rw[<-hG,aB];rfl
 replace I:=(congrFun hG.symm i6).trans ((aD _ _ _ _ ac).trans I);replace E:=(congrFun hG.symm ab).trans ((aD _ _ _ _ U).trans E);clear hG au R7;simp only[go_sem];refine ⟨fun ρ H => ∃ (k : Nat) (m : List (Int × Int)), k <= r.visits.length /\ ρ 3 = .rp (aE x) 0 /\ ρ 4 = .rp (bI r) 0 /\ ρ 6 = .op i6 0 0 /\ ρ 10 = .op ab 0 0 /\ ρ 11 = .om jm /\ ρ 59 = .sl (r.visits.map aL) /\ ρ 60 = int r.visits.length /\ ρ 61 = int k /\ H i6 = some (lC bB) /\
     H ab=some (lC (((List.range r.visits.length).take k).foldl (jC x r) (BD t s)))/\H jm=some (nN m)/\∀o,mS m o=(Km (r.visits.take k) o:Nat),fun ρ _=>r.visits.length-aU (ρ 61),
   ⟨0,[],Xab _,by simp only[go_sem],by simp only[go_sem],by simp only[go_sem],by simp only[go_sem],by simp only[go_sem],by simp only[go_sem],by simp only[go_sem,Xaa],by simp only[go_sem];rfl,I,E,X,fun o=>rfl⟩,?_⟩
 clear I E X;rintro ρ H ⟨k,m,hk,h3,h4,h6,F,M,J,T,O,I,E,X,hm⟩;simp only[go_sem,h3,h4,h6,F,M,J,T,O];refine aA (fun af=>?_) (fun az=>?_)
 . have af:=bU af;obtain⟨v,hv⟩:=aO af;have b1:=inB af;have hs:((List.range r.visits.length).take (k+1)).foldl (jC x r) (BD t s)=jC x r (((List.range r.visits.length).take k).foldl (jC x r) (BD t s)) k:=by rw[aZ (sF af),List.foldl_append];rfl
   generalize hA:((List.range r.visits.length).take k).foldl (jC x r) (BD t s)=A at E hs;have ev:kS r.visits k=v.order:=sU hv;have be:=Na hv;have bg:=YG r.visits k v.order;have a9:=QK hv;have ba:=hm v.order;have wm:IntKind.i64.wrap (mS m v.order+1)=mS m v.order+1:=bE (by omega);simp only[go_sem,h3,h4,h6,F,M,J,T,O,aC hv,b1];refine aJ fun bc aj=>?_
   simp only[go_sem,h3,h4,h6,F,M,J,T,O,I,E,X];refine bH aj (by simp[cN]) fun aw (ag:aw bc=some (⟨72,2,[aL v]⟩)) N=>?_
   replace I:=N I;obtain⟨ay,I⟩:=I;replace E:=N E;obtain⟨ao,E⟩:=E;replace X:=N X;obtain⟨ah,X⟩:=X;clear N aj;simp only[go_sem,h3,h4,h6,F,M,J,T,O,ag,I,E,X];refine rY X xZ (iX _) (gO _ _) zv3 ?_;rw[rZ];simp only[go_sem,h3,h4,h6,F,M,J,T,O,ag,wm];refine C2 X xZ (iX _) (gO _ _) ?_;rw[vV];generalize hP:aI _ jm _=HP;replace I:=kpA hP (by first|exact ac|exact ne_jm_i6.symm) I;replace E:=kpA hP (by first|exact U|exact ne_jm_i10.symm) E;replace ag:=kpA hP (by first|exact ne_i13_jm|exact ah.symm) ag;replace X:HP jm=some (nN (xJ m v.order (mS m v.order+1))):=by rw[<-hP,aB];skip
   clear hP;simp only[go_sem,h3,h4,h6,F,M,J,T,O,X,I,E,ag];have ar:∀o,mS (xJ m v.order (mS m v.order+1)) o=(Km (r.visits.take (k+1)) o:Nat):=fun o=>by
     rw[At,a9 o,hm o,hm v.order];by_cases e:o=v.order
     . subst e;simp
     . rw[if_neg e,if_neg (fun h=>e h.symm)];rfl
   refine rY X xZ (iX _) (gO _ _) zv3 ?_;rw[rZ,At,if_pos rfl];have aq:(bZ v.order x.orders.length||decide (mS m v.order+1>1))=(bZ v.order x.orders.length|| !sJ r.visits k):=by
     rw[be,ba]
     congr 1
     rw[Xao];simp;omega
   simp only[go_sem,h3,h4,h6,F,M,J,T,O,ag];refine aA (fun hb=>?_) (fun hb=>?_)
   . have an:(bZ v.order x.orders.length|| !sJ r.visits k)=true:=aq▸hb;have e:jC x r A k=A:=by unfold jC;rw[ev,if_pos an]
     simp only[go_sem,h3,h4,h6,F,M,J,T,O,aT k];exact⟨⟨k+1,_,af,rfl,I,by rw[hs,e];exact E,X,ar⟩,by simp only[aF];omega⟩
   have an:(bZ v.order x.orders.length|| !sJ r.visits k)=false:=aq▸hb;have bf:bZ v.order x.orders.length=false:=(Xaj.1 an).1;have bb:0<=v.order/\v.order<(x.orders.length:Int):=by simp only[bZ,Xaj,decide_eq_false_iff_not]at bf;omega
   obtain⟨o,ho⟩:=aO (show v.order.toNat<x.orders.length by omega);have e:jC x r A k=DJ o r.type (DN o r.type A):=by unfold jC;rw[ev,if_neg (by rw[an];simp),ho]
   rw[e]at hs;simp only[go_sem,h3,h4,h6,F,M,J,T,O,ag,aC ho,bb];refine aJ fun a0 am=>?_
   simp only[go_sem,h3,h4,h6,F,M,J,T,O,I,E,X];refine bH am (by simp[kB]) fun av (Z:av a0=some (LU o)) N=>?_
   replace I:=N I;obtain⟨ax,I⟩:=I;replace E:=N E;obtain⟨Y,E⟩:=E;replace X:=N X;obtain⟨a4,X⟩:=X;clear N am;simp only[go_sem,h3,h4,h6,F,M,J,T,O,Z,I,E,X];refine aP (GV o.now r.type) ?_;simp only[go_sem,h3,h4,h6,F,M,J,T,O];refine gT (fun ae H'=>ae 3=.rp (aE x) 0/\ae 4=.rp (bI r) 0/\ae 6=.op i6 0 0/\ae 10=.op ab 0 0/\ae 11=.om jm/\ae 14=.op a0 0 0/\ae 59=.sl (r.visits.map aL)/\ae 60=int r.visits.length/\ae 61=int k/\H' i6=some (lC bB)/\H' a0=some (LU o)/\H' jm=some (nN (xJ m v.order (mS m v.order+1)))/\H' ab=some (lC (DN o r.type A))) ?_ fun K hK=>aA (fun hb=>?_) (fun hb=>?_)
   rotate_left
   . simp only[go_sem,h3,h4,h6,F,M,J,T,O,E];refine bO so3 E ⟨by simp,rfl,by simp⟩ ?_;generalize hP:aI _ ab _=HP;replace I:=kpA hP (by first|exact aa|exact ne_i10_i6.symm) I;replace Z:=kpA hP (by first|exact ne_i14_i10|exact Y.symm) Z;replace X:=kpA hP (by first|exact ne_jm_i10|exact U.symm) X;replace E:HP ab=some (lC (DN o r.type A)):=by rw[<-hP,aB];(rw[DN,if_pos (show OC o r.type=true from hb)];rfl)
     clear hP;simp only[go_sem,h3,h4,h6,F,M,J,T,O,E,I,Z,X];exact hK _ _ ⟨by simp only[go_sem,h3],by simp only[go_sem,h4],by simp only[go_sem,h6],by simp only[go_sem,F],by simp only[go_sem,M],by simp only[go_sem],by simp only[go_sem,J],by simp only[go_sem,T],by simp only[go_sem,O],I,Z,X,E⟩
   . simp only[go_sem];refine hK _ _ ⟨by simp only[go_sem,h3],by simp only[go_sem,h4],by simp only[go_sem,h6],by simp only[go_sem,F],by simp only[go_sem,M],by simp only[go_sem],by simp only[go_sem,J],by simp only[go_sem,T],by simp only[go_sem,O],I,Z,X,?_⟩;rw[DN,if_neg (by rw[show OC o r.type=false from hb];simp)];exact E
   clear I E X Z h3 h4 h6 F M J T O;rintro ρ H ⟨h3,h4,h6,F,M,ai,J,T,O,I,Z,X,E⟩;simp only[go_sem,h3,h4,h6,F,M,ai,J,T,O,Z];refine aP (GV o.last r.type) ?_;simp only[go_sem,h3,h4,h6,F,M,ai,J,T,O];refine aA (fun hb=>?_) (fun hb=>?_)
   . simp only[go_sem,h3,h4,h6,F,M,ai,J,T,O,E];refine bO so3 E ⟨by simp,rfl,by simp⟩ ?_;generalize hP:aI _ ab _=HP;replace I:=kpA hP (by first|exact aa|exact ne_i10_i6.symm) I;replace Z:=kpA hP (by first|exact ne_i14_i10|exact Y.symm) Z;replace X:=kpA hP (by first|exact ne_jm_i10|exact U.symm) X;replace E:HP ab=some (lC (DJ o r.type (DN o r.type A))):=by rw[<-hP,aB];(rw[DJ,if_pos (show Oq o r.type=true from hb)];rfl)
     clear hP;simp only[go_sem,h3,h4,h6,F,M,ai,J,T,O,aT k,E,I,Z,X];exact⟨⟨k+1,xJ m v.order (mS m v.order+1),af,rfl,by rw[hs],rfl,ar⟩,by simp only[aF];omega⟩
   . simp only[go_sem,h3,h4,h6,F,M,ai,J,T,O,aT k];exact⟨⟨k+1,_,af,rfl,I,by rw[hs,DJ,if_neg (by rw[show Oq o r.type=false from hb];simp)];exact E,X,ar⟩,by simp only[aF];omega⟩
 . have az:=bW hk az;subst az;rw[Xam (by simp)]at E;simp only[go_sem,h6,F,E];refine aN I (by simp[bR]) ?_;simp only[go_sem,h6];exact .refl _
def El(x:Instance)(r:Route)(v:Visit):Bool:=match x.types[r.type.toNat]?,x.orders[v.order.toNat]? with
 | some t,some o=>uJ t.skills o.skills
 | _,_=>false
def DB(x:Instance)(r:Route):Int:=if(r.visits.any fun v=> !El x r v)=true then 18 else 0
def WY(x:Instance)(r:Route)(hr:r.visits.length<=1048576)(ab:0<=r.type/\r.type<(x.types.length:Int))(Z:∀v∈r.visits,0<=v.order/\v.order<(x.orders.length:Int)):
  PC prog 67 [.agg (aE x),.agg (bI r)] (int (DB x r)):=by
 obtain⟨t,ht⟩:=aO (show r.type.toNat<x.types.length by omega);refine pcd func67 rfl rfl ?_;simp only[go_sem];refine⟨fun ρ _=>∃k:Nat,k<=r.visits.length/\ρ 2=.rp (aE x) 0/\ρ 3=.rp (bI r) 0/\ρ 8=.sl (r.visits.map aL)/\ρ 9=int r.visits.length/\ρ 10=int k/\∀v∈r.visits.take k,(!El x r v)=false,fun ρ _=>r.visits.length-aU (ρ 10),⟨0,Xab _,rfl,rfl,rfl,by simp only[go_sem,Xaa],rfl,by simp⟩,?_⟩;rintro ρ H ⟨k,hk,M,I,O,F,A,hz⟩;simp only[go_sem,M,I,O,F,A];refine aA (fun E=>?_) (fun T=>?_)
 ·have E:=bU E;obtain⟨v,X⟩:=aO E;have b1:=inB E;have aa:=Z v (Xac X);obtain⟨o,ho⟩:=aO (show v.order.toNat<x.orders.length by omega);have es:El x r v=uJ t.skills o.skills:=by unfold El;rw[ht,ho]
  simp only[go_sem,M,I,O,F,A,aC X,b1];refine aJ fun i6 J=>?_
  simp only[go_sem,M,I,O,F,A];refine bH J (by simp[cN]) fun U (R6:U i6=some (⟨72,2,[aL v]⟩)) N=>?_
  clear N J;simp only[go_sem,M,I,O,F,A,R6];refine fW [i6] [(0,true),(1,true),(2,true),(3,true),(4,true),(5,true),(6,true),(7,true),(8,true),(9,true),(10,true),(11,true),(12,true),(13,true),(14,true)] (by simp[R6]) (by kernel_rfl) fun Hp Hr hp ae _ ac=>?_
  have P6:=(hp i6 (by simp)).trans R6;simp only[go_sem,M,I,O,F,A,P6,aC ht,ab,aC ho,aa];refine⟨_,(ZR t o.skills).q rfl,?_⟩;simp only[go_sem,M,I,O,F,A];refine dN fun _ Hm _ _=>?_
  simp only[go_sem,M,I,O,F,A];refine aA (fun Y=>?_) (fun Y=>?_)
  ·simp only[go_sem];exact bP (by unfold DB;rw[if_pos (Xan.2 ⟨v,Xac X,by rw[es];exact Y⟩)])
  ·simp only[go_sem,M,I,O,F,A,aT k];exact⟨⟨k+1,E,rfl,aR (p:=fun v=>(!El x r v)=false) X (by rw[es];exact Y) hz⟩,by simp only[aF];omega⟩
 ·have T:=bW hk T;subst T;rw[Xad]at hz;simp only[go_sem];exact bP (by unfold DB;rw[if_neg (by rw[A7 hz];simp)])
def eI(x:Instance)(r:Route):Sheet×Score×Int:=
 if bZ r.type x.types.length=true then(bV,bB,2)
 else if(uU x r.visits != 0)=true then(bV,bB,uU x r.visits)
 else if(DB x r != 0)=true then(bV,bB,DB x r)
 else if(AD x r != 0)=true then(bV,bB,AD x r)
 else if((mD x r).2 != 0)=true then(bV,bB,(mD x r).2)
 else((mD x r).1,qR x r (mD x r).1,0)
structure EvalB(x:Instance):Prop where
 net:NetOk x.net
 load:LoadB x
 apart:x.apart.length<=1048576
 before:x.before.length<=1048576
abbrev fnsL:List (List AV):=[[.v (.func (.func 66) #[] #[])],[.v (.func (.func 67) #[] #[])],[.v (.func (.func 68) #[] #[])]]
def zF(x:Instance)(r:Route)(hx:EvalB x)(hr:r.visits.length<=1048575):PC prog 39 [.agg (aE x),.agg (bI r)] (.tup [.agg (bQ (eI x r).1),.agg (aV (eI x r).2.1),int (eI x r).2.2]):=by
 refine pcd func39 rfl rfl ?_;simp only[go_sem];refine dV fun i4 am aj (E:am i4=some (fA (bQ bV))) N=>?_
 clear N aj;simp only[go_sem,E];refine dV fun i5 ag ah (I:ag i5=some (lC bB)) N=>?_
 replace E:=N E;obtain⟨A,E⟩:=E;clear N ah;simp only[go_sem,I,E];refine aA (fun h1=>?_) (fun h1=>?_)
 ·have h1:bZ r.type x.types.length=true:=h1;simp only[go_sem];refine aN E (by simp) ?_;generalize F:aI _ i4 _=HP;replace I:=kpA F (by first|exact ne_i5_i4|exact A.symm) I;replace E:HP i4=some (fA (bQ bV)):=upS F;clear F;simp only[go_sem,E,I];refine aN I (by simp) ?_;generalize F:aI _ i5 _=HP;replace E:=kpA F (by first|exact A|exact ne_i5_i4.symm) E;replace I:HP i5=some (lC bB):=upS F;clear F;simp only[go_sem,I,E];have e:eI x r=(bV,bB,2):=by unfold eI;rw[if_pos h1]
  rw[e];exact .refl _
 have c1:¬bZ r.type x.types.length=true:=by rw[show bZ r.type x.types.length=false from h1];simp
 have an:0<=r.type/\r.type<(x.types.length:Int):=by have h1:bZ r.type x.types.length=false:=h1;simp only[bZ,Xaj,decide_eq_false_iff_not]at h1;omega
 simp only[go_sem];refine⟨fun ρ H=>∃(k:Nat),k<=3/\ρ 2=.rp (aE x) 0/\ρ 3=.rp (bI r) 0/\ρ 4=.op i4 0 0/\ρ 5=.op i5 0 0/\ρ 25=.sl fnsL/\ρ 26=int 3/\ρ 27=int k/\H i4=some (fA (bQ bV))/\H i5=some (lC bB)/\(0<k->uU x r.visits=0)/\(1<k->DB x r=0)/\(2<k->AD x r=0),fun ρ _=>3-aU (ρ 27),
  ⟨0,Xab _,by simp only[go_sem],by simp only[go_sem],by simp only[go_sem],by simp only[go_sem],by simp only[go_sem],by simp only[go_sem];rfl,by simp only[go_sem];rfl,E,I,fun h=>absurd h (by decide),fun h=>absurd h (by decide),fun h=>absurd h (by decide)⟩,?_⟩
 clear E I;rintro ρ H ⟨k,hk,Y,X,U,T,M,O,J,E,I,q1,q2,q3⟩;simp only[go_sem,Y,X,U,T,M,O,J];refine aA (fun ak=>?_) (fun ae=>?_)
 ·have ak:k<3:=by simp at ak;omega
  have hc:k=0\/k=1\/k=2:=by omega
  rcases hc with rfl|rfl|rfl
  ·simp only[go_sem,Y,X,U,T,M,O,J];refine⟨by decide,PC.use (DC x r (by omega) hx.apart hx.before) ?_⟩;simp only[go_sem,Y,X,U,T,M,O,J];refine aA (fun hb=>?_) (fun hb=>?_)
   ·have e:eI x r=(bV,bB,uU x r.visits):=by unfold eI;rw[if_neg c1,if_pos hb]
    simp only[go_sem,Y,X,U,T,M,O,J];refine aN E (by simp) ?_;generalize F:aI _ i4 _=HP;replace I:=kpA F (by first|exact ne_i5_i4|exact A.symm) I;replace E:HP i4=some (fA (bQ bV)):=upS F;clear F;simp only[go_sem,Y,X,U,T,M,O,J,E,I];refine aN I (by simp) ?_;generalize F:aI _ i5 _=HP;replace E:=kpA F (by first|exact A|exact ne_i5_i4.symm) E;replace I:HP i5=some (lC bB):=upS F;clear F;simp only[go_sem,Y,X,U,T,M,O,J,I,E];rw[e];exact .refl _
   ·simp only[go_sem,Y,X,U,T,M,O,J];exact⟨⟨1,by decide,rfl,E,I,fun _=>by simpa using hb,fun h=>absurd h (by decide),fun h=>absurd h (by decide)⟩,by simp only[aF];decide⟩
  ·simp only[go_sem,Y,X,U,T,M,O,J];refine⟨by decide,PC.use (WY x r (by omega) an (WF (q1 (by decide)))) ?_⟩;simp only[go_sem,Y,X,U,T,M,O,J];refine aA (fun hb=>?_) (fun hb=>?_)
   ·have e:eI x r=(bV,bB,DB x r):=by unfold eI;rw[if_neg c1,q1 (by decide),if_neg (by decide),if_pos hb]
    simp only[go_sem,Y,X,U,T,M,O,J];refine aN E (by simp) ?_;generalize F:aI _ i4 _=HP;replace I:=kpA F (by first|exact ne_i5_i4|exact A.symm) I;replace E:HP i4=some (fA (bQ bV)):=upS F;clear F;simp only[go_sem,Y,X,U,T,M,O,J,E,I];refine aN I (by simp) ?_;generalize F:aI _ i5 _=HP;replace E:=kpA F (by first|exact A|exact ne_i5_i4.symm) E;replace I:HP i5=some (lC bB):=upS F;clear F;simp only[go_sem,Y,X,U,T,M,O,J,I,E];rw[e];exact .refl _
   ·simp only[go_sem,Y,X,U,T,M,O,J];exact⟨⟨2,by decide,rfl,E,I,fun _=>q1 (by decide),fun _=>by simpa using hb,fun h=>absurd h (by decide)⟩,by simp only[aF];decide⟩
  ·simp only[go_sem,Y,X,U,T,M,O,J];refine⟨by decide,PC.use (Yt x r hx.load hr hx.apart hx.before) ?_⟩;simp only[go_sem,Y,X,U,T,M,O,J];refine aA (fun hb=>?_) (fun hb=>?_)
   ·have e:eI x r=(bV,bB,AD x r):=by unfold eI;rw[if_neg c1,q1 (by decide),if_neg (by decide),q2 (by decide),if_neg (by decide),if_pos hb]
    simp only[go_sem,Y,X,U,T,M,O,J];refine aN E (by simp) ?_;generalize F:aI _ i4 _=HP;replace I:=kpA F (by first|exact ne_i5_i4|exact A.symm) I;replace E:HP i4=some (fA (bQ bV)):=upS F;clear F;simp only[go_sem,Y,X,U,T,M,O,J,E,I];refine aN I (by simp) ?_;generalize F:aI _ i5 _=HP;replace E:=kpA F (by first|exact A|exact ne_i5_i4.symm) E;replace I:HP i5=some (lC bB):=upS F;clear F;simp only[go_sem,Y,X,U,T,M,O,J,I,E];rw[e];exact .refl _
   ·simp only[go_sem,Y,X,U,T,M,O,J];exact⟨⟨3,by decide,rfl,E,I,fun _=>q1 (by decide),fun _=>q2 (by decide),fun _=>by simpa using hb⟩,by simp only[aF];decide⟩
 have ae:k=3:=by simp at ae;omega
 subst ae;have e1:=q1 (by decide);have e2:=q2 (by decide);have e3:=q3 (by decide);have eE:eI x r=if((mD x r).2 != 0)=true then(bV,bB,(mD x r).2)else((mD x r).1,qR x r (mD x r).1,0):=by unfold eI;rw[if_neg c1,e1,e2,e3];rfl
 rw[eE];simp only[go_sem,Y,X,U,T];refine aP (ZA x r hx.net (by omega)) ?_;simp only[go_sem,Y,X,U,T];refine aJ fun ac ab=>?_
 simp only[go_sem,Y,X,U,T,E,I];refine bH ab (by simp[dZ]) fun HGi10 (R10:HGi10 ac=some (fA (bQ (mD x r).1))) N=>?_
 replace E:=N E;obtain⟨Z,E⟩:=E;replace I:=N I;obtain⟨aa,I⟩:=I;clear N ab;simp only[go_sem,Y,X,U,T,R10,E,I];refine aA (fun hb=>?_) (fun hb=>?_)
 ·rw[if_pos hb];simp only[go_sem,Y,X,U,T];refine aN E (by simp) ?_;generalize F:aI _ i4 _=HP;replace I:=kpA F (by first|exact ne_i5_i4|exact A.symm) I;replace E:HP i4=some (fA (bQ bV)):=upS F;clear F;simp only[go_sem,Y,X,U,T,E,I];refine aN I (by simp) ?_;generalize F:aI _ i5 _=HP;replace E:=kpA F (by first|exact A|exact ne_i5_i4.symm) E;replace I:HP i5=some (lC bB):=upS F;clear F;simp only[go_sem,Y,X,U,T,I,E];exact .refl _
 ·rw[if_neg (by rw[hb];simp)];simp only[go_sem,Y,X,U,T];refine fW [ac] [(0,true),(1,true),(2,true),(3,true),(4,true),(5,false),(6,false),(7,false)] (by simp[R10]) (by kernel_rfl) fun Hp Hr hp af _ ao=>?_
  have al:=(hp ac (by simp)).trans R10;have P4:=(af i4 (by simp[Z])).trans E;have P5:=(af i5 (by simp[aa])).trans I;simp only[go_sem,Y,X,U,T,al];refine⟨_,(Yn x r (mD x r).1 (by omega)).q rfl,?_⟩;simp only[go_sem,Y,X,U,T,al];refine aN P4 (by simp[dZ]) ?_;generalize F:aI _ i4 _=HP;replace P5:=kpA F (by first|exact ne_i5_i4|exact A.symm) P5;replace P4:HP i4=some (fA (bQ (mD x r).1)):=upS F;clear F;simp only[go_sem,Y,X,U,T,P4,P5];refine aN P5 (by simp[bR]) ?_;generalize F:aI _ i5 _=HP;replace P4:=kpA F (by first|exact A|exact ne_i5_i4.symm) P4;replace P5:HP i5=some (lC (qR x r (mD x r).1)):=upS F;clear F;simp only[go_sem,Y,X,U,T,P5,P4];refine dN fun _ Hm _ ai=>?_
  have M4:=(ai i4 (by simp[Z])).trans P4;have M5:=(ai i5 (by simp[aa])).trans P5;simp only[go_sem,U,T,M4,M5];exact .refl _
def XT(x:Instance)(r:Route)(Y:EvalB x)(Z:r.visits.length<=1048575):PC prog 23 [.agg (aE x),.agg (bI r)] (int (eI x r).2.2):=by
 refine pcd func23 rfl rfl ?_;simp only[go_sem];refine aP (zF x r Y Z) ?_;simp only[go_sem];refine dV fun X J M (E:J X=some (fA (bQ bV))) N=>?_
 clear N M;simp only[go_sem,E];refine dV fun U O T (F:O U=some (lC bB)) N=>?_
 replace E:=N E;obtain⟨A,E⟩:=E;clear N T;simp only[go_sem,F,E];refine aN E (by simp[dZ]) ?_;generalize I:aI _ X _=HP;replace F:=kpA I (by first|exact ne_i6_i5|exact A.symm) F;replace E:HP X=some (fA (bQ (eI x r).1)):=upS I;clear I;simp only[go_sem,E,F];refine aN F (by simp[bR]) ?_;generalize I:aI _ U _=HP;replace E:=kpA I (by first|exact A|exact ne_i6_i5.symm) E;replace F:HP U=some (lC (eI x r).2.1):=upS I;clear I;simp only[go_sem,F,E];exact .refl _
end Sq
namespace Sq
open Mv (bP cK aR)
end Sq
namespace Sq
open Mv (aR)
open Mv (bP cK aR)
section
variable{x:Instance}(h:Acc x)
include h
end
section
variable{x:Instance}(h:Acc x)
include h
end
end Sq
end Go.Proofs.YtkjdacijpeiphaaGreatDoor
