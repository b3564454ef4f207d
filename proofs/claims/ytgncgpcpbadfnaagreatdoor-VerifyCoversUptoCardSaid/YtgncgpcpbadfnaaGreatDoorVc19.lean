import Derived.Test.YtgncgpcpbadfnaaGreatDoorVc15
set_option linter.unusedSimpArgs false
set_option linter.unusedVariables false
set_option linter.defProp false
set_option maxRecDepth 100000
namespace Go.Proofs.YtgncgpcpbadfnaaGreatDoor
open Go.Aw Go.Aw.D Go.Proofs Ty
namespace Sq
open Go.Proofs.Tryz
open Mv (bZ cK aS)
def cP(l:Lab):List AV:=[int l.ready,int l.since,boo l.sheet.rest,int l.sheet.depart,.sl (l.sheet.times.map sE),int l.sheet.end_,int l.sheet.miles]
def jX(l:Lab):(cP l).length=7:=(rfl)
def ZD(l:Lab):(cP l).getD 0 .any=int l.ready:=(rfl)
def Zl(l:Lab):(cP l).getD 1 .any=int l.since:=(rfl)
def X4(l:Lab):(cP l).getD 4 .any=.sl (l.sheet.times.map sE):=(rfl)
def Zf(l:Lab):(cP l).getD 5 .any=int l.sheet.end_:=(rfl)
def Zg(l:Lab):((cP l).drop 2).take 5=bY l.sheet:=(rfl)
def Rv(l:Lab):(cP l).take 7=cP l:=(rfl)
def cQ(x:Instance)(t:VType)(r:Route)(st:List Stop):List AV:=aE x++(aZ t++(bI r++[.sl (st.map dQ)]))
section
variable(x:Instance)(t:VType)(r:Route)(st:List Stop)
def DU:(cQ x t r st).length=25:=(rfl)
def Uo:(cQ x t r st).getD 8 .any=int t.src:=(rfl)
def Uw:(cQ x t r st).getD 9 .any=int t.dst:=(rfl)
def Qp:(cQ x t r st).getD 12 .any=int t.profile:=(rfl)
def RG:(cQ x t r st).getD 13 .any=int t.start:=(rfl)
def QB:(cQ x t r st).getD 14 .any=int t.close:=(rfl)
def O7:(cQ x t r st).getD 15 .any=int t.drive:=(rfl)
def Sn:(cQ x t r st).getD 16 .any=int t.rest:=(rfl)
def Px:(cQ x t r st).getD 21 .any=int r.start:=(rfl)
def Q5:(cQ x t r st).getD 22 .any=.sl (r.rests.map eO):=(rfl)
def PE:(cQ x t r st).getD 24 .any=.sl (st.map dQ):=(rfl)
def NL:(cQ x t r st).take 2=aY x.net:=(rfl)
def Oq:(cQ x t r st).take 25=cQ x t r st:=(rfl)
end
attribute [go_sem] jX ZD Zl X4 Zf Zg Rv DU Uo Uw Qp RG QB O7 Sn Px Q5 PE NL Oq
def BY:Lab:=⟨0,0,cF⟩
abbrev fJ(cs:List AV):Row:=⟨226,7,[cs]⟩
def uF(t:VType)(st:List Stop)(k:Nat):Int:=match k with
 | 0=>t.src
 | j+1=>(st.getD j kI).place
def Nh(x:Instance)(t:VType)(r:Route)(st:List Stop):PC prog 132 [.agg (cQ x t r st)] (.agg (cP (K4 t r))):=by
 refine pcd func132 rfl rfl ?_;simp only[go_sem];refine eQ fun I A E (F:A I=some (fJ (cP BY))) N=>?_
 clear N E;simp only[go_sem,F];refine aN F (by simp) ?_;simp only[go_sem];exact .refl _
def Zo(x:Instance)(t:VType)(r:Route)(st:List Stop)(k:Nat)(I:k<=st.length)(J:st.length<=1048576):PC prog 215 [.agg (cQ x t r st),int k] (int (uF t st k)):=by
 refine pcd func215 rfl rfl ?_;simp only[go_sem];refine aA (fun A=>?_) (fun A=>?_)
 ·have:k=0:=by simp at A;exact A
  subst this;simp only[go_sem];exact .refl _
 ·obtain⟨j,rfl⟩:∃j,k=j+1:=⟨k-1,by simp at A;omega⟩;obtain⟨s,E⟩:=aM (show j<st.length by omega);have w:IntKind.i64.wrap (((j+1:Nat):Int)-1)=(j:Int):=by rw[bG (by omega)];omega
  have F:=inB (show j<st.length by omega);simp only[go_sem,w,aC E,F];exact bZ (by unfold uF;simp[List.getD,E])
def ST:∀l:List Tm,cH 4 (l.map sE)
 | []=>trivial
 | _::r=>⟨rfl,ST r⟩
def W0(l:List Tm)(M:l.length<=1048576):NC prog 213 [.sl (l.map sE)] (DW l) .os:=by
 refine ncb (fun t=>t == 2||t == 5) func213 rfl rfl ?_;simp only[go_sem];refine aJ fun j J=>?_
 have R:=aB bS j (some (DW []));generalize aI bS j _=H at R |-;simp only[go_sem];refine⟨fun I=>?_,?_⟩
 ·refine aA (fun _=>?_) (fun A=>by simp at A);simp only[go_sem];refine aJ fun i E=>?_
  simp only[go_sem];refine⟨i,rfl,?_⟩;rw[aB,List.map_eq_nil_iff.1 I];rfl
 ·refine aA (fun A=>by simp at A) (fun _=>?_);simp only[go_sem];refine aJ fun i E=>?_
  simp only[go_sem];refine aX (aB _ _ _) ⟨rfl,rfl⟩ (ST _) (by simp only[Xaa,List.length_nil];omega) (fun j' F=>?_);simp only[go_sem];refine⟨j',rfl,?_⟩;exact aB _ _ _
def lX(x:Instance)(t:VType)(st:List Stop)(k:Nat)(l:Lab)(b:Bool):Except Int Lab:=match st[k]? with
 | some s=>It x t (uF t st k) s k l b
 | none=>LK x t (uF t st k) k l b
def Yh(e:Except Int Lab):Lab:=match e with| .ok l=>l| .error _=>BY
def sH:Instance:=⟨⟨[],[]⟩,[],[],[],[]⟩
def Be:VType:=⟨ByteArray.empty,0,0,0,[],0,0,0,0,0,0,0,0,0⟩
def Bo:Route:=⟨0,0,[],[]⟩
abbrev wO(cs:List AV):Row:=⟨222,25,[cs]⟩
def kB(x:Instance)(l:List Visit):List Stop:=l.map fun v=>(jL x v).1
def AN(x:Instance)(r:Route):List AV×Bool:=if fW x r=true then match x.types[r.type.toNat]? with
 | some t=>(cQ x t r (kB x r.visits),true)
 | none=>(cQ sH Be Bo [],false)
 else(cQ sH Be Bo [],false)
def Ev(x:Instance)(t:VType)(r:Route)(j:Nat):List AV:=aE x++(aZ t++(bI r++[.os j]))
def tk1{x:Instance}{l:List AV}:(aE x++l).take 6=aE x:=(rfl)
def dr1{x:Instance}{l:List AV}:(aE x++l).drop 20=l.drop 14:=(rfl)
def tk2{x:Instance}{t:VType}{l:List AV}:(aE x++aZ t++l).take 20=aE x++aZ t:=(rfl)
def dr2{x:Instance}{t:VType}{l:List AV}:(aE x++aZ t++l).drop 24=l.drop 4:=(rfl)
abbrev Cl(l:List Stop):Row:=⟨79,4,l.map dQ⟩
def YN(x:Instance)(t:VType)(r:Route)(j:Nat):(Ev x t r j).getD 24 .any=.os j:=(rfl)
def Wg(x:Instance)(t:VType)(r:Route)(j:Nat):(Ev x t r j).take 25=Ev x t r j:=(rfl)
def Uk(x:Instance)(t:VType)(r:Route)(j:Nat):(Ev x t r j).length=25:=(rfl)
attribute [go_sem] YN Wg Uk
def As{H:aH}{l l':List AV}(h:ConvL H l l'):∀p:List AV,ConvL H (p++l) (p++l')
 | []=>h
 | a::p=>.cons a a _ _ (.refl a) (As h p)
def UF{H:aH}{x:Instance}{t:VType}{r:Route}{A:Nat}{st:List Stop}(R:H A=some (Cl st)):ConvL H (Ev x t r A) (cQ x t r st):=
 As (As (As (.cons _ _ _ _ (.row _ _ _ R (ConvE.refl _)) .nil) _) _) _
def Wp{x:Instance}{v:Visit}(h:(jL x v).2=true):0<=(jL x v).1.place/\gH x v=((jL x v).1,0):=by
 refine⟨?_,by unfold gH;rw[if_pos h]⟩;unfold jL at h |-;split at h
 ·cases h
 ·rename_i A;rw[if_neg A];split at h
  ·rename_i o E;simpa using h
  ·cases h
def QY{x:Instance}{v:Visit}(h:(jL x v).2=false):((gH x v).2 != 0)=true:=by unfold gH;rw[if_neg (by rw[h];simp)];show((if cD v.order x.orders.length=true then(2:Int)else 19) != 0)=true;split <;> rfl
def agN(x:Instance)(r:Route)(hl:r.visits.length<=1048576):PC prog 131 [.agg (aE x),.agg (bI r)] (.tup [.agg (AN x r).1,boo (AN x r).2]):=by
 refine pcb (fun t=>t == 47) func131 rfl rfl ?_;simp only[go_sem];refine eQ fun i4 au ax (A:au i4=some (wO (cQ sH Be Bo []))) N=>?_
 clear N ax;simp only[go_sem,A];refine aA (fun h1=>?_) (fun h1=>?_)
 ·have hp:fW x r=false:=by unfold fW;rw[show(cD r.type x.types.length||decide (r.start<0)||decide (r.start>4096)||decide ((r.visits.length:Int)>20))=true from h1];rfl
  have e:AN x r=(cQ sH Be Bo [],false):=by unfold AN;rw[if_neg (by rw[hp];simp)]
  rw[e];simp only[go_sem];refine aN A (by simp) ?_;simp only[go_sem];exact .refl _
 have hp:fW x r=r.visits.all fun v=>(jL x v).2:=by unfold fW;rw[show(cD r.type x.types.length||decide (r.start<0)||decide (r.start>4096)||decide ((r.visits.length:Int)>20))=false from h1];rfl
 have az:0<=r.type/\r.type<(x.types.length:Int):=by simp only[Xah,decide_eq_false_iff_not]at h1;omega
 have a6:r.visits.length<=20:=by simp only[Xah,decide_eq_false_iff_not]at h1;omega
 obtain⟨t,ht⟩:=aM (show r.type.toNat<x.types.length by omega);simp only[go_sem];refine CN [(0,true),(1,true),(2,true),(3,true),(4,true),(5,true),(6,true),(7,true),(8,true),(9,false),(10,false)] (by kernel_rfl) ?_;simp only[go_sem,aC ht,az,Xaf,tk1,dr1,tk2,dr2];refine eQ fun i6 ag aw (E:ag i6=some (wO (cQ sH Be Bo []))) N=>?_
 replace A:=N A;obtain⟨U,A⟩:=A;clear N aw;simp only[go_sem,E,A];refine U6 24 79 4 ⟨rfl,by decide⟩ E ⟨by simp,rfl,Xag _⟩ fun X ak=>?_
 have M:i6≠X:=aR E ak;have T:i4≠X:=aR A ak;generalize hG:aI (aI ag X _) i6 _=HG;replace A:=kpR hG U T A;have Rs:HG X=some (Cl []):=by rw[<-hG,aD _ _ _ _ M.symm,aB];rfl
 replace E:HG i6=some (wO (Ev x t r X)):=by rw[<-hG,aB];rfl
 clear hG ak;simp only[go_sem];refine⟨fun ρ H=>∃k:Nat,k<=r.visits.length/\ρ 2=.rp (aE x) 0/\ρ 4=.op i4 0 0/\ρ 6=.op i6 0 0/\ρ 49=.sl (r.visits.map aL)/\ρ 50=int r.visits.length/\ρ 51=int k/\H i4=some (wO (cQ sH Be Bo []))/\(∃X,H i6=some (wO (Ev x t r X))/\H X=some (Cl (kB x (r.visits.take k))))/\∀v∈r.visits.take k,(jL x v).2=true,fun ρ _=>r.visits.length-aT (ρ 51),⟨0,Xab _,by simp only[go_sem],by simp only[go_sem],by simp only[go_sem],by simp only[go_sem],by simp only[go_sem,Xaa],by simp only[go_sem];rfl,A,⟨X,E,Rs⟩,by simp⟩,?_⟩;clear A E Rs M T X;rintro ρ H ⟨k,hk,h2,Y,h6,J,F,I,A,⟨X,E,Rs⟩,hz⟩;have aa:X≠i6:=X1 Rs E (by rfl);have O:X≠i4:=X1 Rs A (by rfl);simp only[go_sem,h2,Y,h6,J,F,I];refine aA (fun ab=>?_) (fun aj=>?_)
 ·have ab:=bA ab;obtain⟨v,hv⟩:=aM ab;have b1:=inB ab;simp only[go_sem,h2,Y,h6,J,F,I,aC hv,b1];refine aJ fun i8 ah=>?_
  simp only[go_sem,h2,Y,h6,J,F,I,A,E,Rs];refine bP ah (by simp[cX]) fun av (R8:av i8=some (⟨126,2,[aL v]⟩)) N=>?_
  replace A:=N A;obtain⟨ar,A⟩:=A;replace E:=N E;obtain⟨aq,E⟩:=E;replace Rs:=N Rs;obtain⟨an,Rs⟩:=Rs;clear N ah;simp only[go_sem,h2,Y,h6,J,F,I,R8,A,E,Rs];refine aP (Tu x v) ?_;simp only[go_sem,h2,Y,h6,J,F,I];refine aJ fun i9 af=>?_
  simp only[go_sem,h2,Y,h6,J,F,I,A,E,Rs];refine bP af (by simp[lM]) fun ai (R9:ai i9=some (Ai (gH x v).1)) N=>?_
  replace A:=N A;obtain⟨ao,A⟩:=A;replace E:=N E;obtain⟨al,E⟩:=E;replace Rs:=N Rs;obtain⟨am,Rs⟩:=Rs;clear N af;simp only[go_sem,h2,Y,h6,J,F,I,R9,A,E,Rs];cases ac:(jL x v).2 with
  | false=>
   have a4:=QY ac;refine aA (fun _=>?_) (fun hb=>by rw[a4]at hb;simp at hb);simp only[go_sem,Y];refine aN A (by simp) ?_;simp only[go_sem,Y];have e:AN x r=(cQ sH Be Bo [],false):=by unfold AN;rw[if_neg (by rw[hp,qO hv ac];simp)]
   rw[e];exact .refl _
  | true=>
   obtain⟨a5,ay⟩:=Wp ac;rw[ay]at R9 |-;refine aA (fun hb=>by simp at hb;omega) (fun _=>?_);simp only[go_sem,h2,Y,h6,J,F,I,E,R9];refine aX Rs ⟨rfl,rfl⟩ ⟨rfl,trivial⟩ (by simp[kB];omega) (fun j' ae=>?_);have Z:i6≠j':=aR E ae;have ap:i4≠j':=aR A ae;replace A:=cT (r':=⟨79,4,List.map dQ (kB x (r.visits.take k))++[dQ (jL x v).1]⟩) A O ae;replace E:=cT (r':=⟨79,4,List.map dQ (kB x (r.visits.take k))++[dQ (jL x v).1]⟩) E aa ae;have a0:aI (aI ai X none) j' (some (⟨79,4,List.map dQ (kB x (r.visits.take k))++[dQ (jL x v).1]⟩:Row)) j'=some (Cl (kB x (r.visits.take (k+1)))):=by rw[bE hv];unfold kB;rw[Xan];exact mD (l':=[(jL x v).1]) rfl
   simp only[go_sem,h2,Y,h6,J,F,I];refine bU afN E ⟨by simp,rfl,by simp⟩ ?_;simp only[go_sem,h2,Y,h6,J,F,I,aV k];exact⟨⟨k+1,ab,rfl,(aD _ _ _ _ U).trans A,⟨j',rfl,(aD _ _ _ _ Z.symm).trans a0⟩,aS (p:=fun v=>(jL x v).2=true) hv ac hz⟩,by simp only[aF];omega⟩
 ·have aj:=bB hk aj;subst aj;rw[Xae]at hz Rs;simp only[go_sem,Y,h6,E];refine aN A ⟨by simp,rfl,Xag _⟩ ?_;simp only[go_sem,Y];have e:AN x r=(cQ x t r (kB x r.visits),true):=by unfold AN;rw[if_pos (by rw[hp];exact Xaj.2 hz),ht]
  rw[e];exact .tup [.agg (Ev x t r X),boo true] _ (.cons _ _ _ _ (.agg _ _ (UF ((aD _ _ _ _ O).trans Rs))) (ConvL.refl _))
def iI(rdy sin:Int)(sd:Sheet)(j:Nat):List AV:=[int rdy,int sin,boo sd.rest,int sd.depart,.os j,int sd.end_,int sd.miles]
def Rf(a b s j):(iI a b s j).length=7:=(rfl)
def Zn(a b s j):(iI a b s j).getD 0 .any=int a:=(rfl)
def YZ(a b s j):(iI a b s j).getD 1 .any=int b:=(rfl)
def Yp(a b s j):(iI a b s j).getD 4 .any=.os j:=(rfl)
def ZM(a b s j):(iI a b s j).getD 6 .any=int s.miles:=(rfl)
def OZ(a b s j):(iI a b s j).take 7=iI a b s j:=(rfl)
attribute [go_sem] Rf Zn YZ Yp ZM OZ
def ME{H:aH}{j:Nat}{l:Lab}(R:H j=some (DW l.sheet.times)):ConvL H (iI l.ready l.since l.sheet j) (cP l):=
 .cons _ _ _ _ (.refl _) (.cons _ _ _ _ (.refl _) (.cons _ _ _ _ (.refl _) (.cons _ _ _ _ (.refl _) (.cons _ _ _ _ (.row _ _ _ R (ConvE.refl _)) (ConvL.refl _)))))
def aeG{l:List Tm}{j:Nat}{A:Tm}(h:l[j]?=some A)(b:Bool):(l.map sE).set j (lV ((l.map sE).getD j []) 3 [boo b])=(l.set j ⟨A.arrive,A.begin_,A.depart,b⟩).map sE:=by rw[aC h,List.map_set];rfl
def ahK{l:List Tm}{j:Nat}{A:Tm}(h:l[j]?=some A)(d:Int):(l.map sE).set j (lV ((l.map sE).getD j []) 2 [int d])=(l.set j ⟨A.arrive,A.begin_,d,A.rest⟩).map sE:=by rw[aC h,List.map_set];rfl
def aaB(x:Instance)(t:VType)(r:Route)(st:List Stop)(l:Lab)(k:Nat)(b:Bool)(hn:NetOk x.net)(aq:st.length<=1048576)(hk:k<=st.length)(hl:l.sheet.times.length=k):
  PC prog 178 [.agg (cQ x t r st),.agg (cP l),int k,boo b] (.tup [.agg (cP (Yh (lX x t st k l b))),int (OA (lX x t st k l b))]):=by
 refine pcd func178 rfl rfl ?_;simp only[go_sem];refine eQ fun i8 al ap (O:al i8=some (fJ (cP BY))) N=>?_
 clear N ap;simp only[go_sem,O];refine dF (by rfl) (by kernel_rfl) ?_;simp only[go_sem];refine bN (fun ab H'=>ab 2=int k/\ab 3=boo b/\ab 4=.rp (cQ x t r st) 0/\ab 5=.rp (cP l) 0/\ab 8=.op i8 0 0/\ab 10=int (BZ t l b)/\ab 11=int (DF l b)/\H' i8=some (fJ (cP BY))) ?_ fun K hK=>aA (fun hb=>?_) (fun hb=>?_)
 rotate_left
 ·simp only[go_sem];exact hK _ _ ⟨by simp only[go_sem],by simp only[go_sem],by simp only[go_sem],by simp only[go_sem],by simp only[go_sem],by simp only[go_sem];unfold BZ;rw[if_pos hb];rfl,by simp only[go_sem];unfold DF;rw[if_pos hb],O⟩
 ·simp only[go_sem];exact hK _ _ ⟨by simp only[go_sem],by simp only[go_sem],by simp only[go_sem],by simp only[go_sem],by simp only[go_sem],by simp only[go_sem];unfold BZ;rw[if_neg (by rw[hb];simp)],by simp only[go_sem];unfold DF;rw[if_neg (by rw[hb];simp)],O⟩
 clear O;rintro ρ H ⟨h2,h3,Z,h5,X,J,I,O⟩;simp only[go_sem,h2,h3,Z,h5,X,J,I];refine aJ fun T ag=>?_
 simp only[go_sem,h2,h3,Z,h5,X,J,I,O];refine bP ag (by simp[eK]) fun ah (E:ah T=some (fJ ([int 0,int 0]++bY l.sheet))) N=>?_
 replace O:=N O;obtain⟨F,O⟩:=O;clear N ag;simp only[go_sem,h2,h3,Z,h5,X,J,I,E,O];refine NC.use (W0 l.sheet.times (by omega)) fun jt ak=>?_
 have aa:i8≠jt:=aR O ak;have A:T≠jt:=aR E ak;generalize hG:aI ah jt _=HG;replace O:=(congrFun hG.symm i8).trans ((aD _ _ _ _ aa).trans O);replace E:=(congrFun hG.symm T).trans ((aD _ _ _ _ A).trans E);have Y:HG jt=some (DW l.sheet.times):=by rw[<-hG,aB]
 clear hG ak;simp only[go_sem,h2,h3,Z,h5,X,J,I,E];refine bU YV E ⟨by simp,rfl,by simp⟩ ?_;generalize M:aI _ T _=HP;replace O:=kpA M (by first|exact F|exact ne_i12_i8.symm) O;replace Y:=kpA M (by first|exact ne_jt_i12|exact A.symm) Y;replace E:HP T=some (fJ (iI 0 0 l.sheet jt)):=upS M;clear M;simp only[go_sem,h2,h3,Z,h5,X,J,I,E,O,Y];refine bN (fun ab H'=>ab 2=int k/\ab 4=.rp (cQ x t r st) 0/\ab 8=.op i8 0 0/\ab 10=int (BZ t l b)/\ab 11=int (DF l b)/\ab 12=.op T 0 0/\H' i8=some (fJ (cP BY))/\H' T=some (fJ (iI 0 0 (dY l.sheet k b (BZ t l b)) jt))/\H' jt=some (DW (dY l.sheet k b (BZ t l b)).times)) ?_ fun K hK=>aA (fun hb=>?_) (fun hb=>?_)
 rotate_left
 ·have h0:k=0:=by simp at hb;exact hb
  subst h0;simp only[go_sem,h2,h3,Z,h5,X,J,I,E];refine bU so4 E ⟨by simp,rfl,by simp⟩ ?_;generalize M:aI _ T _=HP;replace O:=kpA M (by first|exact F|exact ne_i12_i8.symm) O;replace Y:=kpA M (by first|exact ne_jt_i12|exact A.symm) Y;replace E:HP T=some (fJ (iI 0 0 { l.sheet with rest:=b } jt)):=upS M;clear M;simp only[go_sem,h2,h3,Z,h5,X,J,I,E,O,Y];refine bU so3 E ⟨by simp,rfl,by simp⟩ ?_;generalize M:aI _ T _=HP;replace O:=kpA M (by first|exact F|exact ne_i12_i8.symm) O;replace Y:=kpA M (by first|exact ne_jt_i12|exact A.symm) Y;replace E:HP T=some (fJ (iI 0 0 { l.sheet with rest:=b,depart:=BZ t l b } jt)):=upS M;clear M;simp only[go_sem,h2,h3,Z,h5,X,J,I,E,O,Y];exact hK _ _ ⟨by simp only[go_sem,h2],by simp only[go_sem,Z],by simp only[go_sem,X],by simp only[go_sem,J],by simp only[go_sem,I],by simp only[go_sem],O,E,Y⟩
 ·obtain⟨j,rfl⟩:∃j,k=j+1:=⟨k-1,by simp at hb;omega⟩;have w:IntKind.i64.wrap (((j+1:Nat):Int)-1)=(j:Int):=by rw[bG (by omega)];omega
  obtain⟨tm,am⟩:=aM (show j<l.sheet.times.length by omega);have b1:=inB (show j<l.sheet.times.length by omega);have eg:l.sheet.times.getD j PZ=tm:=by simp[List.getD,am]
  simp only[go_sem,h2,h3,Z,h5,X,J,I,E,Y,w];refine⟨⟨b1.1,b1.2⟩,bU so4 Y ⟨by simpa using b1.2,rfl,by simp⟩ ?_⟩;generalize M:aI _ jt _=HP;replace O:=kpA M (by first|exact aa|exact ne_jt_i8.symm) O;replace E:=kpA M (by first|exact A|exact ne_jt_i12.symm) E;replace Y:HP jt=some (DW (l.sheet.times.set j ⟨tm.arrive,tm.begin_,tm.depart,b⟩)):=by rw[<-M,aB];exact congrArg (fun es=>some (⟨303,4,es⟩:Row)) (aeG am b)
  clear M;simp only[go_sem,h2,h3,Z,h5,X,J,I,w,Y,O,E];have an:(l.sheet.times.set j ⟨tm.arrive,tm.begin_,tm.depart,b⟩)[j]?=some ⟨tm.arrive,tm.begin_,tm.depart,b⟩:=by rw[List.getElem?_set_self (by omega)]
  refine⟨⟨b1.1,by rw[Xbe];exact b1.2⟩,bU so3 Y ⟨by simpa using b1.2,rfl,by simp⟩ ?_⟩;generalize M:aI _ jt _=HP;replace O:=kpA M (by first|exact aa|exact ne_jt_i8.symm) O;replace E:=kpA M (by first|exact A|exact ne_jt_i12.symm) E;replace Y:HP jt=some (DW ((l.sheet.times.set j ⟨tm.arrive,tm.begin_,tm.depart,b⟩).set j ⟨tm.arrive,tm.begin_,BZ t l b,b⟩)):=by rw[<-M,aB];exact congrArg (fun es=>some (⟨303,4,es⟩:Row)) (ahK an _)
  clear M;simp only[go_sem,h2,h3,Z,h5,X,J,I,w,Y,O,E];refine hK _ _ ⟨by simp only[go_sem,h2],by simp only[go_sem,Z],by simp only[go_sem,X],by simp only[go_sem,J],by simp only[go_sem,I],by simp only[go_sem],O,E,?_⟩;rw[Y,List.set_set];simp only[dY,eg]
 clear O E Y h2 h3 Z h5 X J I;rintro ρ H ⟨h2,Z,X,J,I,U,O,E,Y⟩;generalize hD:BZ t l b=D at *;have M:=Zo x t r st k hk aq;rcases Xbb k st.length with ao|ar
 ·obtain⟨s,hs⟩:=aM ao;have b1:=inB ao;have ae:((k:Int) == (st.length:Int))=false:=by simp;omega
  have eS:lX x t st k l b=It x t (uF t st k) s k l b:=by unfold lX;rw[hs]
  rw[eS];unfold It UM PK goL;simp only[hD];generalize hg:jO x.net t.profile (uF t st k) s.place D=g;simp only[go_sem,h2,Z,X,J,I,U,ae];refine aA (fun _=>?_) (fun hb=>by simp at hb);simp only[go_sem,h2,Z,X,J,I,U,aC hs,b1];refine dF (by rfl) (by kernel_rfl) ?_;simp only[go_sem,h2,Z,X,J,I,U];refine⟨_,M.q rfl,?_⟩;simp only[go_sem,h2,Z,X,J,I,U];refine⟨_,(YB x.net t.profile (uF t st k) s.place D hn).q rfl,?_⟩;rw[hg];simp only[go_sem,h2,Z,X,J,I,U];refine aA (fun he=>?_) (fun he=>?_)
  ·simp only[go_sem,X];refine aN O (by simp) ?_;simp only[go_sem,X];rw[if_pos he];exact .refl _
  rw[if_neg (by rw[he];simp)];simp only[go_sem,h2,Z,X,J,I,U,E];refine bU so3 E ⟨by simp,rfl,by simp⟩ ?_;generalize M:aI _ T _=HP;replace O:=kpA M (by first|exact F|exact ne_i12_i8.symm) O;replace Y:=kpA M (by first|exact ne_jt_i12|exact A.symm) Y;replace E:HP T=some (fJ (iI 0 0 { dY l.sheet k b D with miles:=W ((dY l.sheet k b D).miles+g.2.1) } jt)):=upS M;clear M;simp only[go_sem,h2,Z,X,J,I,U,E,O,Y];refine bU so3 E ⟨by simp,rfl,by simp⟩ ?_;generalize M:aI _ T _=HP;replace O:=kpA M (by first|exact F|exact ne_i12_i8.symm) O;replace Y:=kpA M (by first|exact ne_jt_i12|exact A.symm) Y;replace E:HP T=some (fJ (iI 0 (W (W (DF l b+g.1)-D)) { dY l.sheet k b D with miles:=W ((dY l.sheet k b D).miles+g.2.1) } jt)):=upS M;clear M;simp only[go_sem,h2,Z,X,J,I,U,ae,E,O,Y];refine aA (fun hb=>by simp at hb) (fun _=>?_);simp only[go_sem,h2,Z,X,J,I,U,aC hs,b1];refine aP (TM s g.1) ?_;simp only[go_sem,h2,Z,X,J,I,U];by_cases hw:lC g.1 s.start>s.close
  ·rw[if_pos hw,if_pos hw,if_pos hw];refine aA (fun _=>?_) (fun hb=>by simp at hb);simp only[go_sem,X];refine aN O (by simp) ?_;simp only[go_sem,X];exact .refl _
  rw[if_neg hw,if_neg hw,if_neg hw];refine aA (fun hb=>by simp at hb) (fun _=>?_);simp only[go_sem,h2,Z,X,J,I,U,aC hs,b1];refine bU so3 E ⟨by simp,rfl,by simp⟩ ?_;generalize M:aI _ T _=HP;replace O:=kpA M (by first|exact F|exact ne_i12_i8.symm) O;replace Y:=kpA M (by first|exact ne_jt_i12|exact A.symm) Y;replace E:HP T=some (fJ (iI (W (lC g.1 s.start+s.service)) (W (W (DF l b+g.1)-D)) { dY l.sheet k b D with miles:=W ((dY l.sheet k b D).miles+g.2.1) } jt)):=upS M;clear M;simp only[go_sem,h2,Z,X,J,I,U,ae,E,O,Y];refine aX Y ⟨rfl,rfl⟩ ⟨rfl,trivial⟩ (by simp[(qM l.sheet k b D).2.2];omega) (fun j' ai=>?_);have af:i8≠j':=aR O ai;have ac:T≠j':=aR E ai;generalize M:aI (aI _ jt none) j' _=HP;replace O:=kpB M af (by first|exact aa|exact ne_jt_i8.symm) O;replace E:=kpB M ac (by first|exact A|exact ne_jt_i12.symm) E;have aj:HP j'=some (DW ((dY l.sheet k b D).times++[⟨g.1,lC g.1 s.start,0,false⟩])):=by rw[<-M,aB];(show some (⟨303,4,_⟩:Row)=some ⟨303,4,_⟩;rw[Xan];rfl)
  clear M ai;simp only[go_sem,h2,Z,X,J,I,U,ae,aj,O,E];refine bU YV E ⟨by simp,rfl,by simp⟩ ?_;generalize M:aI _ T _=HP;replace O:=kpA M (by first|exact F|exact ne_i12_i8.symm) O;replace aj:=kpA M (by first|exact ne_j'_i12|exact ac.symm) aj;replace E:HP T=some (fJ (iI (W (lC g.1 s.start+s.service)) (W (W (DF l b+g.1)-D)) { dY l.sheet k b D with miles:=W ((dY l.sheet k b D).miles+g.2.1),times:=(dY l.sheet k b D).times++[⟨g.1,lC g.1 s.start,0,false⟩] } j')):=upS M;clear M;simp only[go_sem,h2,Z,X,J,I,U,ae,E,O,aj];refine aA (fun hd=>?_) (fun hd=>?_)
  ·rw[if_pos (by simpa using hd)];simp only[go_sem,X];refine aN O (by simp) ?_;simp only[go_sem,X];exact .refl _
  ·rw[if_neg (by simpa using hd)];simp only[go_sem,X,U,E];refine aN O ⟨by simp,rfl,Xag _⟩ ?_;simp only[go_sem,X];have hm:=(qM l.sheet k b D).1;have:=fun H=>ME (H:=H) (j:=j') (l:=⟨W (lC g.1 s.start+s.service),W (W (DF l b+g.1)-D),{ dY l.sheet k b D with miles:=W ((dY l.sheet k b D).miles+g.2.1),times:=(dY l.sheet k b D).times++[⟨g.1,lC g.1 s.start,0,false⟩] }⟩)
   simp only[hm]at this |-;exact .tup [.agg (iI _ _ _ j'),int 0] _ (.cons _ _ _ _ (.agg _ _ (this _ ((aD _ _ _ _ af.symm).trans aj))) (ConvL.refl _))
 ·have au:k=st.length:=by omega
  have ae:((k:Int) == (st.length:Int))=true:=by simp;omega
  have eS:lX x t st k l b=LK x t (uF t st k) k l b:=by unfold lX;rw[List.getElem?_eq_none ar]
  rw[eS];unfold LK UM YO goL;simp only[hD];generalize hg:jO x.net t.profile (uF t st k) t.dst D=g;simp only[go_sem,h2,Z,X,J,I,U,ae];refine aA (fun hb=>by simp at hb) (fun _=>?_);simp only[go_sem,h2,Z,X,J,I,U];refine dF (by rfl) (by kernel_rfl) ?_;simp only[go_sem,h2,Z,X,J,I,U];refine⟨_,M.q rfl,?_⟩;simp only[go_sem,h2,Z,X,J,I,U];refine⟨_,(YB x.net t.profile (uF t st k) t.dst D hn).q rfl,?_⟩;rw[hg];simp only[go_sem,h2,Z,X,J,I,U];refine aA (fun he=>?_) (fun he=>?_)
  ·simp only[go_sem,X];refine aN O (by simp) ?_;simp only[go_sem,X];rw[if_pos he];exact .refl _
  rw[if_neg (by rw[he];simp)];simp only[go_sem,h2,Z,X,J,I,U,E];refine bU so3 E ⟨by simp,rfl,by simp⟩ ?_;generalize M:aI _ T _=HP;replace O:=kpA M (by first|exact F|exact ne_i12_i8.symm) O;replace Y:=kpA M (by first|exact ne_jt_i12|exact A.symm) Y;replace E:HP T=some (fJ (iI 0 0 { dY l.sheet k b D with miles:=W ((dY l.sheet k b D).miles+g.2.1) } jt)):=upS M;clear M;simp only[go_sem,h2,Z,X,J,I,U,E,O,Y];refine bU so3 E ⟨by simp,rfl,by simp⟩ ?_;generalize M:aI _ T _=HP;replace O:=kpA M (by first|exact F|exact ne_i12_i8.symm) O;replace Y:=kpA M (by first|exact ne_jt_i12|exact A.symm) Y;replace E:HP T=some (fJ (iI 0 (W (W (DF l b+g.1)-D)) { dY l.sheet k b D with miles:=W ((dY l.sheet k b D).miles+g.2.1) } jt)):=upS M;clear M;simp only[go_sem,h2,Z,X,J,I,U,ae,E,O,Y];refine aA (fun _=>?_) (fun hb=>by simp at hb);simp only[go_sem,h2,Z,X,J,I,U];refine aA (fun hw=>?_) (fun hw=>?_)
  ·rw[if_pos (by simpa using hw)];simp only[go_sem,X];refine aN O (by simp) ?_;simp only[go_sem,X];exact .refl _
  rw[if_neg (by simpa using hw)];simp only[go_sem,h2,Z,X,J,I,U,E];refine bU so3 E ⟨by simp,rfl,by simp⟩ ?_;generalize M:aI _ T _=HP;replace O:=kpA M (by first|exact F|exact ne_i12_i8.symm) O;replace Y:=kpA M (by first|exact ne_jt_i12|exact A.symm) Y;replace E:HP T=some (fJ (iI 0 (W (W (DF l b+g.1)-D)) { dY l.sheet k b D with miles:=W ((dY l.sheet k b D).miles+g.2.1),end_:=g.1 } jt)):=upS M;clear M;simp only[go_sem,h2,Z,X,J,I,U,ae,E,O,Y];refine bU so3 E ⟨by simp,rfl,by simp⟩ ?_;generalize M:aI _ T _=HP;replace O:=kpA M (by first|exact F|exact ne_i12_i8.symm) O;replace Y:=kpA M (by first|exact ne_jt_i12|exact A.symm) Y;replace E:HP T=some (fJ (iI g.1 (W (W (DF l b+g.1)-D)) { dY l.sheet k b D with miles:=W ((dY l.sheet k b D).miles+g.2.1),end_:=g.1 } jt)):=upS M;clear M;simp only[go_sem,h2,Z,X,J,I,U,ae,E,O,Y];refine aA (fun hd=>?_) (fun hd=>?_)
  ·rw[if_pos (by simpa using hd)];simp only[go_sem,X];refine aN O (by simp) ?_;simp only[go_sem,X];exact .refl _
  ·rw[if_neg (by simpa using hd)];simp only[go_sem,X,U,E];refine aN O ⟨by simp,rfl,Xag _⟩ ?_;simp only[go_sem,X];have hm:=(qM l.sheet k b D).1;have:=fun H=>ME (H:=H) (j:=jt) (l:=⟨g.1,W (W (DF l b+g.1)-D),{ dY l.sheet k b D with miles:=W ((dY l.sheet k b D).miles+g.2.1),end_:=g.1 }⟩)
   simp only[hm]at this |-;exact .tup [.agg (iI _ _ _ jt),int 0] _ (.cons _ _ _ _ (.agg _ _ (this _ ((aD _ _ _ _ aa.symm).trans Y))) (ConvL.refl _))
end Sq
namespace Sq
open Go.Proofs.Tryz
open Mv (bZ cK aS)
def K7(x:Instance)(t:VType)(st:List Stop):List Bool->Nat->Lab->Except Int Lab
 | [],_,l=>.ok l
 | b::bs,k,l=>match lX x t st k l b with
   | .error e=>.error e
   | .ok l'=>K7 x t st bs (k+1) l'
def TQ(e:Except Int Lab):Sheet:=match e with| .ok l=>l.sheet| .error _=>cF
def IG{x:Instance}{t:VType}{st:List Stop}{k:Nat}{l:Lab}{b:Bool}{e:Int}(h:lX x t st k l b=.error e):e≠0:=by
 unfold lX at h;split at h
 ·exact US h
 ·exact Wi h
def Ec{x:Instance}{t:VType}{st:List Stop}{k:Nat}{l l':Lab}{b:Bool}(E:k<st.length)(A:l.sheet.times.length=k)(h:lX x t st k l b=.ok l'):l'.sheet.times.length=k+1:=by
 unfold lX at h;rw[List.getElem?_eq_getElem E]at h;simp only at h;unfold It at h;split at h
 ·cases h
 ·split at h
  ·cases h
  ·split at h
   ·cases h
   ·injection h with h;subst h;simp[PK,(qM _ _ _ _).2.2,A]
def aiG(x:Instance)(t:VType)(r:Route)(st:List Stop)(bs:List Bool)(hn:NetOk x.net)(ah:st.length<=1048575)(hb:bs.length<=st.length+1):
  PC prog 134 [.agg (cQ x t r st),.sl (bs.map eO)] (.tup [.agg (bY (TQ (K7 x t st bs 0 (K4 t r)))),int (OA (K7 x t st bs 0 (K4 t r)))]):=by
 refine pcd func134 rfl rfl ?_;simp only[go_sem];refine eQ fun i4 af ae (A:af i4=some (fQ (bY cF))) N=>?_
 clear N ae;simp only[go_sem,A];refine aP (Nh x t r st) ?_;simp only[go_sem];refine aJ fun i6 Y=>?_
 simp only[go_sem,A];refine bP Y (by simp[jX]) fun HGi6 (I:HGi6 i6=some (fJ (cP (K4 t r)))) N=>?_
 replace A:=N A;obtain⟨M,A⟩:=A;clear N Y;simp only[go_sem,I,A];refine⟨fun ρ H=>∃(k:Nat) (l:Lab),k<=bs.length/\ρ 2=.rp (cQ x t r st) 0/\ρ 4=.op i4 0 0/\ρ 6=.op i6 0 0/\ρ 13=.sl (bs.map eO)/\ρ 14=int bs.length/\ρ 15=int k/\H i4=some (fQ (bY cF))/\H i6=some (fJ (cP l))/\(k<=st.length->l.sheet.times.length=k)/\K7 x t st bs 0 (K4 t r)=K7 x t st (bs.drop k) k l,fun ρ _=>bs.length-aT (ρ 15),
  ⟨0,K4 t r,Xab _,by simp only[go_sem],by simp only[go_sem],by simp only[go_sem],by simp only[go_sem],by simp only[go_sem,Xaa],by simp only[go_sem];rfl,A,I,fun _=>rfl,rfl⟩,?_⟩
 clear A I;rintro ρ H ⟨k,l,hk,h2,O,X,J,F,E,A,I,hl,he⟩;simp only[go_sem,h2,O,X,J,F,E];refine aA (fun T=>?_) (fun Z=>?_)
 ·have T:=bA T;obtain⟨b,ac⟩:=aM T;have b1:=inB T;rw[Cu ac,K7]at he;simp only[go_sem,h2,O,X,J,F,E,aC ac,b1,eO,I];refine aP (aaB x t r st l k b hn (by omega) (by omega) (hl (by omega))) ?_;simp only[go_sem,h2,O,X,J,F,E];refine aJ fun i9 U=>?_
  simp only[go_sem,h2,O,X,J,F,E,A,I];refine bP U (by simp[jX]) fun HGi9 (R9:HGi9 i9=some (fJ (cP (Yh (lX x t st k l b))))) N=>?_
  replace A:=N A;obtain⟨ab,A⟩:=A;replace I:=N I;obtain⟨aa,I⟩:=I;clear N U;simp only[go_sem,h2,O,X,J,F,E,R9,A,I];cases hs:lX x t st k l b with
  | error e=>rw[hs]at he;have ag:=IG hs;refine aA (fun _=>?_) (fun hb=>by simp[OA]at hb;exact absurd hb ag);simp only[go_sem,O];refine aN A (by simp) ?_;simp only[go_sem,O];rw[he];exact .refl _
  | ok l'=>rw[hs]at he R9;refine aA (fun hb=>by simp[OA]at hb) (fun _=>?_);simp only[go_sem,h2,O,X,J,F,E,R9];refine aN I (by simp[jX]) ?_;generalize hP:aI _ i6 _=HP;replace A:=kpA hP (by first|exact M|exact ne_i6_i4.symm) A;replace I:HP i6=some (fJ (cP l')):=upS hP;clear hP;simp only[go_sem,h2,O,X,J,F,E,aV k,I,A];exact⟨⟨k+1,l',T,rfl,rfl,fun ai=>Ec (by omega) (hl (by omega)) hs,he⟩,by simp only[aF];omega⟩
 ·have Z:=bB hk Z;subst Z;rw[Xbp,K7]at he;simp only[go_sem,O,X,I];refine aN A (by simp[eK]) ?_;simp only[go_sem,O];rw[he];exact .refl _
def adL(l m:Lab):PC prog 181 [.agg (cP l),.agg (cP m)] (boo (By l m)):=by refine pcd func181 rfl rfl ?_;simp only[go_sem];exact .refl _
def abD(l m:Lab):PC prog 180 [.agg (cP l),.rp (cP m) 0] (boo (By l m)):=by refine pcd func180 rfl rfl ?_;simp only[go_sem];refine aP (adL l m) ?_;simp only[go_sem];exact .refl _
def Kf{g:Nat}{cap:List AV}{p:Lab->Bool}(l:List Lab)(Z:l.length<=4000000000000000000)(O:aG prog g=true)(X:∀v∈l,PC prog g (.agg (cP v)::cap) (boo (p v))):
  PC prog 217 [.sl (l.map cP),.fn g cap] (int (qY p l 0)):=by
 refine pcd func217 rfl rfl ?_;simp only[go_sem];refine⟨fun ρ _=>∃k:Nat,k<=l.length/\ρ 0=.sl (l.map cP)/\ρ 1=.fn g cap/\ρ 7=int l.length/\ρ 8=int k/\∀u∈l.take k,p u=false,fun ρ _=>l.length-aT (ρ 8),⟨0,Xab _,rfl,rfl,rfl,rfl,by simp⟩,?_⟩;rintro ρ H ⟨k,Y,h0,h1,J,F,I⟩;simp only[go_sem,h0,h1,J,F];refine aA (fun A=>?_) (fun E=>?_)
 ·have A:=bA A;obtain⟨u,M⟩:=aM A;have U:=inB A;simp only[go_sem,h0,h1,J,F,aC M,U,O];refine aP (X u (Xac M)) ?_;simp only[go_sem,h0,h1,J,F];refine aA (fun T=>?_) (fun T=>?_)
  ·simp only[go_sem,F];exact bZ (by rw[pN I M T];omega)
  ·simp only[go_sem,h0,h1,J,F,aV k];exact⟨⟨k+1,A,rfl,aS (p:=fun u=>p u=false) M T I⟩,by simp only[aF];omega⟩
 ·have E:=bB Y E;subst E;rw[Xae]at I;simp only[go_sem];exact bZ (by rw[mY I])
def EB{g:Nat}{cap:List AV}{p:Lab->Bool}(l:List Lab)(E:l.length<=4000000000000000000)(A:aG prog g=true)(F:∀v∈l,PC prog g (.agg (cP v)::cap) (boo (p v))):
  PC prog 179 [.sl (l.map cP),.fn g cap] (boo (l.any p)):=by
 refine pcd func179 rfl rfl ?_;simp only[go_sem];refine aP (Kf l E A F) ?_;simp only[go_sem];exact cK (pJ l 0 (Xbw _))
def nJ(x:Instance)(t:VType)(st:List Stop)(k:Nat)(out:List Lab)(l:Lab)(bs:List Bool):List Lab:=(bs.map fun b=>lX x t st k l b).foldl HS out
def SI(x:Instance)(t:VType)(r:Route)(st:List Stop)(ls:List Lab)(k:Nat):List Lab:=ls.foldl (fun out l=>nJ x t st k out l (kH r.rests k)) []
def Xk(out:List Lab)(e:Except Int Lab):(HS out e).length<=out.length+1:=by
 unfold HS;split
 ·omega
 ·split
  ·omega
  ·simp
def Ei(f:List Bool)(k:Nat):(kH f k).length<=2:=by unfold kH;split <;> simp
def C0(x:Instance)(t:VType)(st:List Stop)(k:Nat)(l:Lab):∀(bs:List Bool) (out:List Lab),(nJ x t st k out l bs).length<=out.length+bs.length
 | [],out=>by simp[nJ]
 | b::bs,out=>by have:=C0 x t st k l bs (HS out (lX x t st k l b));have A:=Xk out (lX x t st k l b);simp only[nJ,Xaw,List.foldl_cons,Xad]at this |-;omega
def C4(x:Instance)(t:VType)(r:Route)(st:List Stop)(k:Nat):∀(A:List Lab) (out:List Lab),(A.foldl (fun out l=>nJ x t st k out l (kH r.rests k)) out).length<=out.length+2*A.length
 | [],out=>by simp
 | l::A,out=>by have:=C4 x t r st k A (nJ x t st k out l (kH r.rests k));have F:=C0 x t st k l (kH r.rests k) out;have E:=Ei r.rests k;simp only[List.foldl_cons,Xad]at this |-;omega
abbrev SY(l:List Lab):Row:=⟨226,7,l.map cP⟩
def Gb:∀l:List Lab,cH 7 (l.map cP)
 | []=>trivial
 | _::r=>⟨rfl,Gb r⟩
def Gx:∀l:List Bool,cH 1 (l.map eO)
 | []=>trivial
 | _::r=>⟨rfl,Gx r⟩
def O2{x:Instance}{t:VType}{st:List Stop}{k m:Nat}{out:List Lab}{l:Lab}{bs:List Bool}{b:Bool}(h:bs[m]?=some b):nJ x t st k out l (bs.take (m+1))=HS (nJ x t st k out l (bs.take m)) (lX x t st k l b):=by unfold nJ;rw[bE h,Xan,List.foldl_append];rfl
def afR(x:Instance)(t:VType)(r:Route)(st:List Stop)(ls:List Lab)(k:Nat)(hn:NetOk x.net)(ay:st.length<=1048575)(hk:k<=st.length)(a5:ls.length<=4194304)(hl:∀l∈ls,l.sheet.times.length=k):
  PC prog 133 [.agg (cQ x t r st),.sl (ls.map cP),int k] (.sl ((SI x t r st ls k).map cP)):=by
 refine pcb (fun t=>t == 8) func133 rfl rfl ?_;simp only[go_sem];refine bN (fun ai H'=>ai 1=.sl (ls.map cP)/\ai 2=int k/\ai 3=.rp (cQ x t r st) 0/\ai 7=.sl ((kH r.rests k).map eO)) ?_ fun K hK=>aA (fun hb=>?_) (fun hb=>?_)
 rotate_left
 ·have hb:k<r.rests.length:=by simp at hb;omega
  simp only[go_sem,aV k];refine⟨⟨by omega,Gx _⟩,hK _ _ ⟨by simp only[go_sem],by simp only[go_sem],by simp only[go_sem],?_⟩⟩;simp only[go_sem];have:kH r.rests k=(r.rests.take (k+1)).drop k:=by obtain⟨c,hc⟩:=aM hb;unfold kH;rw[if_pos hb,bE hc,List.drop_append_of_le_length (by simp;omega),List.drop_of_length_le (by simp;omega)];simp[List.getD,hc]
  rw[this,List.map_drop,List.map_take]
 ·have hb:¬k<r.rests.length:=by simp at hb;omega
  simp only[go_sem];refine hK _ _ ⟨by simp only[go_sem],by simp only[go_sem],by simp only[go_sem],?_⟩;simp only[go_sem];unfold kH;rw[if_neg hb];rfl
 rintro ρ H ⟨h1,U,T,M⟩;simp only[go_sem,h1,U,T,M];refine aJ fun j0 av=>?_
 simp only[go_sem,h1,U,T,M];have a0:=Ei r.rests k;generalize hC:kH r.rests k=cs at *;refine⟨fun ρ H=>∃(n:Nat) (j:Nat),n<=ls.length/\ρ 2=int k/\ρ 3=.rp (cQ x t r st) 0/\ρ 7=.sl (cs.map eO)/\ρ 29=.sl (ls.map cP)/\ρ 30=int ls.length/\ρ 31=int n/\ρ 8=.os j/\H j=some (SY ((ls.take n).foldl (fun out l=>nJ x t st k out l cs) [])),fun ρ _=>ls.length-aT (ρ 31),
  ⟨0,j0,Xab _,by simp only[go_sem,U],by simp only[go_sem,T],by simp only[go_sem,M],by simp only[go_sem],by simp only[go_sem,Xaa],by simp only[go_sem];rfl,by simp only[go_sem],aB _ _ _⟩,?_⟩
 clear h1 U T M av j0;rintro ρ H ⟨n,j,au,U,T,M,E,I,F,h8,R⟩;simp only[go_sem,U,T,M,E,I,F,h8];refine aA (fun ag=>?_) (fun am=>?_)
 ·have ag:=bA ag;obtain⟨l,an⟩:=aM ag;have b1:=inB ag;have ax:=hl l (Xac an);have a4:((ls.take n).foldl (fun out l=>nJ x t st k out l cs) []).length<=2*n:=by have:=C4 x t r st k (ls.take n) [];rw[hC]at this;simp at this;omega
  have ak:(ls.take (n+1)).foldl (fun out l=>nJ x t st k out l cs) []=nJ x t st k ((ls.take n).foldl (fun out l=>nJ x t st k out l cs) []) l cs:=iA an;generalize hO:(ls.take n).foldl (fun out l=>nJ x t st k out l cs) []=out0 at *;simp only[go_sem,U,T,M,E,I,F,h8,aC an,b1];refine aJ fun ah ae=>?_
  simp only[go_sem,U,T,M,E,I,F,h8,R];refine bP ae (by simp[jX]) fun al (J:al ah=some (fJ (cP l))) N=>?_
  replace R:=N R;obtain⟨A,R⟩:=R;clear N ae;simp only[go_sem,U,T,M,E,I,F,h8,J,R];refine⟨fun ρ H=>∃(m:Nat) (j:Nat),m<=cs.length/\ρ 2=int k/\ρ 3=.rp (cQ x t r st) 0/\ρ 7=.sl (cs.map eO)/\ρ 10=.op ah 0 0/\ρ 29=.sl (ls.map cP)/\ρ 30=int ls.length/\ρ 31=int n/\ρ 35=.sl (cs.map eO)/\ρ 36=int cs.length/\ρ 37=int m/\ρ 8=.os j/\j≠ah/\H ah=some (fJ (cP l))/\H j=some (SY (nJ x t st k out0 l (cs.take m))),fun ρ _=>cs.length-aT (ρ 37),
   ⟨0,j,Xab _,by simp only[go_sem,U],by simp only[go_sem,T],by simp only[go_sem,M],by simp only[go_sem],by simp only[go_sem,E],by simp only[go_sem,I],by simp only[go_sem,F],by simp only[go_sem],by simp only[go_sem,Xaa],by simp only[go_sem];rfl,by simp only[go_sem,h8],A,J,R⟩,?_⟩
  clear U T M E I F h8 R J A j;rintro ρ H ⟨m,j,hm,U,T,M,X,E,I,F,Y,aa,Z,h8,A,J,R⟩;simp only[go_sem,U,T,M,X,E,I,F,Y,aa,Z,h8];refine aA (fun O=>?_) (fun af=>?_)
  ·have O:=bA O;obtain⟨b,ap⟩:=aM O;have b2:=inB O;have a6:=C0 x t st k l (cs.take m) out0;have hf:=O2 (x:=x) (t:=t) (st:=st) (k:=k) (out:=out0) (l:=l) ap;have az:(cs.take m).length<=2:=by simp;omega
   simp only[go_sem,U,T,M,X,E,I,F,Y,aa,Z,h8,aC ap,b2,eO,J];refine aP (aaB x t r st l k b hn (by omega) hk ax) ?_;simp only[go_sem,U,T,M,X,E,I,F,Y,aa,Z,h8];refine aJ fun aw ac=>?_
   simp only[go_sem,U,T,M,X,E,I,F,Y,aa,Z,h8,J,R];refine bP ac (by simp[jX]) fun HGi13 (R13:HGi13 aw=some (fJ (cP (Yh (lX x t st k l b))))) N=>?_
   replace J:=N J;obtain⟨aj,J⟩:=J;replace R:=N R;obtain⟨ao,R⟩:=R;clear N ac;simp only[go_sem,U,T,M,X,E,I,F,Y,aa,Z,h8,R13,J,R];generalize hF:nJ x t st k out0 l (cs.take m)=out at *;cases hs:lX x t st k l b with
   | error e=>
    rw[hs]at hf R13;have aq:(e == 0)=false:=by simpa using IG hs
    refine⟨boo false,fun hg=>by simp[gt,OA,aq]at hg,?_⟩;simp only[go_sem,OA,aq];refine aA (fun hb=>by simp at hb) (fun _=>?_);simp only[go_sem,U,T,M,X,E,I,F,Y,aa,Z,h8,aV m];exact⟨⟨m+1,j,O,rfl,rfl,A,J,by rw[hf];exact R⟩,by simp only[aF];omega⟩
   | ok l'=>
    rw[hs]at hf R13;refine⟨_,fun _=>.inl ⟨[.sl (out.map cP),.fn 180 [.rp (cP l') 0]],.cons _ _ _ _ (.row _ _ _ R (ConvE.refl _)) (.cons _ _ _ _ (.fn _ _ _ (.cons _ _ _ _ (.ptr _ _ _ _ _ R13 (by simp) (ConvL.refl _)) .nil)) .nil),EB out (by omega) (by simp only[go_sem]) fun v _=>abD v l',rfl⟩,?_⟩;simp only[go_sem,OA,U,T,M,X,E,I,F,Y,aa,Z,h8];refine aA (fun hb=>?_) (fun hb=>?_)
    ·have hb:(out.any fun v=>By v l')=false:=by simpa using hb
     simp only[go_sem,U,T,M,X,E,I,F,Y,aa,Z,h8,R13];refine aX R ⟨rfl,rfl⟩ ⟨rfl,trivial⟩ (by simp only[Xaa,Xad,List.length_nil];omega) (fun j' ar=>?_);have ab:ah≠j':=aR J ar;simp only[go_sem,U,T,M,X,E,I,F,Y,aa,Z,h8,aV m];refine⟨⟨m+1,j',O,rfl,rfl,ab.symm,cT J A ar,?_⟩,by simp only[aF];omega⟩;have e1:HS out (.ok l')=out++[l']:=by show(if(out.any fun v=>By v l')=true then out else out++[l'])=_;rw[if_neg (by rw[hb];simp)]
     rw[hf,e1];exact mD (l':=[l']) rfl
    ·have hb:(out.any fun v=>By v l')=true:=by simpa using hb
     simp only[go_sem,U,T,M,X,E,I,F,Y,aa,Z,h8,aV m];refine⟨⟨m+1,j,O,rfl,rfl,A,J,?_⟩,by simp only[aF];omega⟩;have e1:HS out (.ok l')=out:=by show(if(out.any fun v=>By v l')=true then out else out++[l'])=_;rw[if_pos hb]
     rw[hf,e1];exact R
  ·have af:=bB hm af;subst af;rw[Xae]at R;simp only[go_sem,U,T,M,E,I,F,h8,aV n];exact⟨⟨n+1,j,ag,rfl,rfl,by rw[ak];exact R⟩,by simp only[aF];omega⟩
 ·have am:=bB au am;subst am;rw[Xae]at R;simp only[go_sem,h8];unfold SI;rw[hC];exact .row _ _ _ R (ConvE.refl _)
def dpP(x:Instance)(t:VType)(r:Route)(st:List Stop):Nat->List Lab
 | 0=>[K4 t r]
 | k+1=>SI x t r st (dpP x t r st k) k
def B9(b m:Lab):Lab:=if decide (m.sheet.end_<b.sheet.end_)=true then m else b
def Z1(x:Instance)(t:VType)(r:Route):Sheet×Int:=match dpP x t r (kB x r.visits) (r.visits.length+1)with
 | []=>(TQ (K7 x t (kB x r.visits) (Dd r) 0 (K4 t r)),OA (K7 x t (kB x r.visits) (Dd r) 0 (K4 t r)))
 | l0::ls=>((ls.foldl B9 l0).sheet,0)
def oE(x:Instance)(r:Route):Sheet×Int:=
 if(!fW x r||decide ((r.rests.length:Int)>(r.visits.length:Int)+1))=true then(cF,2)else match x.types[r.type.toNat]? with
 | some t=>Z1 x t r
 | none=>(cF,2)
def XO{out:List Lab}{e:Except Int Lab}{m:Lab}(h:m∈HS out e):m∈out\/e=.ok m:=by
 unfold HS at h;split at h
 ·exact .inl h
 ·rename_i l;split at h
  ·exact .inl h
  ·rcases Xat.1 h with h|h
   ·exact .inl h
   ·simp at h;exact .inr (by rw[h])
def IF{x:Instance}{t:VType}{st:List Stop}{k:Nat}{l m:Lab}:∀(bs:List Bool) (out:List Lab),m∈nJ x t st k out l bs->m∈out\/∃b,lX x t st k l b=.ok m
 | [],out,h=>.inl h
 | b::bs,out,h=>by
  rcases IF bs (HS out (lX x t st k l b)) h with h|h
  ·rcases XO h with h|h
   ·exact .inl h
   ·exact .inr ⟨b,h⟩
  ·exact .inr h
def IB{x:Instance}{t:VType}{r:Route}{st:List Stop}{k:Nat}{m:Lab}:∀(A:List Lab) (out:List Lab),m∈A.foldl (fun out l=>nJ x t st k out l (kH r.rests k)) out->m∈out\/∃l∈A,∃b,lX x t st k l b=.ok m
 | [],out,h=>.inl h
 | l::A,out,h=>by
  rcases IB A _ h with h|⟨l',E,b,F⟩
  ·rcases IF _ _ h with h|⟨b,F⟩
   ·exact .inl h
   ·exact .inr ⟨l,by simp,b,F⟩
  ·exact .inr ⟨l',by simp[E],b,F⟩
def Iz{x:Instance}{t:VType}{r:Route}{st:List Stop}:∀(k:Nat),k<=st.length->∀l∈dpP x t r st k,l.sheet.times.length=k
 | 0,_,l,h=>by simp[dpP]at h;subst h;rfl
 | k+1,hk,l,h=>by
  rcases IB _ _ h with h|⟨l',A,b,E⟩
  ·simp at h
  ·exact Ec (by omega) (Iz k (by omega) l' A) E
def TV(x:Instance)(t:VType)(r:Route)(st:List Stop):∀k:Nat,(dpP x t r st k).length<=2^k
 | 0=>by simp[dpP]
 | k+1=>by have h1:=C4 x t r st k (dpP x t r st k) [];have A:=TV x t r st k;rw[Nat.pow_succ];simp only[dpP,SI]at h1 |-;simp at h1;omega
def RH(x:Instance)(r:Route):∃F t' r' A,AN x r=(cQ F t' r' A,fW x r)/\(fW x r=true->F=x/\r'=r/\A=kB x r.visits/\x.types[r.type.toNat]?=some t'):=by
 unfold AN;cases I:fW x r with
 | false=>exact⟨_,_,_,_,by rw[if_neg (by simp)],fun h=>by simp at h⟩
 | true=>have:=AQ I;obtain⟨t,E⟩:=aM (show r.type.toNat<x.types.length by omega);exact⟨x,t,r,kB x r.visits,by rw[if_pos rfl,E],fun _=>⟨rfl,rfl,rfl,E⟩⟩
def agP(x:Instance)(r:Route)(hn:NetOk x.net)(hr:r.visits.length<=1048576):PC prog 86 [.agg (aE x),.agg (bI r)] (.tup [.agg (bY (oE x r).1),int (oE x r).2]):=by
 have w:IntKind.i64.wrap ((r.visits.length:Int)+1)=(r.visits.length:Int)+1:=bG (by omega);refine pcb (fun t=>t == 57) func86 rfl rfl ?_;simp only[go_sem];refine eQ fun i4 ax ar (A:ax i4=some (fQ (bY cF))) N=>?_
 clear N ar;simp only[go_sem,A];refine aP (agN x r hr) ?_;simp only[go_sem];obtain⟨x',t',r',a8,aw,ay⟩:=RH x r;rw[aw];refine aJ fun i6 ai=>?_
 simp only[go_sem,w,A];refine bP ai (by simp[DU]) fun ao (Z:ao i6=some (wO (cQ x' t' r' a8))) N=>?_
 replace A:=N A;obtain⟨an,A⟩:=A;clear N ai;simp only[go_sem,w,Z,A];refine aA (fun h1=>?_) (fun h1=>?_)
 ·simp only[go_sem];refine aN A (by simp) ?_;simp only[go_sem];have e:oE x r=(cF,2):=by unfold oE;rw[if_pos h1]
  rw[e];exact .refl _
 have hp:fW x r=true:=by rw[Xah]at h1;simpa using h1.1
 have a0:r.rests.length<=r.visits.length+1:=by rw[Xah]at h1;have:=h1.2;simp at this;omega
 have bc:=AQ hp;obtain⟨t,ht⟩:=aM (show r.type.toNat<x.types.length by omega);have a9:r.visits.length<=20:=by unfold fW at hp;simp only[Xam,Xbk,Xah,decide_eq_false_iff_not]at hp;omega
 have eB:oE x r=Z1 x t r:=by unfold oE;rw[if_neg (by rw[h1];simp),ht]
 obtain⟨ex,er,es,aa⟩:=ay hp;rw[ex,er,es]at Z;rw[ht]at aa;injection aa with aa;rw[<-aa]at Z;clear aw ay ex er es aa;rw[eB];have a4:(kB x r.visits).length=r.visits.length:=by simp[kB]
 have au:=TV x t r (kB x r.visits);have a5:=Iz (x:=x) (t:=t) (r:=r) (st:=kB x r.visits);unfold Z1;generalize hS:kB x r.visits=st at *;simp only[go_sem,Z];refine aP (Nh x t r st) ?_;simp only[go_sem];refine⟨fun ρ H=>∃k:Nat,k<=r.visits.length+1/\ρ 3=.rp (bI r) 0/\ρ 4=.op i4 0 0/\ρ 6=.op i6 0 0/\ρ 8=int ((r.visits.length:Int)+1)/\ρ 38=int ((r.visits.length:Int)+1)/\ρ 39=int k/\ρ 9=.sl ((dpP x t r st k).map cP)/\H i4=some (fQ (bY cF))/\H i6=some (wO (cQ x t r st)),fun ρ _=>r.visits.length+1-aT (ρ 39),
  ⟨0,Xab _,by simp only[go_sem],by simp only[go_sem],by simp only[go_sem],by simp only[go_sem],by simp only[go_sem],by simp only[go_sem];rfl,by simp only[go_sem];rfl,A,Z⟩,?_⟩
 clear A Z;rintro ρ H ⟨k,hk,h3,F,h6,h8,ah,ag,Y,A,Z⟩;simp only[go_sem,h3,F,h6,h8,ah,ag,Y];refine aA (fun I=>?_) (fun M=>?_)
 ·have I:k<=r.visits.length:=by simp at I;omega
  simp only[go_sem,h3,F,h6,h8,ah,ag,Y,Z];have bd:2^k<=2^20:=Xau (by decide) (by omega);have:=au k;refine aP (afR x t r st (dpP x t r st k) k hn (by omega) (by omega) (by omega) (a5 k (by omega))) ?_;simp only[go_sem,h3,F,h6,h8,ah,ag,aV k];exact⟨⟨k+1,by omega,rfl,rfl,A,Z⟩,by simp only[aF];omega⟩
 have M:k=r.visits.length+1:=by simp at M;omega
 subst M;simp only[go_sem,h3,F,h6,h8,Y];cases hd:dpP x t r st (r.visits.length+1)with
 | nil=>
  rw[hd]at Y;refine aA (fun _=>?_) (fun hb=>by simp at hb);simp only[go_sem,h3,F,h6,h8,Y];refine⟨⟨by omega,by omega⟩,aJ fun j hj=>?_⟩;simp only[go_sem,h3,F,h6,h8,Y];have a6:(((r.visits.length:Int)+1)).toNat=r.visits.length+1:=by omega
  refine aeA akF (aB _ _ _) (.inl ⟨rfl,rfl,rfl⟩) (.inl rfl) rfl (Gx _) ?_;have ac:=aR A hj;have av:=aR Z hj;generalize hG:aI (aI H j _) j _=H1;have Rj:H1 j=some (abT (Dd r)):=by rw[<-hG,aB,a6];exact congrArg (fun es=>some (⟨4,1,es⟩:Row)) (Qb a0)
  replace A:=(congrFun hG.symm i4).trans (aeT A hj);replace Z:=(congrFun hG.symm i6).trans (aeT Z hj);clear hG hj;simp only[go_sem,h3,F,h6,h8,Y,Z];refine IW (by simp only[go_sem]) Rj fun Hr bb hr=>?_
  replace A:=(hr i4 ac).trans A;simp only[go_sem,h3,F,h6,h8,Y];refine aP (aiG x t r st (Dd r) hn (by omega) (by rw[Rp a0,a4];exact Xag _)) ?_;simp only[go_sem,h3,F,h6,h8,Y];refine aN A (by simp[eK]) ?_;simp only[go_sem,F];exact .refl _
 | cons l0 ls=>
  rw[hd]at Y;have ba:=Gb (l0::ls);have az:(l0::ls).length<=2^21:=by have:=au (r.visits.length+1);rw[hd]at this;exact Xai this (Xau (by decide) (by omega))
  refine aA (fun hb=>by simp at hb;omega) (fun _=>?_);have b1:(0:Int)<=0/\(0:Int)<((l0::ls).length:Int):=⟨Xbw _,by simp⟩;simp only[go_sem,h3,F,h6,h8,Y,aC (l:=l0::ls) (k:=0) (x:=l0) rfl,b1];refine⟨by omega,?_⟩;refine aJ fun ab af=>?_
  simp only[go_sem,h3,F,h6,h8,Y,A];refine bP af (by simp[jX]) fun ak (E:ak ab=some (fJ (cP l0))) N=>?_
  replace A:=N A;obtain⟨O,A⟩:=A;clear N af;simp only[go_sem,h3,F,h6,h8,Y,E,A];refine⟨⟨by omega,Gb ls⟩,?_⟩;refine⟨fun ρ H=>∃(m:Nat),m<=ls.length/\ρ 4=.op i4 0 0/\ρ 12=.op ab 0 0/\ρ 65=.sl (ls.map cP)/\ρ 66=int ls.length/\ρ 67=int m/\H i4=some (fQ (bY cF))/\H ab=some (fJ (cP ((ls.take m).foldl B9 l0))),fun ρ _=>ls.length-aT (ρ 67),
   ⟨0,Xab _,by simp only[go_sem,F],by simp only[go_sem],by simp only[go_sem],by simp only[go_sem,Xaa],by simp only[go_sem];rfl,A,E⟩,?_⟩
  clear h3 F h6 h8 Y A E ah ag Z;rintro ρ H ⟨m,hm,F,J,T,X,U,A,E⟩;simp only[go_sem,F,J,T,X,U];refine aA (fun I=>?_) (fun M=>?_)
  ·have I:=bA I;obtain⟨l,aq⟩:=aM I;have b2:=inB I;have hf:(ls.take (m+1)).foldl B9 l0=B9 ((ls.take m).foldl B9 l0) l:=iA aq;generalize (ls.take m).foldl B9 l0=bl at *;simp only[go_sem,F,J,T,X,U,aC aq,b2];refine aJ fun a7 ae=>?_
   simp only[go_sem,F,J,T,X,U,A,E];refine bP ae (by simp[jX]) fun am (ap:am a7=some (fJ (cP l))) N=>?_
   replace A:=N A;obtain⟨al,A⟩:=A;replace E:=N E;obtain⟨aj,E⟩:=E;clear N ae;simp only[go_sem,F,J,T,X,U,ap,A,E];refine aA (fun hb=>?_) (fun hb=>?_)
   ·simp only[go_sem,F,J,T,X,U,ap];refine aN E (by simp[jX]) ?_;generalize hP:aI _ ab _=HP;replace A:=kpA hP (by first|exact O|exact ne_i12_i4.symm) A;replace E:HP ab=some (fJ (cP l)):=upS hP;clear hP;simp only[go_sem,F,J,T,X,U,mX (show m<=4611686018427387904 by simp at az;omega),E,A];exact⟨⟨m+1,I,rfl,by rw[hf];unfold B9;rw[if_pos hb]⟩,by simp only[aF];omega⟩
   ·simp only[go_sem,F,J,T,X,U,mX (show m<=4611686018427387904 by simp at az;omega)];exact⟨⟨m+1,I,rfl,A,by rw[hf];unfold B9;rw[if_neg (by rw[hb];simp)];exact E⟩,by simp only[aF];omega⟩
  ·have M:=bB hm M;subst M;rw[Xae]at E;simp only[go_sem,F,J,E];refine aN A (by simp[eK]) ?_;simp only[go_sem,F];exact .refl _
def mK(p:Int×Int):List AV:=[int p.1,int p.2]
def uB(m:List (Int×Int))(o:Int):Option Nat:=m.findIdx? fun p=>p.1 == o
def oK(m:List (Int×Int))(o:Int):Int:=((m.find? fun p=>p.1 == o).map (·.2)).getD 0
def AE(m:List (Int×Int))(o v:Int):List (Int×Int):=match uB m o with
 | some i=>m.set i (o,v)
 | none=>m++[(o,v)]
abbrev qA(m:List (Int×Int)):Row:=⟨0,2,m.map mK⟩
def uW(o:Int):∀(m:List (Int×Int)) (i:Nat),tA (pL prog 3 (int o)) (m.map mK) i=some ((uB m o).map (·+i))
 | [],i=>rfl
 | p::m,i=>by
  have ih:=uW o m (i+1);have A:pL prog 3 (int o) ((mK p).getD 0 .any)=some (o == p.1):=by show pL prog 3 (int o) (int p.1)=_;unfold pL;simp only[kk3];simp[uI]
  rw[Xaw,tA,A];unfold uB at *;rw[List.findIdx?_cons];by_cases h:o=p.1
  ·subst h;simp
  ·have h1:(o == p.1)=false:=by simpa using h
   have E:(p.1 == o)=false:=by simpa using fun e=>h e.symm
   rw[h1,E];simp only[Xaz,if_false];rw[ih];cases m.findIdx? (fun p=>p.1 == o)with
   | none=>rfl
   | some j=>simp;omega
def iT(o:Int)(m:List (Int×Int)):tA (pL prog 3 (int o)) (m.map mK) 0=some (uB m o):=by rw[uW];cases uB m o <;> rfl
def kO(o:Int):mF prog 3 (int o)=true:=by simp only[mF,kk3];rfl
def uS(m:List (Int×Int))(o:Int):Fv false (int 0) (m.map mK) (uB m o)=int (oK m o):=by
 unfold Fv oK uB;induction m with
 | nil=>rfl
 | cons p m ih=>
  rw[List.findIdx?_cons,List.find?_cons];cases h:p.1 == o with
  | true=>simp[mK]
  | false=>
   cases A:m.findIdx? (fun p=>p.1 == o)with
   | none=>rw[A]at ih;simpa using ih
   | some j=>rw[A]at ih;simp at ih |-;exact ih
def yU(m:List (Int×Int))(o v:Int):V5 (m.map mK) (uB m o) (int o) (int v)=(AE m o v).map mK:=by
 unfold V5 AE;cases uB m o with
 | none=>simp[mK]
 | some i=>simp[List.map_set,mK]
def Cp(m:List (Int×Int))(o v q:Int):oK (AE m o v) q=if q=o then v else oK m q:=by
 unfold oK AE uB;induction m with
 | nil=>
  by_cases h:q=o
  ·subst h;simp
  ·have E:(o == q)=false:=by simpa using fun e=>h e.symm
   simp[h,E]
 | cons p m ih=>
  rw[List.findIdx?_cons];cases J:p.1 == o with
  | true=>
   have A:p.1=o:=by simpa using J
   simp only[if_true,List.set_cons_zero,List.find?_cons];by_cases h:q=o
   ·subst h;simp
   ·have E:(o == q)=false:=by simpa using fun e=>h e.symm
    have M:(p.1 == q)=false:=by rw[A];exact E
    simp[h,E,M]
  | false=>
   have A:p.1≠o:=by simpa using J
   cases I:m.findIdx? (fun p=>p.1 == o)with
   | none=>
    rw[I]at ih;simp only[Xaz,if_false,Option.map_none,List.cons_append,List.find?_cons];cases F:p.1 == q with
    | true=>
     have:q≠o:=fun e=>A ((by simpa using F:p.1=q).trans e)
     simp[this]
    | false=>simpa using ih
   | some j=>
    rw[I]at ih;simp only[Xaz,if_false,Option.map_some,List.set_cons_succ,List.find?_cons];cases F:p.1 == q with
    | true=>
     have:q≠o:=fun e=>A ((by simpa using F:p.1=q).trans e)
     simp[this]
    | false=>simpa using ih
def JB(a b:Int):PC prog 135 [int a,int b] (boo (a != -1&&a != b)):=by refine pcd func135 rfl rfl ?_;simp only[go_sem];exact .refl _
def N7(l:List Visit)(o:Int):Nat:=l.countP fun v=>v.order == o
def UL{l:List Visit}{k:Nat}{v:Visit}(h:l[k]?=some v)(o:Int):N7 (l.take (k+1)) o=N7 (l.take k) o+if v.order=o then 1 else 0:=by
 unfold N7;rw[bE h,List.countP_append];by_cases e:v.order=o
 ·simp[e]
 ·have:(v.order == o)=false:=by simpa using e
  simp[e]
def abY(l:List Visit)(k:Nat)(o:Int):N7 (l.take k) o<=l.length:=Xai List.countP_le_length (by rw[Xal];omega)
def Sh{l:List Visit}{k:Nat}{v:Visit}(h:l[k]?=some v):vO l k=decide (N7 (l.take k) v.order=0):=by
 have J:=(List.getElem?_eq_some_iff.1 h).1;rw[Xap];simp only[decide_eq_true_eq];unfold vO N7;rw[List.countP_eq_zero,Xaj];constructor
 ·intro F u M;obtain⟨i,E,rfl⟩:=List.getElem_of_mem M;have A:i<k:=by simp at E;omega
  have:=F i (Xav.2 A);rw[uJ h,uJ (List.getElem?_eq_getElem (show i<l.length by omega))]at this;simpa using this
 ·intro F i E;have A:=Xav.1 E;have I:i<l.length:=by omega
  rw[uJ h,uJ (List.getElem?_eq_getElem I)];have:=F l[i] (List.mem_take_iff_getElem.2 ⟨i,by omega,rfl⟩);simpa using this
def abJ(x:Instance)(r:Route)(s:Sheet)(hr:r.visits.length<=1048576):PC prog 87 [.agg (aE x),.agg (bI r),.agg (bY s)] (.agg (bD (tB x r s))):=by
 refine pcd func87 rfl rfl ?_;simp only[go_sem];refine eQ fun i6 a6 a8 (I:a6 i6=some (mZ bJ)) N=>?_
 clear N a8;simp only[go_sem,I];refine aA (fun h1=>?_) (fun h1=>?_)
 . have h1:cD r.type x.types.length=true:=h1;simp only[go_sem];refine aN I (by simp) ?_;simp only[go_sem];have e:tB x r s=bJ:=by unfold tB;rw[if_pos h1]
   rw[e];exact .refl _
 have h1:cD r.type x.types.length=false:=h1;have bc:0<=r.type/\r.type<(x.types.length:Int):=by simp only[cD,Xah,decide_eq_false_iff_not]at h1;omega
 obtain⟨t,ht⟩:=aM (show r.type.toNat<x.types.length by omega);have e:tB x r s=YK x r s t:=by unfold tB;rw[if_neg (by rw[h1];simp),ht]
 rw[e];simp only[go_sem,aC ht,bc];refine aJ fun i7 ap=>?_
 simp only[go_sem,I];refine bP ap (by simp[jY]) fun a7 (R7:a7 i7=some (lA t)) N=>?_
 replace I:=N I;obtain⟨a5,I⟩:=I;clear N ap;simp only[go_sem,R7,I];refine⟨by decide,?_⟩;refine aJ fun ab am=>?_
 simp only[go_sem,I];refine bP am (by simp) fun ai (E:ai ab=some (mZ (DD t s))) N=>?_
 replace I:=N I;obtain⟨aa,I⟩:=I;clear N am;simp only[go_sem,E,I];refine aJ fun jm a4=>?_
 have ac:=aR I a4;have U:=aR E a4;generalize hG:aI ai jm _=HM;have X:HM jm=some (qA []):=by rw[<-hG,aB];rfl
 replace I:=(congrFun hG.symm i6).trans ((aD _ _ _ _ ac).trans I);replace E:=(congrFun hG.symm ab).trans ((aD _ _ _ _ U).trans E);clear hG a4 R7;simp only[go_sem];refine ⟨fun ρ H => ∃ (k : Nat) (m : List (Int × Int)), k <= r.visits.length /\ ρ 3 = .rp (aE x) 0 /\ ρ 4 = .rp (bI r) 0 /\ ρ 6 = .op i6 0 0 /\ ρ 10 = .op ab 0 0 /\ ρ 11 = .om jm /\ ρ 59 = .sl (r.visits.map aL) /\ ρ 60 = int r.visits.length /\ ρ 61 = int k /\ H i6 = some (mZ bJ) /\
     H ab=some (mZ (((List.range r.visits.length).take k).foldl (kR x r) (DD t s)))/\H jm=some (qA m)/\∀o,oK m o=(N7 (r.visits.take k) o:Nat),fun ρ _=>r.visits.length-aT (ρ 61),
   ⟨0,[],Xab _,by simp only[go_sem],by simp only[go_sem],by simp only[go_sem],by simp only[go_sem],by simp only[go_sem],by simp only[go_sem],by simp only[go_sem,Xaa],by simp only[go_sem];rfl,I,E,X,fun o=>rfl⟩,?_⟩
 clear I E X;rintro ρ H ⟨k,m,hk,h3,h4,h6,F,T,J,O,M,I,E,X,hm⟩;simp only[go_sem,h3,h4,h6,F,T,J,O,M];refine aA (fun af=>?_) (fun ar=>?_)
 . have af:=bA af;obtain⟨v,hv⟩:=aM af;have b1:=inB af;have hs:((List.range r.visits.length).take (k+1)).foldl (kR x r) (DD t s)=kR x r (((List.range r.visits.length).take k).foldl (kR x r) (DD t s)) k:=by rw[bE (oV af),List.foldl_append];rfl
   generalize hA:((List.range r.visits.length).take k).foldl (kR x r) (DD t s)=A at E hs;have ev:mI r.visits k=v.order:=uJ hv;have be:=Sh hv;have bg:=abY r.visits k v.order;have bd:=UL hv;have ba:=hm v.order;have wm:IntKind.i64.wrap (oK m v.order+1)=oK m v.order+1:=bG (by omega);simp only[go_sem,h3,h4,h6,F,T,J,O,M,aC hv,b1];refine aJ fun a9 ak=>?_
   simp only[go_sem,h3,h4,h6,F,T,J,O,M,I,E,X];refine bP ak (by simp[cX]) fun aw (ah:aw a9=some (⟨126,2,[aL v]⟩)) N=>?_
   replace I:=N I;obtain⟨av,I⟩:=I;replace E:=N E;obtain⟨aq,E⟩:=E;replace X:=N X;obtain⟨ag,X⟩:=X;clear N ak;simp only[go_sem,h3,h4,h6,F,T,J,O,M,ah,I,E,X];refine uX X AG (kO _) (iT _ _) zv3 ?_;rw[uS];simp only[go_sem,h3,h4,h6,F,T,J,O,M,ah,wm];refine Fj X AG (kO _) (iT _ _) ?_;rw[yU];generalize hP:aI _ jm _=HP;replace I:=kpA hP (by first|exact ac|exact ne_jm_i6.symm) I;replace E:=kpA hP (by first|exact U|exact ne_jm_i10.symm) E;replace ah:=kpA hP (by first|exact ne_i13_jm|exact ag.symm) ah;replace X:HP jm=some (qA (AE m v.order (oK m v.order+1))):=by rw[<-hP,aB];skip
   clear hP;simp only[go_sem,h3,h4,h6,F,T,J,O,M,X,I,E,ah];have ax:∀o,oK (AE m v.order (oK m v.order+1)) o=(N7 (r.visits.take (k+1)) o:Nat):=fun o=>by
     rw[Cp,bd o,hm o,hm v.order];by_cases e:o=v.order
     . subst e;simp
     . rw[if_neg e,if_neg (fun h=>e h.symm)];rfl
   refine uX X AG (kO _) (iT _ _) zv3 ?_;rw[uS,Cp,if_pos rfl];have ao:(cD v.order x.orders.length||decide (oK m v.order+1>1))=(cD v.order x.orders.length|| !vO r.visits k):=by
     rw[be,ba]
     congr 1
     rw[Xap];simp;omega
   simp only[go_sem,h3,h4,h6,F,T,J,O,M,ah];refine aA (fun hb=>?_) (fun hb=>?_)
   . have an:(cD v.order x.orders.length|| !vO r.visits k)=true:=ao▸hb;have e:kR x r A k=A:=by unfold kR;rw[ev,if_pos an]
     simp only[go_sem,h3,h4,h6,F,T,J,O,M,aV k];exact⟨⟨k+1,_,af,rfl,I,by rw[hs,e];exact E,X,ax⟩,by simp only[aF];omega⟩
   have an:(cD v.order x.orders.length|| !vO r.visits k)=false:=ao▸hb;have bb:cD v.order x.orders.length=false:=(Xah.1 an).1;have bf:0<=v.order/\v.order<(x.orders.length:Int):=by simp only[cD,Xah,decide_eq_false_iff_not]at bb;omega
   obtain⟨o,ho⟩:=aM (show v.order.toNat<x.orders.length by omega);have e:kR x r A k=FO o r.type (Hk o r.type A):=by unfold kR;rw[ev,if_neg (by rw[an];simp),ho]
   rw[e]at hs;simp only[go_sem,h3,h4,h6,F,T,J,O,M,ah,aC ho,bf];refine aJ fun ay al=>?_
   simp only[go_sem,h3,h4,h6,F,T,J,O,M,I,E,X];refine bP al (by simp[kF]) fun az (Z:az ay=some (lJ o)) N=>?_
   replace I:=N I;obtain⟨au,I⟩:=I;replace E:=N E;obtain⟨Y,E⟩:=E;replace X:=N X;obtain⟨a0,X⟩:=X;clear N al;simp only[go_sem,h3,h4,h6,F,T,J,O,M,Z,I,E,X];refine aP (JB o.now r.type) ?_;simp only[go_sem,h3,h4,h6,F,T,J,O,M];refine bN (fun ae H'=>ae 3=.rp (aE x) 0/\ae 4=.rp (bI r) 0/\ae 6=.op i6 0 0/\ae 10=.op ab 0 0/\ae 11=.om jm/\ae 14=.op ay 0 0/\ae 59=.sl (r.visits.map aL)/\ae 60=int r.visits.length/\ae 61=int k/\H' i6=some (mZ bJ)/\H' ay=some (lJ o)/\H' jm=some (qA (AE m v.order (oK m v.order+1)))/\H' ab=some (mZ (Hk o r.type A))) ?_ fun K hK=>aA (fun hb=>?_) (fun hb=>?_)
   rotate_left
   . simp only[go_sem,h3,h4,h6,F,T,J,O,M,E];refine bU so3 E ⟨by simp,rfl,by simp⟩ ?_;generalize hP:aI _ ab _=HP;replace I:=kpA hP (by first|exact aa|exact ne_i10_i6.symm) I;replace Z:=kpA hP (by first|exact ne_i14_i10|exact Y.symm) Z;replace X:=kpA hP (by first|exact ne_jm_i10|exact U.symm) X;replace E:HP ab=some (mZ (Hk o r.type A)):=by rw[<-hP,aB];(rw[Hk,if_pos (show Pc o r.type=true from hb)];rfl)
     clear hP;simp only[go_sem,h3,h4,h6,F,T,J,O,M,E,I,Z,X];exact hK _ _ ⟨by simp only[go_sem,h3],by simp only[go_sem,h4],by simp only[go_sem,h6],by simp only[go_sem,F],by simp only[go_sem,T],by simp only[go_sem],by simp only[go_sem,J],by simp only[go_sem,O],by simp only[go_sem,M],I,Z,X,E⟩
   . simp only[go_sem];refine hK _ _ ⟨by simp only[go_sem,h3],by simp only[go_sem,h4],by simp only[go_sem,h6],by simp only[go_sem,F],by simp only[go_sem,T],by simp only[go_sem],by simp only[go_sem,J],by simp only[go_sem,O],by simp only[go_sem,M],I,Z,X,?_⟩;rw[Hk,if_neg (by rw[show Pc o r.type=false from hb];simp)];exact E
   clear I E X Z h3 h4 h6 F T J O M;rintro ρ H ⟨h3,h4,h6,F,T,aj,J,O,M,I,Z,X,E⟩;simp only[go_sem,h3,h4,h6,F,T,aj,J,O,M,Z];refine aP (JB o.last r.type) ?_;simp only[go_sem,h3,h4,h6,F,T,aj,J,O,M];refine aA (fun hb=>?_) (fun hb=>?_)
   . simp only[go_sem,h3,h4,h6,F,T,aj,J,O,M,E];refine bU so3 E ⟨by simp,rfl,by simp⟩ ?_;generalize hP:aI _ ab _=HP;replace I:=kpA hP (by first|exact aa|exact ne_i10_i6.symm) I;replace Z:=kpA hP (by first|exact ne_i14_i10|exact Y.symm) Z;replace X:=kpA hP (by first|exact ne_jm_i10|exact U.symm) X;replace E:HP ab=some (mZ (FO o r.type (Hk o r.type A))):=by rw[<-hP,aB];(rw[FO,if_pos (show Qk o r.type=true from hb)];rfl)
     clear hP;simp only[go_sem,h3,h4,h6,F,T,aj,J,O,M,aV k,E,I,Z,X];exact⟨⟨k+1,AE m v.order (oK m v.order+1),af,rfl,by rw[hs],rfl,ax⟩,by simp only[aF];omega⟩
   . simp only[go_sem,h3,h4,h6,F,T,aj,J,O,M,aV k];exact⟨⟨k+1,_,af,rfl,I,by rw[hs,FO,if_neg (by rw[show Qk o r.type=false from hb];simp)];exact E,X,ax⟩,by simp only[aF];omega⟩
 . have ar:=bB hk ar;subst ar;rw[Xaq (by simp)]at E;simp only[go_sem,h6,F,E];refine aN I (by simp[cC]) ?_;simp only[go_sem,h6];exact .refl _
def Gl(x:Instance)(r:Route)(v:Visit):Bool:=match x.types[r.type.toNat]?,x.orders[v.order.toNat]? with
 | some t,some o=>xM t.skills o.skills
 | _,_=>false
def F3(x:Instance)(r:Route):Int:=if(r.visits.any fun v=> !Gl x r v)=true then 18 else 0
def abL(x:Instance)(r:Route)(hr:r.visits.length<=1048576)(Y:0<=r.type/\r.type<(x.types.length:Int))(aa:∀v∈r.visits,0<=v.order/\v.order<(x.orders.length:Int)):
  PC prog 84 [.agg (aE x),.agg (bI r)] (int (F3 x r)):=by
 obtain⟨t,ht⟩:=aM (show r.type.toNat<x.types.length by omega);refine pcd func84 rfl rfl ?_;simp only[go_sem];refine⟨fun ρ _=>∃k:Nat,k<=r.visits.length/\ρ 2=.rp (aE x) 0/\ρ 3=.rp (bI r) 0/\ρ 8=.sl (r.visits.map aL)/\ρ 9=int r.visits.length/\ρ 10=int k/\∀v∈r.visits.take k,(!Gl x r v)=false,fun ρ _=>r.visits.length-aT (ρ 10),⟨0,Xab _,rfl,rfl,rfl,by simp only[go_sem,Xaa],rfl,by simp⟩,?_⟩;rintro ρ H ⟨k,hk,J,I,O,M,A,Z⟩;simp only[go_sem,J,I,O,M,A];refine aA (fun E=>?_) (fun T=>?_)
 ·have E:=bA E;obtain⟨v,X⟩:=aM E;have b1:=inB E;have ab:=aa v (Xac X);obtain⟨o,ho⟩:=aM (show v.order.toNat<x.orders.length by omega);have es:Gl x r v=xM t.skills o.skills:=by unfold Gl;rw[ht,ho]
  simp only[go_sem,J,I,O,M,A,aC X,b1];refine aJ fun i6 F=>?_
  simp only[go_sem,J,I,O,M,A];refine bP F (by simp[cX]) fun U (R6:U i6=some (⟨126,2,[aL v]⟩)) N=>?_
  clear N F;simp only[go_sem,J,I,O,M,A,R6];refine gW [i6] [(0,true),(1,true),(2,true),(3,true),(4,true),(5,true),(6,true),(7,true),(8,true),(9,true),(10,true),(11,true),(12,true),(13,true),(14,true)] (by simp[R6]) (by kernel_rfl) fun Hp Hr hp ae _ ac=>?_
  have P6:=(hp i6 (by simp)).trans R6;simp only[go_sem,J,I,O,M,A,P6,aC ht,Y,aC ho,ab];refine⟨_,(agV t o.skills).q rfl,?_⟩;simp only[go_sem,J,I,O,M,A];refine dX fun _ Hm _ _=>?_
  simp only[go_sem,J,I,O,M,A];refine aA (fun hb=>?_) (fun hb=>?_)
  ·simp only[go_sem];exact bZ (by unfold F3;rw[if_pos (Xao.2 ⟨v,Xac X,by rw[es];exact hb⟩)])
  ·simp only[go_sem,J,I,O,M,A,aV k];exact⟨⟨k+1,E,rfl,aS (p:=fun v=>(!Gl x r v)=false) X (by rw[es];exact hb) Z⟩,by simp only[aF];omega⟩
 ·have T:=bB hk T;subst T;rw[Xae]at Z;simp only[go_sem];exact bZ (by unfold F3;rw[if_neg (by rw[Db Z];simp)])
def dR(x:Instance)(r:Route):Sheet×Score×Int:=
 if cD r.type x.types.length=true then(cF,bJ,2)
 else if(sL x r.visits != 0)=true then(cF,bJ,sL x r.visits)
 else if(F3 x r != 0)=true then(cF,bJ,F3 x r)
 else if(Cm x r != 0)=true then(cF,bJ,Cm x r)
 else if((oE x r).2 != 0)=true then(cF,bJ,(oE x r).2)
 else((oE x r).1,tB x r (oE x r).1,0)
structure EvalB(x:Instance):Prop where
 net:NetOk x.net
 load:LoadB x
 apart:x.apart.length<=1048576
 before:x.before.length<=1048576
abbrev fnsL:List (List AV):=[[.v (.func (.func 83) #[] #[])],[.v (.func (.func 84) #[] #[])],[.v (.func (.func 85) #[] #[])]]
def BO(x:Instance)(r:Route)(hx:EvalB x)(hr:r.visits.length<=1048575):PC prog 47 [.agg (aE x),.agg (bI r)] (.tup [.agg (bY (dR x r).1),.agg (bD (dR x r).2.1),int (dR x r).2.2]):=by
 refine pcd func47 rfl rfl ?_;simp only[go_sem];refine eQ fun i4 am ak (E:am i4=some (fQ (bY cF))) N=>?_
 clear N ak;simp only[go_sem,E];refine eQ fun i5 al ag (I:al i5=some (mZ bJ)) N=>?_
 replace E:=N E;obtain⟨A,E⟩:=E;clear N ag;simp only[go_sem,I,E];refine aA (fun h1=>?_) (fun h1=>?_)
 ·have h1:cD r.type x.types.length=true:=h1;simp only[go_sem];refine aN E (by simp) ?_;generalize F:aI _ i4 _=HP;replace I:=kpA F (by first|exact ne_i5_i4|exact A.symm) I;replace E:HP i4=some (fQ (bY cF)):=upS F;clear F;simp only[go_sem,E,I];refine aN I (by simp) ?_;generalize F:aI _ i5 _=HP;replace E:=kpA F (by first|exact A|exact ne_i5_i4.symm) E;replace I:HP i5=some (mZ bJ):=upS F;clear F;simp only[go_sem,I,E];have e:dR x r=(cF,bJ,2):=by unfold dR;rw[if_pos h1]
  rw[e];exact .refl _
 have c1:¬cD r.type x.types.length=true:=by rw[show cD r.type x.types.length=false from h1];simp
 have an:0<=r.type/\r.type<(x.types.length:Int):=by have h1:cD r.type x.types.length=false:=h1;simp only[cD,Xah,decide_eq_false_iff_not]at h1;omega
 simp only[go_sem];refine⟨fun ρ H=>∃(k:Nat),k<=3/\ρ 2=.rp (aE x) 0/\ρ 3=.rp (bI r) 0/\ρ 4=.op i4 0 0/\ρ 5=.op i5 0 0/\ρ 25=.sl fnsL/\ρ 26=int 3/\ρ 27=int k/\H i4=some (fQ (bY cF))/\H i5=some (mZ bJ)/\(0<k->sL x r.visits=0)/\(1<k->F3 x r=0)/\(2<k->Cm x r=0),fun ρ _=>3-aT (ρ 27),
  ⟨0,Xab _,by simp only[go_sem],by simp only[go_sem],by simp only[go_sem],by simp only[go_sem],by simp only[go_sem],by simp only[go_sem];rfl,by simp only[go_sem];rfl,E,I,fun h=>absurd h (by decide),fun h=>absurd h (by decide),fun h=>absurd h (by decide)⟩,?_⟩
 clear E I;rintro ρ H ⟨k,hk,Y,X,T,U,O,J,M,E,I,q1,q2,q3⟩;simp only[go_sem,Y,X,T,U,O,J,M];refine aA (fun aj=>?_) (fun ac=>?_)
 ·have aj:k<3:=by simp at aj;omega
  have hc:k=0\/k=1\/k=2:=by omega
  rcases hc with rfl|rfl|rfl
  ·simp only[go_sem,Y,X,T,U,O,J,M];refine⟨by decide,PC.use (G8 x r (by omega) hx.apart hx.before) ?_⟩;simp only[go_sem,Y,X,T,U,O,J,M];refine aA (fun hb=>?_) (fun hb=>?_)
   ·have e:dR x r=(cF,bJ,sL x r.visits):=by unfold dR;rw[if_neg c1,if_pos hb]
    simp only[go_sem,Y,X,T,U,O,J,M];refine aN E (by simp) ?_;generalize F:aI _ i4 _=HP;replace I:=kpA F (by first|exact ne_i5_i4|exact A.symm) I;replace E:HP i4=some (fQ (bY cF)):=upS F;clear F;simp only[go_sem,Y,X,T,U,O,J,M,E,I];refine aN I (by simp) ?_;generalize F:aI _ i5 _=HP;replace E:=kpA F (by first|exact A|exact ne_i5_i4.symm) E;replace I:HP i5=some (mZ bJ):=upS F;clear F;simp only[go_sem,Y,X,T,U,O,J,M,I,E];rw[e];exact .refl _
   ·simp only[go_sem,Y,X,T,U,O,J,M];exact⟨⟨1,by decide,rfl,E,I,fun _=>by simpa using hb,fun h=>absurd h (by decide),fun h=>absurd h (by decide)⟩,by simp only[aF];decide⟩
  ·simp only[go_sem,Y,X,T,U,O,J,M];refine⟨by decide,PC.use (abL x r (by omega) an (Yc (q1 (by decide)))) ?_⟩;simp only[go_sem,Y,X,T,U,O,J,M];refine aA (fun hb=>?_) (fun hb=>?_)
   ·have e:dR x r=(cF,bJ,F3 x r):=by unfold dR;rw[if_neg c1,q1 (by decide),if_neg (by decide),if_pos hb]
    simp only[go_sem,Y,X,T,U,O,J,M];refine aN E (by simp) ?_;generalize F:aI _ i4 _=HP;replace I:=kpA F (by first|exact ne_i5_i4|exact A.symm) I;replace E:HP i4=some (fQ (bY cF)):=upS F;clear F;simp only[go_sem,Y,X,T,U,O,J,M,E,I];refine aN I (by simp) ?_;generalize F:aI _ i5 _=HP;replace E:=kpA F (by first|exact A|exact ne_i5_i4.symm) E;replace I:HP i5=some (mZ bJ):=upS F;clear F;simp only[go_sem,Y,X,T,U,O,J,M,I,E];rw[e];exact .refl _
   ·simp only[go_sem,Y,X,T,U,O,J,M];exact⟨⟨2,by decide,rfl,E,I,fun _=>q1 (by decide),fun _=>by simpa using hb,fun h=>absurd h (by decide)⟩,by simp only[aF];decide⟩
  ·simp only[go_sem,Y,X,T,U,O,J,M];refine⟨by decide,PC.use (abP x r hx.load hr hx.apart hx.before) ?_⟩;simp only[go_sem,Y,X,T,U,O,J,M];refine aA (fun hb=>?_) (fun hb=>?_)
   ·have e:dR x r=(cF,bJ,Cm x r):=by unfold dR;rw[if_neg c1,q1 (by decide),if_neg (by decide),q2 (by decide),if_neg (by decide),if_pos hb]
    simp only[go_sem,Y,X,T,U,O,J,M];refine aN E (by simp) ?_;generalize F:aI _ i4 _=HP;replace I:=kpA F (by first|exact ne_i5_i4|exact A.symm) I;replace E:HP i4=some (fQ (bY cF)):=upS F;clear F;simp only[go_sem,Y,X,T,U,O,J,M,E,I];refine aN I (by simp) ?_;generalize F:aI _ i5 _=HP;replace E:=kpA F (by first|exact A|exact ne_i5_i4.symm) E;replace I:HP i5=some (mZ bJ):=upS F;clear F;simp only[go_sem,Y,X,T,U,O,J,M,I,E];rw[e];exact .refl _
   ·simp only[go_sem,Y,X,T,U,O,J,M];exact⟨⟨3,by decide,rfl,E,I,fun _=>q1 (by decide),fun _=>q2 (by decide),fun _=>by simpa using hb⟩,by simp only[aF];decide⟩
 have ac:k=3:=by simp at ac;omega
 subst ac;have e1:=q1 (by decide);have e2:=q2 (by decide);have e3:=q3 (by decide);have eE:dR x r=if((oE x r).2 != 0)=true then(cF,bJ,(oE x r).2)else((oE x r).1,tB x r (oE x r).1,0):=by unfold dR;rw[if_neg c1,e1,e2,e3];rfl
 rw[eE];simp only[go_sem,Y,X,T,U];refine aP (agP x r hx.net (by omega)) ?_;simp only[go_sem,Y,X,T,U];refine aJ fun ae ab=>?_
 simp only[go_sem,Y,X,T,U,E,I];refine bP ab (by simp[eK]) fun HGi10 (R10:HGi10 ae=some (fQ (bY (oE x r).1))) N=>?_
 replace E:=N E;obtain⟨aa,E⟩:=E;replace I:=N I;obtain⟨Z,I⟩:=I;clear N ab;simp only[go_sem,Y,X,T,U,R10,E,I];refine aA (fun hb=>?_) (fun hb=>?_)
 ·rw[if_pos hb];simp only[go_sem,Y,X,T,U];refine aN E (by simp) ?_;generalize F:aI _ i4 _=HP;replace I:=kpA F (by first|exact ne_i5_i4|exact A.symm) I;replace E:HP i4=some (fQ (bY cF)):=upS F;clear F;simp only[go_sem,Y,X,T,U,E,I];refine aN I (by simp) ?_;generalize F:aI _ i5 _=HP;replace E:=kpA F (by first|exact A|exact ne_i5_i4.symm) E;replace I:HP i5=some (mZ bJ):=upS F;clear F;simp only[go_sem,Y,X,T,U,I,E];exact .refl _
 ·rw[if_neg (by rw[hb];simp)];simp only[go_sem,Y,X,T,U];refine gW [ae] [(0,true),(1,true),(2,true),(3,true),(4,true),(5,false),(6,false),(7,false)] (by simp[R10]) (by kernel_rfl) fun Hp Hr hp af _ ao=>?_
  have ai:=(hp ae (by simp)).trans R10;have P4:=(af i4 (by simp[aa])).trans E;have P5:=(af i5 (by simp[Z])).trans I;simp only[go_sem,Y,X,T,U,ai];refine⟨_,(abJ x r (oE x r).1 (by omega)).q rfl,?_⟩;simp only[go_sem,Y,X,T,U,ai];refine aN P4 (by simp[eK]) ?_;generalize F:aI _ i4 _=HP;replace P5:=kpA F (by first|exact ne_i5_i4|exact A.symm) P5;replace P4:HP i4=some (fQ (bY (oE x r).1)):=upS F;clear F;simp only[go_sem,Y,X,T,U,P4,P5];refine aN P5 (by simp[cC]) ?_;generalize F:aI _ i5 _=HP;replace P4:=kpA F (by first|exact A|exact ne_i5_i4.symm) P4;replace P5:HP i5=some (mZ (tB x r (oE x r).1)):=upS F;clear F;simp only[go_sem,Y,X,T,U,P5,P4];refine dX fun _ Hm _ ah=>?_
  have M4:=(ah i4 (by simp[aa])).trans P4;have M5:=(ah i5 (by simp[Z])).trans P5;simp only[go_sem,T,U,M4,M5];exact .refl _
def aeD(x:Instance)(r:Route)(Z:EvalB x)(Y:r.visits.length<=1048575):PC prog 24 [.agg (aE x),.agg (bI r)] (int (dR x r).2.2):=by
 refine pcd func24 rfl rfl ?_;simp only[go_sem];refine aP (BO x r Z Y) ?_;simp only[go_sem];refine eQ fun X T M (E:T X=some (fQ (bY cF))) N=>?_
 clear N M;simp only[go_sem,E];refine eQ fun U O J (F:O U=some (mZ bJ)) N=>?_
 replace E:=N E;obtain⟨A,E⟩:=E;clear N J;simp only[go_sem,F,E];refine aN E (by simp[eK]) ?_;generalize I:aI _ X _=HP;replace F:=kpA I (by first|exact ne_i6_i5|exact A.symm) F;replace E:HP X=some (fQ (bY (dR x r).1)):=upS I;clear I;simp only[go_sem,E,F];refine aN F (by simp[cC]) ?_;generalize I:aI _ U _=HP;replace E:=kpA I (by first|exact A|exact ne_i6_i5.symm) E;replace F:HP U=some (mZ (dR x r).2.1):=upS I;clear I;simp only[go_sem,F,E];exact .refl _
end Sq
namespace Sq
open Mv (bZ cK aS)
end Sq
namespace Sq
open Mv (aS)
open Mv (bZ cK aS)
section
variable{x:Instance}(h:Acc x)
include h
end
section
variable{x:Instance}(h:Acc x)
include h
end
end Sq
end Go.Proofs.YtgncgpcpbadfnaaGreatDoor
