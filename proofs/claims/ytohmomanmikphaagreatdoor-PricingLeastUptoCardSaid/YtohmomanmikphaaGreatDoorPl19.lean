import Derived.Test.YtohmomanmikphaaGreatDoorPl15
set_option linter.unusedSimpArgs false
set_option linter.unusedVariables false
set_option maxRecDepth 100000
section
namespace Go.Proofs.YtohmomanmikphaaGreatDoor.Sq
open Go.Proofs.Tryz(prog)
open Go.Aw Go.Aw.D Go.Proofs Ty
open Mv (cH dK NC.pc aZ)
def cU(l:Lab):List AV:=[int l.ready,int l.since,boo l.sheet.rest,int l.sheet.depart,.sl (l.sheet.times.map rF),int l.sheet.end_,int l.sheet.miles]
theorem kE(l:Lab):(cU l).length=7:=(rfl)
theorem Wm(l:Lab):(cU l).getD 0 .any=int l.ready:=(rfl)
theorem Xd(l:Lab):(cU l).getD 1 .any=int l.since:=(rfl)
theorem Xb(l:Lab):(cU l).getD 4 .any=.sl (l.sheet.times.map rF):=(rfl)
theorem YE(l:Lab):(cU l).getD 5 .any=int l.sheet.end_:=(rfl)
theorem Yc(l:Lab):((cU l).drop 2).take 5=cX l.sheet:=(rfl)
theorem Qk(l:Lab):(cU l).take 7=cU l:=(rfl)
def cV(x:Instance)(t:VType)(r:Route)(st:List Stop):List AV:=aG x++(bC t++(dL r++[.sl (st.map eI)]))
section
variable(x:Instance)(t:VType)(r:Route)(st:List Stop)
theorem DR:(cV x t r st).length=25:=(rfl)
theorem TK:(cV x t r st).getD 8 .any=int t.src:=(rfl)
theorem US:(cV x t r st).getD 9 .any=int t.dst:=(rfl)
theorem PO:(cV x t r st).getD 12 .any=int t.profile:=(rfl)
theorem QP:(cV x t r st).getD 13 .any=int t.start:=(rfl)
theorem O2:(cV x t r st).getD 14 .any=int t.close:=(rfl)
theorem OP:(cV x t r st).getD 15 .any=int t.drive:=(rfl)
theorem Qi:(cV x t r st).getD 16 .any=int t.rest:=(rfl)
theorem QA:(cV x t r st).getD 21 .any=int r.start:=(rfl)
theorem QC:(cV x t r st).getD 22 .any=.sl (r.rests.map eV):=(rfl)
theorem O9:(cV x t r st).getD 24 .any=.sl (st.map eI):=(rfl)
theorem Le:(cV x t r st).take 2=aY x.net:=(rfl)
theorem K9:(cV x t r st).take 25=cV x t r st:=(rfl)
end
attribute [go_sem] kE Wm Xd Xb YE Yc Qk DR TK US PO QP O2 OP Qi QA QC O9 Le K9
def Br:Lab:=⟨0,0,cP⟩
abbrev fQ(cs:List AV):Row:=⟨332,7,[cs]⟩
def tG(t:VType)(st:List Stop)(k:Nat):Int:=match k with
 | 0=>t.src
 | j+1=>(st.getD j kH).place
theorem LI(x:Instance)(t:VType)(r:Route)(st:List Stop):PC prog 319 [.agg (cV x t r st)] (.agg (cU (GG t r))):=by
 refine pcd Tryz.func319 ?_;unfold Tryz.f319;simp only[gdS];simp only[go_sem];refine aK fun F E=>?_
 generalize u:aI _ F _=HGi2;have I:HGi2 F=some (fQ (cU Br)):=by rw[<-u,aB];try rfl
 clear u E;simp only[go_sem,I];refine aJ I (by simp) ?_;simp only[go_sem];exact .refl _
theorem XC(x:Instance)(t:VType)(r:Route)(st:List Stop)(k:Nat)(I:k<=st.length)(J:st.length<=1048576):PC prog 375 [.agg (cV x t r st),int k] (int (tG t st k)):=by
 refine pcd Tryz.func375 ?_;unfold Tryz.f375;simp only[gdS];simp only[go_sem];refine aA (fun u=>?_) (fun u=>?_)
 . have:k=0:=by simp at u;exact u
   subst this;simp only[go_sem];exact .refl _
 . obtain⟨j,rfl⟩:∃j,k=j+1:=⟨k-1,by simp at u;omega⟩
   obtain⟨s,E⟩:=aN (show j<st.length by omega);have w:IntKind.i64.wrap (((j+1:Nat):Int)-1)=(j:Int):=by rw[aR (by omega)];omega
   have F:=inB (show j<st.length by omega);simp only[go_sem,w,aF E,F];exact cH (by unfold tG;simp[List.getD,E])
theorem RI:∀l:List Tm,cZ 4 (l.map rF)
 | []=>trivial
 | _::r=>⟨rfl,RI r⟩
theorem X7(l:List Tm)(O:l.length<=1048576):NC prog 374 [.sl (l.map rF)] (DN l) .os:=by
 refine ncb (fun t=>t == 2||t == 5) Tryz.func374 ?_;unfold Tryz.f374;simp only[gdS];simp only[go_sem];refine aK fun j M=>?_
 have R:=aB bY j (some (DN []));generalize aI bY j _=H at R |-;simp only[go_sem];refine⟨fun J=>?_,?_⟩
 . refine aA (fun _=>?_) (fun u=>by simp at u)
   simp only[go_sem];refine aK fun i F=>?_
   simp only[go_sem];refine⟨i,rfl,?_⟩;rw[aB,List.map_eq_nil_iff.1 J];rfl
 . refine aA (fun u=>by simp at u) (fun _=>?_)
   simp only[go_sem];refine aK fun i F=>?_
   simp only[go_sem];refine aX (aB _ _ _) ⟨rfl,rfl⟩ (RI _) (by simp only[Xaa,List.length_nil];omega) (fun I E=>?_);simp only[go_sem];refine⟨I,rfl,?_⟩;exact aB _ _ _
def lS(x:Instance)(t:VType)(st:List Stop)(k:Nat)(l:Lab)(b:Bool):Except Int Lab:=match st[k]? with
 | some s=>I5 x t (tG t st k) s k l b
 | none=>MR x t (tG t st k) k l b
def WX(e:Except Int Lab):Lab:=match e with| .ok l=>l| .error _=>Br
def rV:Instance:=⟨⟨[],[]⟩,[],[],[],[]⟩
def AF:VType:=⟨ByteArray.empty,0,0,0,[],0,0,0,0,0,0,0,0,0⟩
def AR:Route:=⟨0,0,[],[]⟩
abbrev vM(cs:List AV):Row:=⟨328,25,[cs]⟩
def kC(x:Instance)(l:List Visit):List Stop:=l.map fun v=>(iZ x v).1
def Aj(x:Instance)(r:Route):List AV×Bool:=if gA x r=true then match x.types[r.type.toNat]? with
 | some t=>(cV x t r (kC x r.visits),true)
 | none=>(cV rV AF AR [],false)
 else(cV rV AF AR [],false)
def D5(x:Instance)(t:VType)(r:Route)(j:Nat):List AV:=aG x++(bC t++(dL r++[.os j]))
theorem tk1{x:Instance}{l:List AV}:(aG x++l).take 6=aG x:=(rfl)
theorem dr1{x:Instance}{l:List AV}:(aG x++l).drop 20=l.drop 14:=(rfl)
theorem tk2{x:Instance}{t:VType}{l:List AV}:(aG x++bC t++l).take 20=aG x++bC t:=(rfl)
theorem dr2{x:Instance}{t:VType}{l:List AV}:(aG x++bC t++l).drop 24=l.drop 4:=(rfl)
abbrev BM(l:List Stop):Row:=⟨109,4,l.map eI⟩
theorem V6(x:Instance)(t:VType)(r:Route)(j:Nat):(D5 x t r j).getD 24 .any=.os j:=(rfl)
theorem UU(x:Instance)(t:VType)(r:Route)(j:Nat):(D5 x t r j).take 25=D5 x t r j:=(rfl)
theorem T6(x:Instance)(t:VType)(r:Route)(j:Nat):(D5 x t r j).length=25:=(rfl)
attribute [go_sem] V6 UU T6
theorem yX{H:aH}{l l':List AV}(h:ConvL H l l'):∀p:List AV,ConvL H (p++l) (p++l')
 | []=>h
 | a::p=>.cons a a _ _ (.refl a) (yX h p)
theorem TZ{H:aH}{x:Instance}{t:VType}{r:Route}{u:Nat}{st:List Stop}(R:H u=some (BM st)):ConvL H (D5 x t r u) (cV x t r st):=
 yX (yX (yX (.cons _ _ _ _ (.row _ _ _ R (ConvE.refl _)) .nil) _) _) _
theorem TM{x:Instance}{v:Visit}(h:(iZ x v).2=true):0<=(iZ x v).1.place/\fH x v=((iZ x v).1,0):=by
 refine⟨?_,by unfold fH;rw[if_pos h]⟩;unfold iZ at h |-;split at h
 . cases h
 . rename_i u
   rw[if_neg u];split at h
   . rename_i o E
     simpa using h
   . cases h
theorem PQ{x:Instance}{v:Visit}(h:(iZ x v).2=false):((fH x v).2 != 0)=true:=by
 unfold fH;rw[if_neg (by rw[h];simp)];show((if dW v.order x.orders.length=true then(2:Int)else 19) != 0)=true;split <;> rfl
theorem aiY(x:Instance)(r:Route)(hl:r.visits.length<=1048576):PC prog 318 [.agg (aG x),.agg (dL r)] (.tup [.agg (Aj x r).1,boo (Aj x r).2]):=by
 refine pcb (fun t=>t == 47) Tryz.func318 ?_;unfold Tryz.f318;simp only[gdS];simp only[go_sem];refine aK fun i4 ax=>?_
 generalize aq:aI _ i4 _=HGi4;have u:HGi4 i4=some (vM (cV rV AF AR [])):=by rw[<-aq,aB];try rfl
 clear aq ax;simp only[go_sem,u];refine aA (fun h1=>?_) (fun h1=>?_)
 . have hp:gA x r=false:=by unfold gA;rw[show(dW r.type x.types.length||decide (r.start<0)||decide (r.start>4096)||decide ((r.visits.length:Int)>20))=true from h1];rfl
   have e:Aj x r=(cV rV AF AR [],false):=by unfold Aj;rw[if_neg (by rw[hp];simp)]
   rw[e];simp only[go_sem];refine aJ u (by simp) ?_;simp only[go_sem];exact .refl _
 have hp:gA x r=r.visits.all fun v=>(iZ x v).2:=by unfold gA;rw[show(dW r.type x.types.length||decide (r.start<0)||decide (r.start>4096)||decide ((r.visits.length:Int)>20))=false from h1];rfl
 have az:0<=r.type/\r.type<(x.types.length:Int):=by
   simp only[Xak,decide_eq_false_iff_not]at h1;omega
 have a6:r.visits.length<=20:=by
   simp only[Xak,decide_eq_false_iff_not]at h1;omega
 obtain⟨t,ht⟩:=aN (show r.type.toNat<x.types.length by omega);simp only[go_sem];refine sM [(0,true),(1,true),(2,true),(3,true),(4,true),(5,true),(6,true),(7,true),(8,true),(9,false),(10,false)] (by kernel_rfl) ?_;simp only[go_sem,aF ht,az,Xac,tk1,dr1,tk2,dr2];refine aK fun i6 ar=>?_
 have E:i4≠i6:=aQ u ar;generalize am:aI _ i6 _=HGi6;replace u:=(congrFun am.symm i4).trans ((aD _ _ _ _ E).trans u);have F:HGi6 i6=some (vM (cV rV AF AR [])):=by rw[<-am,aB];try rfl
 clear am ar;simp only[go_sem,F,u];refine TP 24 109 4 ⟨rfl,by decide⟩ F ⟨by simp,rfl,Xaf _⟩ fun js au=>?_
 have Z:i6≠js:=aQ F au;have ac:i4≠js:=aQ u au;generalize hG:aI (aI HGi6 js _) i6 _=HG;replace u:=(congrFun hG.symm i4).trans ((aD _ _ _ _ E).trans ((aD _ _ _ _ ac).trans u));have Rs:HG js=some (BM []):=by rw[<-hG,aD _ _ _ _ Z.symm,aB];rfl
 replace F:HG i6=some (vM (D5 x t r js)):=by rw[<-hG,aB];rfl
 clear hG au;simp only[go_sem];refine⟨fun ρ H=>∃k:Nat,k<=r.visits.length/\ρ 2=.rp (aG x) 0/\ρ 4=.op i4 0 0/\ρ 6=.op i6 0 0/\ρ 49=.sl (r.visits.map aL)/\ρ 50=int r.visits.length/\ρ 51=int k/\H i4=some (vM (cV rV AF AR []))/\(∃js,H i6=some (vM (D5 x t r js))/\H js=some (BM (kC x (r.visits.take k))))/\∀v∈r.visits.take k,(iZ x v).2=true,fun ρ _=>r.visits.length-aT (ρ 51),⟨0,Xab _,by simp only[go_sem],by simp only[go_sem],by simp only[go_sem],by simp only[go_sem],by simp only[go_sem,Xaa],by simp only[go_sem];rfl,u,⟨js,F,Rs⟩,by simp⟩,?_⟩;clear u F Rs Z ac js;rintro ρ H ⟨k,hk,h2,h4,h6,M,J,I,u,⟨js,F,Rs⟩,hz⟩;have ak:js≠i6:=VF Rs F (by rfl);have aa:js≠i4:=VF Rs u (by rfl);simp only[go_sem,h2,h4,h6,M,J,I];refine aA (fun an=>?_) (fun av=>?_)
 . have an:=bD an
   obtain⟨v,hv⟩:=aN an;have b1:=inB an;simp only[go_sem,h2,h4,h6,M,J,I,aF hv,b1];refine aK fun i8 ai=>?_
   have T:i4≠i8:=aQ u ai;have ab:i6≠i8:=aQ F ai;have ad:js≠i8:=aQ Rs ai;simp only[go_sem,h2,h4,h6,M,J,I,u,F,Rs];refine aJ (aB _ _ _) (by simp[dG]) ?_;generalize ah:aI (aI _ i8 _) i8 _=HGi8;replace u:=(congrFun ah.symm i4).trans ((aD _ _ _ _ T).trans ((aD _ _ _ _ T).trans u));replace F:=(congrFun ah.symm i6).trans ((aD _ _ _ _ ab).trans ((aD _ _ _ _ ab).trans F));replace Rs:=(congrFun ah.symm js).trans ((aD _ _ _ _ ad).trans ((aD _ _ _ _ ad).trans Rs));have R8:HGi8 i8=some (⟨119,2,[aL v]⟩):=by rw[<-ah,aB];try rfl
   clear ah ai;simp only[go_sem,h2,h4,h6,M,J,I,R8,u,F,Rs];refine PC.use (SX x v) ?_;simp only[go_sem,h2,h4,h6,M,J,I];refine aK fun i9 aj=>?_
   have O:i4≠i9:=aQ u aj;have ae:i6≠i9:=aQ F aj;have af:js≠i9:=aQ Rs aj;simp only[go_sem,h2,h4,h6,M,J,I,u,F,Rs];refine aJ (aB _ _ _) (by simp[lD]) ?_;generalize ag:aI (aI _ i9 _) i9 _=HGi9;replace u:=(congrFun ag.symm i4).trans ((aD _ _ _ _ O).trans ((aD _ _ _ _ O).trans u));replace F:=(congrFun ag.symm i6).trans ((aD _ _ _ _ ae).trans ((aD _ _ _ _ ae).trans F));replace Rs:=(congrFun ag.symm js).trans ((aD _ _ _ _ af).trans ((aD _ _ _ _ af).trans Rs));have R9:HGi9 i9=some (yZ (fH x v).1):=by rw[<-ag,aB];try rfl
   clear ag aj;simp only[go_sem,h2,h4,h6,M,J,I,R9,u,F,Rs];cases ap:(iZ x v).2 with
   | false=>
     have a4:=PQ ap;refine aA (fun _=>?_) (fun hb=>by rw[a4]at hb;simp at hb);simp only[go_sem,h4];refine aJ u (by simp) ?_;simp only[go_sem,h4];have e:Aj x r=(cV rV AF AR [],false):=by unfold Aj;rw[if_neg (by rw[hp,vZ hv ap];simp)]
     rw[e];exact .refl _
   | true=>
     obtain⟨a5,ay⟩:=TM ap;rw[ay]at R9 |-;refine aA (fun hb=>by simp at hb;omega) (fun _=>?_);simp only[go_sem,h2,h4,h6,M,J,I,F,R9];refine aX Rs ⟨rfl,rfl⟩ ⟨rfl,trivial⟩ (by simp[kC];omega) (fun j' ao=>?_);have al:i6≠j':=aQ F ao;have aw:i4≠j':=aQ u ao;replace u:=dH (r':=⟨109,4,List.map eI (kC x (r.visits.take k))++[eI (iZ x v).1]⟩) u aa ao;replace F:=dH (r':=⟨109,4,List.map eI (kC x (r.visits.take k))++[eI (iZ x v).1]⟩) F ak ao;have a0:aI (aI HGi9 js none) j' (some (⟨109,4,List.map eI (kC x (r.visits.take k))++[eI (iZ x v).1]⟩:Row)) j'=some (BM (kC x (r.visits.take (k+1)))):=by
       rw[bP hv];unfold kC;rw[Xam];exact jU (l':=[(iZ x v).1]) rfl
     simp only[go_sem,h2,h4,h6,M,J,I];refine eM afP F ⟨by simp,rfl,by simp⟩ ?_;simp only[go_sem,h2,h4,h6,M,J,I,aP (show k<=4611686018427387904 by omega)];exact⟨⟨k+1,an,rfl,(aD _ _ _ _ E).trans u,⟨j',rfl,(aD _ _ _ _ al.symm).trans a0⟩,aZ (p:=fun v=>(iZ x v).2=true) hv ap hz⟩,by simp only[aE];omega⟩
 . have av:=bF hk av
   subst av;rw[Xag]at hz Rs;simp only[go_sem,h4,h6,F];refine aJ u ⟨by simp,rfl,Xaf _⟩ ?_;simp only[go_sem,h4];have e:Aj x r=(cV x t r (kC x r.visits),true):=by unfold Aj;rw[if_pos (by rw[hp];exact Xao.2 hz),ht]
   rw[e];exact .tup [.agg (D5 x t r js),boo true] _ (.cons _ _ _ _ (.agg _ _ (TZ ((aD _ _ _ _ aa).trans Rs))) (ConvL.refl _))
def iQ(rdy sin:Int)(sd:Sheet)(j:Nat):List AV:=[int rdy,int sin,boo sd.rest,int sd.depart,.os j,int sd.end_,int sd.miles]
theorem OR(a b s j):(iQ a b s j).length=7:=(rfl)
theorem Yb(a b s j):(iQ a b s j).getD 0 .any=int a:=(rfl)
theorem Xm(a b s j):(iQ a b s j).getD 1 .any=int b:=(rfl)
theorem Y1(a b s j):(iQ a b s j).getD 4 .any=.os j:=(rfl)
theorem Y7(a b s j):(iQ a b s j).getD 6 .any=int s.miles:=(rfl)
theorem Om(a b s j):(iQ a b s j).take 7=iQ a b s j:=(rfl)
attribute [go_sem] OR Yb Xm Y1 Y7 Om
theorem L9{H:aH}{j:Nat}{l:Lab}(R:H j=some (DN l.sheet.times)):ConvL H (iQ l.ready l.since l.sheet j) (cU l):=
 .cons _ _ _ _ (.refl _) (.cons _ _ _ _ (.refl _) (.cons _ _ _ _ (.refl _) (.cons _ _ _ _ (.refl _) (.cons _ _ _ _ (.row _ _ _ R (ConvE.refl _)) (ConvL.refl _)))))
theorem acG{l:List Tm}{j:Nat}{u:Tm}(h:l[j]?=some u)(b:Bool):(l.map rF).set j (oF ((l.map rF).getD j []) 3 [boo b])=(l.set j ⟨u.arrive,u.begin_,u.depart,b⟩).map rF:=by
 rw[aF h,List.map_set];rfl
theorem ahY{l:List Tm}{j:Nat}{u:Tm}(h:l[j]?=some u)(d:Int):(l.map rF).set j (oF ((l.map rF).getD j []) 2 [int d])=(l.set j ⟨u.arrive,u.begin_,d,u.rest⟩).map rF:=by
 rw[aF h,List.map_set];rfl
theorem VM(x:Instance)(t:VType)(r:Route)(st:List Stop)(l:Lab)(k:Nat)(b:Bool)(hn:NetOk x.net)(ap:st.length<=1048576)(hk:k<=st.length)(hl:l.sheet.times.length=k):
   PC prog 355 [.agg (cV x t r st),.agg (cU l),int k,boo b] (.tup [.agg (cU (WX (lS x t st k l b))),int (MZ (lS x t st k l b))]):=by
 refine pcd Tryz.func355 ?_;unfold Tryz.f355;simp only[gdS];simp only[go_sem];refine aK fun i8 al=>?_
 generalize aj:aI _ i8 _=HGi8;have T:HGi8 i8=some (fQ (cU Br)):=by rw[<-aj,aB];try rfl
 clear aj al;simp only[go_sem,T];refine dJ (by rfl) (by kernel_rfl) ?_;simp only[go_sem];refine bH (fun ab H'=>ab 2=int k/\ab 3=boo b/\ab 4=.rp (cV x t r st) 0/\ab 5=.rp (cU l) 0/\ab 8=.op i8 0 0/\ab 10=int (BD t l b)/\ab 11=int (Cy l b)/\H' i8=some (fQ (cU Br))) ?_ fun K hK=>aA (fun hb=>?_) (fun hb=>?_)
 rotate_left
 . simp only[go_sem]
   exact hK _ _ ⟨by simp only[go_sem],by simp only[go_sem],by simp only[go_sem],by simp only[go_sem],by simp only[go_sem],by simp only[go_sem];unfold BD;rw[if_pos hb];rfl,by simp only[go_sem];unfold Cy;rw[if_pos hb],T⟩
 . simp only[go_sem]
   exact hK _ _ ⟨by simp only[go_sem],by simp only[go_sem],by simp only[go_sem],by simp only[go_sem],by simp only[go_sem],by simp only[go_sem];unfold BD;rw[if_neg (by rw[hb];simp)],by simp only[go_sem];unfold Cy;rw[if_neg (by rw[hb];simp)],T⟩
 clear T;rintro ρ H ⟨h2,h3,h4,h5,h8,J,I,T⟩;simp only[go_sem,h2,h3,h4,h5,h8,J,I];refine aK fun O ah=>?_
 have F:i8≠O:=aQ T ah;simp only[go_sem,h2,h3,h4,h5,h8,J,I,T];refine aJ (aB _ _ _) (by simp[iU]) ?_;generalize af:aI (aI _ O _) O _=HGi12;replace T:=(congrFun af.symm i8).trans ((aD _ _ _ _ F).trans ((aD _ _ _ _ F).trans T));have E:HGi12 O=some (fQ ([int 0,int 0]++cX l.sheet)):=by rw[<-af,aB];try rfl
 clear af ah;simp only[go_sem,h2,h3,h4,h5,h8,J,I,E,T];refine NC.use (X7 l.sheet.times (by omega)) fun jt ak=>?_
 have aa:i8≠jt:=aQ T ak;have u:O≠jt:=aQ E ak;generalize hG:aI HGi12 jt _=HG;replace T:=(congrFun hG.symm i8).trans ((aD _ _ _ _ aa).trans T);replace E:=(congrFun hG.symm O).trans ((aD _ _ _ _ u).trans E);have Rt:HG jt=some (DN l.sheet.times):=by rw[<-hG,aB]
 clear hG ak;simp only[go_sem,h2,h3,h4,h5,h8,J,I,E];refine eM YF E ⟨by simp,rfl,by simp⟩ ?_;generalize M:aI _ O _=HP;replace T:=(congrFun M.symm i8).trans ((aD _ _ _ _ (by first|exact F|exact ne_i12_i8.symm)).trans T);replace Rt:=(congrFun M.symm jt).trans ((aD _ _ _ _ (by first|exact ne_jt_i12|exact u.symm)).trans Rt);replace E:HP O=some (fQ (iQ 0 0 l.sheet jt)):=by rw[<-M,aB];rfl
 clear M;simp only[go_sem,h2,h3,h4,h5,h8,J,I,E,T,Rt];refine bH (fun ab H'=>ab 2=int k/\ab 4=.rp (cV x t r st) 0/\ab 8=.op i8 0 0/\ab 10=int (BD t l b)/\ab 11=int (Cy l b)/\ab 12=.op O 0 0/\H' i8=some (fQ (cU Br))/\H' O=some (fQ (iQ 0 0 (eP l.sheet k b (BD t l b)) jt))/\H' jt=some (DN (eP l.sheet k b (BD t l b)).times)) ?_ fun K hK=>aA (fun hb=>?_) (fun hb=>?_)
 rotate_left
 . have h0:k=0:=by simp at hb;exact hb
   subst h0;simp only[go_sem,h2,h3,h4,h5,h8,J,I,E];refine eM so4 E ⟨by simp,rfl,by simp⟩ ?_;generalize M:aI _ O _=HP;replace T:=(congrFun M.symm i8).trans ((aD _ _ _ _ (by first|exact F|exact ne_i12_i8.symm)).trans T);replace Rt:=(congrFun M.symm jt).trans ((aD _ _ _ _ (by first|exact ne_jt_i12|exact u.symm)).trans Rt);replace E:HP O=some (fQ (iQ 0 0 { l.sheet with rest:=b } jt)):=by rw[<-M,aB];rfl
   clear M;simp only[go_sem,h2,h3,h4,h5,h8,J,I,E,T,Rt];refine eM so3 E ⟨by simp,rfl,by simp⟩ ?_;generalize M:aI _ O _=HP;replace T:=(congrFun M.symm i8).trans ((aD _ _ _ _ (by first|exact F|exact ne_i12_i8.symm)).trans T);replace Rt:=(congrFun M.symm jt).trans ((aD _ _ _ _ (by first|exact ne_jt_i12|exact u.symm)).trans Rt);replace E:HP O=some (fQ (iQ 0 0 { l.sheet with rest:=b,depart:=BD t l b } jt)):=by rw[<-M,aB];rfl
   clear M;simp only[go_sem,h2,h3,h4,h5,h8,J,I,E,T,Rt];exact hK _ _ ⟨by simp only[go_sem,h2],by simp only[go_sem,h4],by simp only[go_sem,h8],by simp only[go_sem,J],by simp only[go_sem,I],by simp only[go_sem],T,E,Rt⟩
 . obtain⟨j,rfl⟩:∃j,k=j+1:=⟨k-1,by simp at hb;omega⟩
   have w:IntKind.i64.wrap (((j+1:Nat):Int)-1)=(j:Int):=by rw[aR (by omega)];omega
   obtain⟨tm,an⟩:=aN (show j<l.sheet.times.length by omega);have b1:=inB (show j<l.sheet.times.length by omega);have eg:l.sheet.times.getD j Qj=tm:=by simp[List.getD,an]
   simp only[go_sem,h2,h3,h4,h5,h8,J,I,E,Rt,w];refine⟨⟨b1.1,b1.2⟩,eM so4 Rt ⟨by simpa using b1.2,rfl,by simp⟩ ?_⟩;generalize M:aI _ jt _=HP;replace T:=(congrFun M.symm i8).trans ((aD _ _ _ _ (by first|exact aa|exact ne_jt_i8.symm)).trans T);replace E:=(congrFun M.symm O).trans ((aD _ _ _ _ (by first|exact u|exact ne_jt_i12.symm)).trans E);replace Rt:HP jt=some (DN (l.sheet.times.set j ⟨tm.arrive,tm.begin_,tm.depart,b⟩)):=by rw[<-M,aB];exact congrArg (fun es=>some (⟨380,4,es⟩:Row)) (acG an b)
   clear M;simp only[go_sem,h2,h3,h4,h5,h8,J,I,w,Rt,T,E];have ao:(l.sheet.times.set j ⟨tm.arrive,tm.begin_,tm.depart,b⟩)[j]?=some ⟨tm.arrive,tm.begin_,tm.depart,b⟩:=by rw[List.getElem?_set_self (by omega)]
   refine⟨⟨b1.1,by rw[Xbh];exact b1.2⟩,eM so3 Rt ⟨by simpa using b1.2,rfl,by simp⟩ ?_⟩;generalize M:aI _ jt _=HP;replace T:=(congrFun M.symm i8).trans ((aD _ _ _ _ (by first|exact aa|exact ne_jt_i8.symm)).trans T);replace E:=(congrFun M.symm O).trans ((aD _ _ _ _ (by first|exact u|exact ne_jt_i12.symm)).trans E);replace Rt:HP jt=some (DN ((l.sheet.times.set j ⟨tm.arrive,tm.begin_,tm.depart,b⟩).set j ⟨tm.arrive,tm.begin_,BD t l b,b⟩)):=by rw[<-M,aB];exact congrArg (fun es=>some (⟨380,4,es⟩:Row)) (ahY ao _)
   clear M;simp only[go_sem,h2,h3,h4,h5,h8,J,I,w,Rt,T,E];refine hK _ _ ⟨by simp only[go_sem,h2],by simp only[go_sem,h4],by simp only[go_sem,h8],by simp only[go_sem,J],by simp only[go_sem,I],by simp only[go_sem],T,E,?_⟩;rw[Rt,List.set_set];simp only[eP,eg]
 clear T E Rt h2 h3 h4 h5 h8 J I;rintro ρ H ⟨h2,h4,h8,J,I,Z,T,E,Rt⟩;generalize hD:BD t l b=D at *;have M:=XC x t r st k hk ap;rcases Xar k st.length with am|aq
 . obtain⟨s,hs⟩:=aN am
   have b1:=inB am;have ad:((k:Int) == (st.length:Int))=false:=by simp;omega
   have eS:lS x t st k l b=I5 x t (tG t st k) s k l b:=by unfold lS;rw[hs]
   rw[eS];unfold I5 T2 Pd goL;simp only[hD];generalize hg:jN x.net t.profile (tG t st k) s.place D=g;simp only[go_sem,h2,h4,h8,J,I,Z,ad];refine aA (fun _=>?_) (fun hb=>by simp at hb);simp only[go_sem,h2,h4,h8,J,I,Z,aF hs,b1];refine dJ (by rfl) (by kernel_rfl) ?_;simp only[go_sem,h2,h4,h8,J,I,Z];refine⟨_,M.q rfl,?_⟩;simp only[go_sem,h2,h4,h8,J,I,Z];refine⟨_,(WS x.net t.profile (tG t st k) s.place D hn).q rfl,?_⟩;rw[hg];simp only[go_sem,h2,h4,h8,J,I,Z];refine aA (fun he=>?_) (fun he=>?_)
   . simp only[go_sem,h8]
     refine aJ T (by simp) ?_;simp only[go_sem,h8];rw[if_pos he];exact .refl _
   rw[if_neg (by rw[he];simp)];simp only[go_sem,h2,h4,h8,J,I,Z,E];refine eM so3 E ⟨by simp,rfl,by simp⟩ ?_;generalize M:aI _ O _=HP;replace T:=(congrFun M.symm i8).trans ((aD _ _ _ _ (by first|exact F|exact ne_i12_i8.symm)).trans T);replace Rt:=(congrFun M.symm jt).trans ((aD _ _ _ _ (by first|exact ne_jt_i12|exact u.symm)).trans Rt);replace E:HP O=some (fQ (iQ 0 0 { eP l.sheet k b D with miles:=W ((eP l.sheet k b D).miles+g.2.1) } jt)):=by rw[<-M,aB];rfl
   clear M;simp only[go_sem,h2,h4,h8,J,I,Z,E,T,Rt];refine eM so3 E ⟨by simp,rfl,by simp⟩ ?_;generalize M:aI _ O _=HP;replace T:=(congrFun M.symm i8).trans ((aD _ _ _ _ (by first|exact F|exact ne_i12_i8.symm)).trans T);replace Rt:=(congrFun M.symm jt).trans ((aD _ _ _ _ (by first|exact ne_jt_i12|exact u.symm)).trans Rt);replace E:HP O=some (fQ (iQ 0 (W (W (Cy l b+g.1)-D)) { eP l.sheet k b D with miles:=W ((eP l.sheet k b D).miles+g.2.1) } jt)):=by rw[<-M,aB];rfl
   clear M;simp only[go_sem,h2,h4,h8,J,I,Z,ad,E,T,Rt];refine aA (fun hb=>by simp at hb) (fun _=>?_);simp only[go_sem,h2,h4,h8,J,I,Z,aF hs,b1];refine PC.use (Sa s g.1) ?_;simp only[go_sem,h2,h4,h8,J,I,Z];by_cases hw:kF g.1 s.start>s.close
   . rw[if_pos hw,if_pos hw,if_pos hw]
     refine aA (fun _=>?_) (fun hb=>by simp at hb);simp only[go_sem,h8];refine aJ T (by simp) ?_;simp only[go_sem,h8];exact .refl _
   rw[if_neg hw,if_neg hw,if_neg hw];refine aA (fun hb=>by simp at hb) (fun _=>?_);simp only[go_sem,h2,h4,h8,J,I,Z,aF hs,b1];refine eM so3 E ⟨by simp,rfl,by simp⟩ ?_;generalize M:aI _ O _=HP;replace T:=(congrFun M.symm i8).trans ((aD _ _ _ _ (by first|exact F|exact ne_i12_i8.symm)).trans T);replace Rt:=(congrFun M.symm jt).trans ((aD _ _ _ _ (by first|exact ne_jt_i12|exact u.symm)).trans Rt);replace E:HP O=some (fQ (iQ (W (kF g.1 s.start+s.service)) (W (W (Cy l b+g.1)-D)) { eP l.sheet k b D with miles:=W ((eP l.sheet k b D).miles+g.2.1) } jt)):=by rw[<-M,aB];rfl
   clear M;simp only[go_sem,h2,h4,h8,J,I,Z,ad,E,T,Rt];refine aX Rt ⟨rfl,rfl⟩ ⟨rfl,trivial⟩ (by simp[(qI l.sheet k b D).2.2];omega) (fun j' ai=>?_);have ae:i8≠j':=aQ T ai;have ac:O≠j':=aQ E ai;generalize M:aI (aI _ jt none) j' _=HP;replace T:=(congrFun M.symm i8).trans ((aD _ _ _ _ ae).trans ((aD _ _ _ _ (by first|exact aa|exact ne_jt_i8.symm)).trans T));replace E:=(congrFun M.symm O).trans ((aD _ _ _ _ ac).trans ((aD _ _ _ _ (by first|exact u|exact ne_jt_i12.symm)).trans E));have ag:HP j'=some (DN ((eP l.sheet k b D).times++[⟨g.1,kF g.1 s.start,0,false⟩])):=by rw[<-M,aB];(show some (⟨380,4,_⟩:Row)=some ⟨380,4,_⟩;rw[Xam];rfl)
   clear M ai;simp only[go_sem,h2,h4,h8,J,I,Z,ad,ag,T,E];refine eM YF E ⟨by simp,rfl,by simp⟩ ?_;generalize M:aI _ O _=HP;replace T:=(congrFun M.symm i8).trans ((aD _ _ _ _ (by first|exact F|exact ne_i12_i8.symm)).trans T);replace ag:=(congrFun M.symm j').trans ((aD _ _ _ _ (by first|exact ne_j'_i12|exact ac.symm)).trans ag);replace E:HP O=some (fQ (iQ (W (kF g.1 s.start+s.service)) (W (W (Cy l b+g.1)-D)) { eP l.sheet k b D with miles:=W ((eP l.sheet k b D).miles+g.2.1),times:=(eP l.sheet k b D).times++[⟨g.1,kF g.1 s.start,0,false⟩] } j')):=by rw[<-M,aB];rfl
   clear M;simp only[go_sem,h2,h4,h8,J,I,Z,ad,E,T,ag];refine aA (fun hd=>?_) (fun hd=>?_)
   . rw[if_pos (by simpa using hd)]
     simp only[go_sem,h8];refine aJ T (by simp) ?_;simp only[go_sem,h8];exact .refl _
   . rw[if_neg (by simpa using hd)]
     simp only[go_sem,h8,Z,E];refine aJ T ⟨by simp,rfl,Xaf _⟩ ?_;simp only[go_sem,h8];have hm:=(qI l.sheet k b D).1;have:=fun H=>L9 (H:=H) (j:=j') (l:=⟨W (kF g.1 s.start+s.service),W (W (Cy l b+g.1)-D),{ eP l.sheet k b D with miles:=W ((eP l.sheet k b D).miles+g.2.1),times:=(eP l.sheet k b D).times++[⟨g.1,kF g.1 s.start,0,false⟩] }⟩)
     simp only[hm]at this |-;exact .tup [.agg (iQ _ _ _ j'),int 0] _ (.cons _ _ _ _ (.agg _ _ (this _ ((aD _ _ _ _ ae.symm).trans ag))) (ConvL.refl _))
 . have ar:k=st.length:=by omega
   have ad:((k:Int) == (st.length:Int))=true:=by simp;omega
   have eS:lS x t st k l b=MR x t (tG t st k) k l b:=by unfold lS;rw[List.getElem?_eq_none aq]
   rw[eS];unfold MR T2 Yr goL;simp only[hD];generalize hg:jN x.net t.profile (tG t st k) t.dst D=g;simp only[go_sem,h2,h4,h8,J,I,Z,ad];refine aA (fun hb=>by simp at hb) (fun _=>?_);simp only[go_sem,h2,h4,h8,J,I,Z];refine dJ (by rfl) (by kernel_rfl) ?_;simp only[go_sem,h2,h4,h8,J,I,Z];refine⟨_,M.q rfl,?_⟩;simp only[go_sem,h2,h4,h8,J,I,Z];refine⟨_,(WS x.net t.profile (tG t st k) t.dst D hn).q rfl,?_⟩;rw[hg];simp only[go_sem,h2,h4,h8,J,I,Z];refine aA (fun he=>?_) (fun he=>?_)
   . simp only[go_sem,h8]
     refine aJ T (by simp) ?_;simp only[go_sem,h8];rw[if_pos he];exact .refl _
   rw[if_neg (by rw[he];simp)];simp only[go_sem,h2,h4,h8,J,I,Z,E];refine eM so3 E ⟨by simp,rfl,by simp⟩ ?_;generalize M:aI _ O _=HP;replace T:=(congrFun M.symm i8).trans ((aD _ _ _ _ (by first|exact F|exact ne_i12_i8.symm)).trans T);replace Rt:=(congrFun M.symm jt).trans ((aD _ _ _ _ (by first|exact ne_jt_i12|exact u.symm)).trans Rt);replace E:HP O=some (fQ (iQ 0 0 { eP l.sheet k b D with miles:=W ((eP l.sheet k b D).miles+g.2.1) } jt)):=by rw[<-M,aB];rfl
   clear M;simp only[go_sem,h2,h4,h8,J,I,Z,E,T,Rt];refine eM so3 E ⟨by simp,rfl,by simp⟩ ?_;generalize M:aI _ O _=HP;replace T:=(congrFun M.symm i8).trans ((aD _ _ _ _ (by first|exact F|exact ne_i12_i8.symm)).trans T);replace Rt:=(congrFun M.symm jt).trans ((aD _ _ _ _ (by first|exact ne_jt_i12|exact u.symm)).trans Rt);replace E:HP O=some (fQ (iQ 0 (W (W (Cy l b+g.1)-D)) { eP l.sheet k b D with miles:=W ((eP l.sheet k b D).miles+g.2.1) } jt)):=by rw[<-M,aB];rfl
   clear M;simp only[go_sem,h2,h4,h8,J,I,Z,ad,E,T,Rt];refine aA (fun _=>?_) (fun hb=>by simp at hb);simp only[go_sem,h2,h4,h8,J,I,Z];refine aA (fun hw=>?_) (fun hw=>?_)
   . rw[if_pos (by simpa using hw)]
     simp only[go_sem,h8];refine aJ T (by simp) ?_;simp only[go_sem,h8];exact .refl _
   rw[if_neg (by simpa using hw)];simp only[go_sem,h2,h4,h8,J,I,Z,E];refine eM so3 E ⟨by simp,rfl,by simp⟩ ?_;generalize M:aI _ O _=HP;replace T:=(congrFun M.symm i8).trans ((aD _ _ _ _ (by first|exact F|exact ne_i12_i8.symm)).trans T);replace Rt:=(congrFun M.symm jt).trans ((aD _ _ _ _ (by first|exact ne_jt_i12|exact u.symm)).trans Rt);replace E:HP O=some (fQ (iQ 0 (W (W (Cy l b+g.1)-D)) { eP l.sheet k b D with miles:=W ((eP l.sheet k b D).miles+g.2.1),end_:=g.1 } jt)):=by rw[<-M,aB];rfl
   clear M;simp only[go_sem,h2,h4,h8,J,I,Z,ad,E,T,Rt];refine eM so3 E ⟨by simp,rfl,by simp⟩ ?_;generalize M:aI _ O _=HP;replace T:=(congrFun M.symm i8).trans ((aD _ _ _ _ (by first|exact F|exact ne_i12_i8.symm)).trans T);replace Rt:=(congrFun M.symm jt).trans ((aD _ _ _ _ (by first|exact ne_jt_i12|exact u.symm)).trans Rt);replace E:HP O=some (fQ (iQ g.1 (W (W (Cy l b+g.1)-D)) { eP l.sheet k b D with miles:=W ((eP l.sheet k b D).miles+g.2.1),end_:=g.1 } jt)):=by rw[<-M,aB];rfl
   clear M;simp only[go_sem,h2,h4,h8,J,I,Z,ad,E,T,Rt];refine aA (fun hd=>?_) (fun hd=>?_)
   . rw[if_pos (by simpa using hd)]
     simp only[go_sem,h8];refine aJ T (by simp) ?_;simp only[go_sem,h8];exact .refl _
   . rw[if_neg (by simpa using hd)]
     simp only[go_sem,h8,Z,E];refine aJ T ⟨by simp,rfl,Xaf _⟩ ?_;simp only[go_sem,h8];have hm:=(qI l.sheet k b D).1;have:=fun H=>L9 (H:=H) (j:=jt) (l:=⟨g.1,W (W (Cy l b+g.1)-D),{ eP l.sheet k b D with miles:=W ((eP l.sheet k b D).miles+g.2.1),end_:=g.1 }⟩)
     simp only[hm]at this |-;exact .tup [.agg (iQ _ _ _ jt),int 0] _ (.cons _ _ _ _ (.agg _ _ (this _ ((aD _ _ _ _ aa.symm).trans Rt))) (ConvL.refl _))
end Go.Proofs.YtohmomanmikphaaGreatDoor.Sq
end
section
namespace Go.Proofs.YtohmomanmikphaaGreatDoor.Sq
open Go.Proofs.Tryz(prog)
open Go.Aw Go.Aw.D Go.Proofs Ty
open Mv (cH dK NC.pc aZ)
def JF(x:Instance)(t:VType)(st:List Stop):List Bool->Nat->Lab->Except Int Lab
 | [],_,l=>.ok l
 | b::bs,k,l=>match lS x t st k l b with
   | .error e=>.error e
   | .ok l'=>JF x t st bs (k+1) l'
def Q8(e:Except Int Lab):Sheet:=match e with| .ok l=>l.sheet| .error _=>cP
theorem IB{x:Instance}{t:VType}{st:List Stop}{k:Nat}{l:Lab}{b:Bool}{e:Int}(h:lS x t st k l b=.error e):e≠0:=by
 unfold lS at h;split at h
 . exact UB h
 . exact UL h
theorem DW{x:Instance}{t:VType}{st:List Stop}{k:Nat}{l l':Lab}{b:Bool}(u:k<st.length)(E:l.sheet.times.length=k)(h:lS x t st k l b=.ok l'):l'.sheet.times.length=k+1:=by
 unfold lS at h;rw[List.getElem?_eq_getElem u]at h;simp only at h;unfold I5 at h;split at h
 . cases h
 . split at h
   . cases h
   . split at h
     . cases h
     . injection h with h
       subst h;simp[Pd,(qI _ _ _ _).2.2,E]
theorem ajS(x:Instance)(t:VType)(r:Route)(st:List Stop)(bs:List Bool)(hn:NetOk x.net)(ak:st.length<=1048575)(hb:bs.length<=st.length+1):
   PC prog 321 [.agg (cV x t r st),.sl (bs.map eV)] (.tup [.agg (cX (Q8 (JF x t st bs 0 (GG t r)))),int (MZ (JF x t st bs 0 (GG t r)))]):=by
 refine pcd Tryz.func321 ?_;unfold Tryz.f321;simp only[gdS];simp only[go_sem];refine aK fun i4 ah=>?_
 generalize ad:aI _ i4 _=HGi4;have I:HGi4 i4=some (iC (cX cP)):=by rw[<-ad,aB];try rfl
 clear ad ah;simp only[go_sem,I];refine PC.use (LI x t r st) ?_;simp only[go_sem];refine aK fun i6 ae=>?_
 have u:i4≠i6:=aQ I ae;simp only[go_sem,I];refine aJ (aB _ _ _) (by simp[kE]) ?_;generalize aa:aI (aI _ i6 _) i6 _=HGi6;replace I:=(congrFun aa.symm i4).trans ((aD _ _ _ _ u).trans ((aD _ _ _ _ u).trans I));have Z:HGi6 i6=some (fQ (cU (GG t r))):=by rw[<-aa,aB];try rfl
 clear aa ae;simp only[go_sem,Z,I];refine⟨fun ρ H=>∃(k:Nat) (l:Lab),k<=bs.length/\ρ 2=.rp (cV x t r st) 0/\ρ 4=.op i4 0 0/\ρ 6=.op i6 0 0/\ρ 13=.sl (bs.map eV)/\ρ 14=int bs.length/\ρ 15=int k/\H i4=some (iC (cX cP))/\H i6=some (fQ (cU l))/\(k<=st.length->l.sheet.times.length=k)/\JF x t st bs 0 (GG t r)=JF x t st (bs.drop k) k l,fun ρ _=>bs.length-aT (ρ 15),
   ⟨0,GG t r,Xab _,by simp only[go_sem],by simp only[go_sem],by simp only[go_sem],by simp only[go_sem],by simp only[go_sem,Xaa],by simp only[go_sem];rfl,I,Z,fun _=>rfl,rfl⟩,?_⟩
 clear I Z;rintro ρ H ⟨k,l,hk,h2,h4,h6,O,M,J,I,Z,hl,he⟩;simp only[go_sem,h2,h4,h6,O,M,J];refine aA (fun ab=>?_) (fun af=>?_)
 . have ab:=bD ab
   obtain⟨b,ag⟩:=aN ab;have b1:=inB ab;rw[LB ag,JF]at he;simp only[go_sem,h2,h4,h6,O,M,J,aF ag,b1,eV,Z];refine PC.use (VM x t r st l k b hn (by omega) (by omega) (hl (by omega))) ?_;simp only[go_sem,h2,h4,h6,O,M,J];refine aK fun i9 ac=>?_
   have E:i4≠i9:=aQ I ac;have F:i6≠i9:=aQ Z ac;simp only[go_sem,h2,h4,h6,O,M,J,I,Z];refine aJ (aB _ _ _) (by simp[kE]) ?_;generalize T:aI (aI _ i9 _) i9 _=HGi9;replace I:=(congrFun T.symm i4).trans ((aD _ _ _ _ E).trans ((aD _ _ _ _ E).trans I));replace Z:=(congrFun T.symm i6).trans ((aD _ _ _ _ F).trans ((aD _ _ _ _ F).trans Z));have R9:HGi9 i9=some (fQ (cU (WX (lS x t st k l b)))):=by rw[<-T,aB];try rfl
   clear T ac;simp only[go_sem,h2,h4,h6,O,M,J,R9,I,Z];cases hs:lS x t st k l b with
   | error e=>
     rw[hs]at he;have ai:=IB hs;refine aA (fun _=>?_) (fun hb=>by simp[MZ]at hb;exact absurd hb ai);simp only[go_sem,h4];refine aJ I (by simp) ?_;simp only[go_sem,h4];rw[he];exact .refl _
   | ok l'=>
     rw[hs]at he R9;refine aA (fun hb=>by simp[MZ]at hb) (fun _=>?_);simp only[go_sem,h2,h4,h6,O,M,J,R9];refine aJ Z (by simp[kE]) ?_;generalize hP:aI _ i6 _=HP;replace I:=(congrFun hP.symm i4).trans ((aD _ _ _ _ (by first|exact u|exact ne_i6_i4.symm)).trans I);replace Z:HP i6=some (fQ (cU l')):=by rw[<-hP,aB];rfl
     clear hP;simp only[go_sem,h2,h4,h6,O,M,J,aP (show k<=4611686018427387904 by omega),Z,I];exact⟨⟨k+1,l',ab,rfl,rfl,fun aj=>DW (by omega) (hl (by omega)) hs,he⟩,by simp only[aE];omega⟩
 . have af:=bF hk af
   subst af;rw[Xca,JF]at he;simp only[go_sem,h4,h6,Z];refine aJ I (by simp[iU]) ?_;simp only[go_sem,h4];rw[he];exact .refl _
theorem abY(l m:Lab):PC prog 358 [.agg (cU l),.agg (cU m)] (boo (Ar l m)):=by
 refine pcd Tryz.func358 ?_;unfold Tryz.f358;simp only[gdS];simp only[go_sem];exact .refl _
theorem aeR(l m:Lab):PC prog 357 [.agg (cU l),.rp (cU m) 0] (boo (Ar l m)):=by
 refine pcd Tryz.func357 ?_;unfold Tryz.f357;simp only[gdS];simp only[go_sem];refine PC.use (abY l m) ?_;simp only[go_sem];exact .refl _
theorem Jy{g:Nat}{cap:List AV}{p:Lab->Bool}(l:List Lab)(hl:l.length<=4000000000000000000)(T:aC prog g=true)(hg:∀v∈l,PC prog g (.agg (cU v)::cap) (boo (p v))):
   PC prog 376 [.sl (l.map cU),.fn g cap] (int (nA p l 0)):=by
 refine pcd Tryz.func376 ?_;unfold Tryz.f376;simp only[gdS];simp only[go_sem];refine⟨fun ρ _=>∃k:Nat,k<=l.length/\ρ 0=.sl (l.map cU)/\ρ 1=.fn g cap/\ρ 7=int l.length/\ρ 8=int k/\∀u∈l.take k,p u=false,fun ρ _=>l.length-aT (ρ 8),⟨0,Xab _,rfl,rfl,rfl,rfl,by simp⟩,?_⟩;rintro ρ H ⟨k,hk,h0,h1,M,I,O⟩;simp only[go_sem,h0,h1,M,I];refine aA (fun E=>?_) (fun F=>?_)
 . have E:=bD E
   obtain⟨u,J⟩:=aN E;have b1:=inB E;simp only[go_sem,h0,h1,M,I,aF J,b1,T];refine PC.use (hg u (Xae J)) ?_;simp only[go_sem,h0,h1,M,I];refine aA (fun Z=>?_) (fun Z=>?_)
   . simp only[go_sem,I]
     exact cH (by rw[nQ O J Z];omega)
   . simp only[go_sem,h0,h1,M,I,aP (show k<=4611686018427387904 by omega)]
     exact⟨⟨k+1,E,rfl,aZ (p:=fun u=>p u=false) J Z O⟩,by simp only[aE];omega⟩
 . have F:=bF hk F
   subst F;rw[Xag]at O;simp only[go_sem];exact cH (by rw[lM O])
theorem Ee{g:Nat}{cap:List AV}{p:Lab->Bool}(l:List Lab)(F:l.length<=4000000000000000000)(u:aC prog g=true)(E:∀v∈l,PC prog g (.agg (cU v)::cap) (boo (p v))):
   PC prog 356 [.sl (l.map cU),.fn g cap] (boo (l.any p)):=by
 refine pcd Tryz.func356 ?_;unfold Tryz.f356;simp only[gdS];simp only[go_sem];refine PC.use (Jy l F u E) ?_;simp only[go_sem];exact dK (pP l 0 (Xch _))
def nC(x:Instance)(t:VType)(st:List Stop)(k:Nat)(out:List Lab)(l:Lab)(bs:List Bool):List Lab:=(bs.map fun b=>lS x t st k l b).foldl GJ out
def Ss(x:Instance)(t:VType)(r:Route)(st:List Stop)(ls:List Lab)(k:Nat):List Lab:=ls.foldl (fun out l=>nC x t st k out l (kK r.rests k)) []
theorem Y0(out:List Lab)(e:Except Int Lab):(GJ out e).length<=out.length+1:=by
 unfold GJ;split
 . omega
 . split
   . omega
   . simp
theorem DV(f:List Bool)(k:Nat):(kK f k).length<=2:=by unfold kK;split <;> simp
theorem CB(x:Instance)(t:VType)(st:List Stop)(k:Nat)(l:Lab):∀(bs:List Bool) (out:List Lab),(nC x t st k out l bs).length<=out.length+bs.length
 | [],out=>by simp[nC]
 | b::bs,out=>by
   have:=CB x t st k l bs (GJ out (lS x t st k l b));have u:=Y0 out (lS x t st k l b);simp only[nC,Xav,List.foldl_cons,Xad]at this |-;omega
theorem C9(x:Instance)(t:VType)(r:Route)(st:List Stop)(k:Nat):∀(u:List Lab) (out:List Lab),(u.foldl (fun out l=>nC x t st k out l (kK r.rests k)) out).length<=out.length+2*u.length
 | [],out=>by simp
 | l::u,out=>by
   have:=C9 x t r st k u (nC x t st k out l (kK r.rests k));have E:=CB x t st k l (kK r.rests k) out;have F:=DV r.rests k;simp only[List.foldl_cons,Xad]at this |-;omega
abbrev SM(l:List Lab):Row:=⟨332,7,l.map cU⟩
theorem Gh:∀l:List Lab,cZ 7 (l.map cU)
 | []=>trivial
 | _::r=>⟨rfl,Gh r⟩
theorem FH:∀l:List Bool,cZ 1 (l.map eV)
 | []=>trivial
 | _::r=>⟨rfl,FH r⟩
theorem Qn{x:Instance}{t:VType}{st:List Stop}{k m:Nat}{out:List Lab}{l:Lab}{bs:List Bool}{b:Bool}(h:bs[m]?=some b):nC x t st k out l (bs.take (m+1))=GJ (nC x t st k out l (bs.take m)) (lS x t st k l b):=by
 unfold nC;rw[bP h,Xam,List.foldl_append];rfl
theorem ajL(x:Instance)(t:VType)(r:Route)(st:List Stop)(ls:List Lab)(k:Nat)(hn:NetOk x.net)(a7:st.length<=1048575)(hk:k<=st.length)(a8:ls.length<=4194304)(hl:∀l∈ls,l.sheet.times.length=k):
   PC prog 320 [.agg (cV x t r st),.sl (ls.map cU),int k] (.sl ((Ss x t r st ls k).map cU)):=by
 refine pcb (fun t=>t == 8) Tryz.func320 ?_;unfold Tryz.f320;simp only[gdS];simp only[go_sem];refine bH (fun ap H'=>ap 1=.sl (ls.map cU)/\ap 2=int k/\ap 3=.rp (cV x t r st) 0/\ap 7=.sl ((kK r.rests k).map eV)) ?_ fun K hK=>aA (fun hb=>?_) (fun hb=>?_)
 rotate_left
 . have hb:k<r.rests.length:=by simp at hb;omega
   simp only[go_sem,aP (show k<=4611686018427387904 by omega)];refine⟨⟨by omega,FH _⟩,hK _ _ ⟨by simp only[go_sem],by simp only[go_sem],by simp only[go_sem],?_⟩⟩;simp only[go_sem];have:kK r.rests k=(r.rests.take (k+1)).drop k:=by
     obtain⟨c,hc⟩:=aN hb;unfold kK;rw[if_pos hb,bP hc,List.drop_append_of_le_length (by simp;omega),Xby (by simp;omega)];simp[List.getD,hc]
   rw[this,List.map_drop,List.map_take]
 . have hb:¬k<r.rests.length:=by simp at hb;omega
   simp only[go_sem];refine hK _ _ ⟨by simp only[go_sem],by simp only[go_sem],by simp only[go_sem],?_⟩;simp only[go_sem];unfold kK;rw[if_neg hb];rfl
 rintro ρ H ⟨h1,Z,O,h7⟩;simp only[go_sem,h1,Z,O,h7];refine aK fun j0 az=>?_
 simp only[go_sem,h1,Z,O,h7];have a4:=DV r.rests k;generalize hC:kK r.rests k=cs at *;refine⟨fun ρ H=>∃(n:Nat) (j:Nat),n<=ls.length/\ρ 2=int k/\ρ 3=.rp (cV x t r st) 0/\ρ 7=.sl (cs.map eV)/\ρ 29=.sl (ls.map cU)/\ρ 30=int ls.length/\ρ 31=int n/\ρ 8=.os j/\H j=some (SM ((ls.take n).foldl (fun out l=>nC x t st k out l cs) [])),fun ρ _=>ls.length-aT (ρ 31),
   ⟨0,j0,Xab _,by simp only[go_sem,Z],by simp only[go_sem,O],by simp only[go_sem,h7],by simp only[go_sem],by simp only[go_sem,Xaa],by simp only[go_sem];rfl,by simp only[go_sem],aB _ _ _⟩,?_⟩
 clear h1 Z O h7 az j0;rintro ρ H ⟨n,j,ay,Z,O,h7,F,E,I,h8,R⟩;simp only[go_sem,Z,O,h7,F,E,I,h8];refine aA (fun ak=>?_) (fun ar=>?_)
 . have ak:=bD ak
   obtain⟨l,aq⟩:=aN ak;have b1:=inB ak;have a0:=hl l (Xae aq);have a5:((ls.take n).foldl (fun out l=>nC x t st k out l cs) []).length<=2*n:=by
     have:=C9 x t r st k (ls.take n) [];rw[hC]at this;simp at this;omega
   have au:(ls.take (n+1)).foldl (fun out l=>nC x t st k out l cs) []=nC x t st k ((ls.take n).foldl (fun out l=>nC x t st k out l cs) []) l cs:=iJ aq;generalize hO:(ls.take n).foldl (fun out l=>nC x t st k out l cs) []=out0 at *;simp only[go_sem,Z,O,h7,F,E,I,h8,aF aq,b1];refine aK fun ae al=>?_
   have u:j≠ae:=aQ R al;simp only[go_sem,Z,O,h7,F,E,I,h8,R];refine aJ (aB _ _ _) (by simp[kE]) ?_;generalize ai:aI (aI _ ae _) ae _=HGi10;replace R:=(congrFun ai.symm j).trans ((aD _ _ _ _ u).trans ((aD _ _ _ _ u).trans R));have J:HGi10 ae=some (fQ (cU l)):=by rw[<-ai,aB];try rfl
   clear ai al;simp only[go_sem,Z,O,h7,F,E,I,h8,J,R];refine⟨fun ρ H=>∃(m:Nat) (j:Nat),m<=cs.length/\ρ 2=int k/\ρ 3=.rp (cV x t r st) 0/\ρ 7=.sl (cs.map eV)/\ρ 10=.op ae 0 0/\ρ 29=.sl (ls.map cU)/\ρ 30=int ls.length/\ρ 31=int n/\ρ 35=.sl (cs.map eV)/\ρ 36=int cs.length/\ρ 37=int m/\ρ 8=.os j/\j≠ae/\H ae=some (fQ (cU l))/\H j=some (SM (nC x t st k out0 l (cs.take m))),fun ρ _=>cs.length-aT (ρ 37),
     ⟨0,j,Xab _,by simp only[go_sem,Z],by simp only[go_sem,O],by simp only[go_sem,h7],by simp only[go_sem],by simp only[go_sem,F],by simp only[go_sem,E],by simp only[go_sem,I],by simp only[go_sem],by simp only[go_sem,Xaa],by simp only[go_sem];rfl,by simp only[go_sem,h8],u,J,R⟩,?_⟩
   clear Z O h7 F E I h8 R J u j;rintro ρ H ⟨m,j,hm,Z,O,h7,ad,F,E,I,ac,ab,aa,h8,u,J,R⟩;simp only[go_sem,Z,O,h7,ad,F,E,I,ac,ab,aa,h8];refine aA (fun T=>?_) (fun ao=>?_)
   . have T:=bD T
     obtain⟨b,av⟩:=aN T;have b2:=inB T;have a6:=CB x t st k l (cs.take m) out0;have hf:=Qn (x:=x) (t:=t) (st:=st) (k:=k) (out:=out0) (l:=l) av;have a9:(cs.take m).length<=2:=by simp;omega
     simp only[go_sem,Z,O,h7,ad,F,E,I,ac,ab,aa,h8,aF av,b2,eV,J];refine PC.use (VM x t r st l k b hn (by omega) hk a0) ?_;simp only[go_sem,Z,O,h7,ad,F,E,I,ac,ab,aa,h8];refine aK fun am aj=>?_
     have M:ae≠am:=aQ J aj;have af:j≠am:=aQ R aj;simp only[go_sem,Z,O,h7,ad,F,E,I,ac,ab,aa,h8,J,R];refine aJ (aB _ _ _) (by simp[kE]) ?_;generalize ag:aI (aI _ am _) am _=HGi13;replace J:=(congrFun ag.symm ae).trans ((aD _ _ _ _ M).trans ((aD _ _ _ _ M).trans J));replace R:=(congrFun ag.symm j).trans ((aD _ _ _ _ af).trans ((aD _ _ _ _ af).trans R));have an:HGi13 am=some (fQ (cU (WX (lS x t st k l b)))):=by rw[<-ag,aB];try rfl
     clear ag aj;simp only[go_sem,Z,O,h7,ad,F,E,I,ac,ab,aa,h8,an,J,R];generalize hF:nC x t st k out0 l (cs.take m)=out at *;cases hs:lS x t st k l b with
     | error e=>
       rw[hs]at hf an;have aw:(e == 0)=false:=by simpa using IB hs
       refine⟨boo false,fun hg=>by simp[gt,MZ,aw]at hg,?_⟩;simp only[go_sem,MZ,aw];refine aA (fun hb=>by simp at hb) (fun _=>?_);simp only[go_sem,Z,O,h7,ad,F,E,I,ac,ab,aa,h8,aP (show m<=4611686018427387904 by omega)];exact⟨⟨m+1,j,T,rfl,rfl,u,J,by rw[hf];exact R⟩,by simp only[aE];omega⟩
     | ok l'=>
       rw[hs]at hf an;refine⟨_,fun _=>.inl ⟨[.sl (out.map cU),.fn 357 [.rp (cU l') 0]],.cons _ _ _ _ (.row _ _ _ R (ConvE.refl _)) (.cons _ _ _ _ (.fn _ _ _ (.cons _ _ _ _ (.ptr _ _ _ _ _ an (by simp) (ConvL.refl _)) .nil)) .nil),Ee out (by omega) (by simp only[go_sem]) fun v _=>aeR v l',rfl⟩,?_⟩;simp only[go_sem,MZ,Z,O,h7,ad,F,E,I,ac,ab,aa,h8];refine aA (fun hb=>?_) (fun hb=>?_)
       . have hb:(out.any fun v=>Ar v l')=false:=by simpa using hb
         simp only[go_sem,Z,O,h7,ad,F,E,I,ac,ab,aa,h8,an];refine aX R ⟨rfl,rfl⟩ ⟨rfl,trivial⟩ (by simp only[Xaa,Xad,List.length_nil];omega) (fun j' ax=>?_);have ah:ae≠j':=aQ J ax;simp only[go_sem,Z,O,h7,ad,F,E,I,ac,ab,aa,h8,aP (show m<=4611686018427387904 by omega)];refine⟨⟨m+1,j',T,rfl,rfl,ah.symm,dH J u ax,?_⟩,by simp only[aE];omega⟩;have e1:GJ out (.ok l')=out++[l']:=by
           show(if(out.any fun v=>Ar v l')=true then out else out++[l'])=_;rw[if_neg (by rw[hb];simp)]
         rw[hf,e1];exact jU (l':=[l']) rfl
       . have hb:(out.any fun v=>Ar v l')=true:=by simpa using hb
         simp only[go_sem,Z,O,h7,ad,F,E,I,ac,ab,aa,h8,aP (show m<=4611686018427387904 by omega)];refine⟨⟨m+1,j,T,rfl,rfl,u,J,?_⟩,by simp only[aE];omega⟩;have e1:GJ out (.ok l')=out:=by
           show(if(out.any fun v=>Ar v l')=true then out else out++[l'])=_;rw[if_pos hb]
         rw[hf,e1];exact R
   . have ao:=bF hm ao
     subst ao;rw[Xag]at R;simp only[go_sem,Z,O,h7,F,E,I,h8,aP (show n<=4611686018427387904 by omega)];exact⟨⟨n+1,j,ak,rfl,rfl,by rw[au];exact R⟩,by simp only[aE];omega⟩
 . have ar:=bF ay ar
   subst ar;rw[Xag]at R;simp only[go_sem,h8];unfold Ss;rw[hC];exact .row _ _ _ R (ConvE.refl _)
def dpP(x:Instance)(t:VType)(r:Route)(st:List Stop):Nat->List Lab
 | 0=>[GG t r]
 | k+1=>Ss x t r st (dpP x t r st k) k
def Cf(b m:Lab):Lab:=if decide (m.sheet.end_<b.sheet.end_)=true then m else b
def XJ(x:Instance)(t:VType)(r:Route):Sheet×Int:=match dpP x t r (kC x r.visits) (r.visits.length+1)with
 | []=>(Q8 (JF x t (kC x r.visits) (Ch r) 0 (GG t r)),MZ (JF x t (kC x r.visits) (Ch r) 0 (GG t r)))
 | l0::ls=>((ls.foldl Cf l0).sheet,0)
def oE(x:Instance)(r:Route):Sheet×Int:=
 if(!gA x r||decide ((r.rests.length:Int)>(r.visits.length:Int)+1))=true then(cP,2)else match x.types[r.type.toNat]? with
 | some t=>XJ x t r
 | none=>(cP,2)
theorem Yi{out:List Lab}{e:Except Int Lab}{m:Lab}(h:m∈GJ out e):m∈out\/e=.ok m:=by
 unfold GJ at h;split at h
 . exact .inl h
 . rename_i l
   split at h
   . exact .inl h
   . rcases Xbe.1 h with h|h
     . exact .inl h
     . simp at h;exact .inr (by rw[h])
theorem Hh{x:Instance}{t:VType}{st:List Stop}{k:Nat}{l m:Lab}:∀(bs:List Bool) (out:List Lab),m∈nC x t st k out l bs->m∈out\/∃b,lS x t st k l b=.ok m
 | [],out,h=>.inl h
 | b::bs,out,h=>by
   rcases Hh bs (GJ out (lS x t st k l b)) h with h|h
   . rcases Yi h with h|h
     . exact .inl h
     . exact .inr ⟨b,h⟩
   . exact .inr h
theorem Ih{x:Instance}{t:VType}{r:Route}{st:List Stop}{k:Nat}{m:Lab}:∀(u:List Lab) (out:List Lab),m∈u.foldl (fun out l=>nC x t st k out l (kK r.rests k)) out->m∈out\/∃l∈u,∃b,lS x t st k l b=.ok m
 | [],out,h=>.inl h
 | l::u,out,h=>by
   rcases Ih u _ h with h|⟨l',E,b,F⟩
   . rcases Hh _ _ h with h|⟨b,F⟩
     . exact .inl h
     . exact .inr ⟨l,by simp,b,F⟩
   . exact .inr ⟨l',by simp[E],b,F⟩
theorem IQ{x:Instance}{t:VType}{r:Route}{st:List Stop}:∀(k:Nat),k<=st.length->∀l∈dpP x t r st k,l.sheet.times.length=k
 | 0,_,l,h=>by simp[dpP]at h;subst h;rfl
 | k+1,hk,l,h=>by
   rcases Ih _ _ h with h|⟨l',u,b,E⟩
   . simp at h
   . exact DW (by omega) (IQ k (by omega) l' u) E
theorem Sv(x:Instance)(t:VType)(r:Route)(st:List Stop):∀k:Nat,(dpP x t r st k).length<=2^k
 | 0=>by simp[dpP]
 | k+1=>by
   have h1:=C9 x t r st k (dpP x t r st k) [];have u:=Sv x t r st k;rw[Xbu];simp only[dpP,Ss]at h1 |-;simp at h1;omega
theorem QI(x:Instance)(r:Route):∃F t' r' u,Aj x r=(cV F t' r' u,gA x r)/\(gA x r=true->F=x/\r'=r/\u=kC x r.visits/\x.types[r.type.toNat]?=some t'):=by
 unfold Aj;cases I:gA x r with
 | false=>exact⟨_,_,_,_,by rw[if_neg (by simp)],fun h=>by simp at h⟩
 | true=>
   have:=zW I;obtain⟨t,E⟩:=aN (show r.type.toNat<x.types.length by omega);exact⟨x,t,r,kC x r.visits,by rw[if_pos rfl,E],fun _=>⟨rfl,rfl,rfl,E⟩⟩
theorem ahB(x:Instance)(r:Route)(hn:NetOk x.net)(hr:r.visits.length<=1048576):PC prog 275 [.agg (aG x),.agg (dL r)] (.tup [.agg (cX (oE x r).1),int (oE x r).2]):=by
 have w:IntKind.i64.wrap ((r.visits.length:Int)+1)=(r.visits.length:Int)+1:=aR (by omega);refine pcb (fun t=>t == 57) Tryz.func275 ?_;unfold Tryz.f275;simp only[gdS];simp only[go_sem];refine aK fun i4 a4=>?_
 generalize ap:aI _ i4 _=HGi4;have u:HGi4 i4=some (iC (cX cP)):=by rw[<-ap,aB];try rfl
 clear ap a4;simp only[go_sem,u];refine PC.use (aiY x r hr) ?_;simp only[go_sem];obtain⟨x',t',r',a7,a0,ax⟩:=QI x r;rw[a0];refine aK fun i6 aq=>?_
 have T:i4≠i6:=aQ u aq;simp only[go_sem,w,u];refine aJ (aB _ _ _) (by simp[DR]) ?_;generalize aj:aI (aI _ i6 _) i6 _=HGi6;replace u:=(congrFun aj.symm i4).trans ((aD _ _ _ _ T).trans ((aD _ _ _ _ T).trans u));have R6:HGi6 i6=some (vM (cV x' t' r' a7)):=by rw[<-aj,aB];try rfl
 clear aj aq;simp only[go_sem,w,R6,u];refine aA (fun h1=>?_) (fun h1=>?_)
 . simp only[go_sem]
   refine aJ u (by simp) ?_;simp only[go_sem];have e:oE x r=(cP,2):=by unfold oE;rw[if_pos h1]
   rw[e];exact .refl _
 have hp:gA x r=true:=by
   rw[Xak]at h1;simpa using h1.1
 have ar:r.rests.length<=r.visits.length+1:=by
   rw[Xak]at h1;have:=h1.2;simp at this;omega
 have bd:=zW hp;obtain⟨t,ht⟩:=aN (show r.type.toNat<x.types.length by omega);have a9:r.visits.length<=20:=by
   unfold gA at hp;simp only[Xap,Xbp,Xak,decide_eq_false_iff_not]at hp;omega
 have eB:oE x r=XJ x t r:=by unfold oE;rw[if_neg (by rw[h1];simp),ht]
 obtain⟨ex,er,es,am⟩:=ax hp;rw[ex,er,es]at R6;rw[ht]at am;injection am with am;rw[<-am]at R6;clear a0 ax ex er es am;rw[eB];have a8:(kC x r.visits).length=r.visits.length:=by simp[kC]
 have av:=Sv x t r (kC x r.visits);have a5:=IQ (x:=x) (t:=t) (r:=r) (st:=kC x r.visits);unfold XJ;generalize hS:kC x r.visits=st at *;simp only[go_sem,R6];refine PC.use (LI x t r st) ?_;simp only[go_sem];refine⟨fun ρ H=>∃k:Nat,k<=r.visits.length+1/\ρ 3=.rp (dL r) 0/\ρ 4=.op i4 0 0/\ρ 6=.op i6 0 0/\ρ 8=int ((r.visits.length:Int)+1)/\ρ 38=int ((r.visits.length:Int)+1)/\ρ 39=int k/\ρ 9=.sl ((dpP x t r st k).map cU)/\H i4=some (iC (cX cP))/\H i6=some (vM (cV x t r st)),fun ρ _=>r.visits.length+1-aT (ρ 39),
   ⟨0,Xab _,by simp only[go_sem],by simp only[go_sem],by simp only[go_sem],by simp only[go_sem],by simp only[go_sem],by simp only[go_sem];rfl,by simp only[go_sem];rfl,u,R6⟩,?_⟩
 clear u R6;rintro ρ H ⟨k,hk,h3,J,h6,h8,an,ao,h9,u,R6⟩;simp only[go_sem,h3,J,h6,h8,an,ao,h9];refine aA (fun aa=>?_) (fun ad=>?_)
 . have aa:k<=r.visits.length:=by simp at aa;omega
   simp only[go_sem,h3,J,h6,h8,an,ao,h9,R6];have bb:2^k<=2^20:=Xat (by decide) (by omega);have:=av k;refine PC.use (ajL x t r st (dpP x t r st k) k hn (by omega) (by omega) (by omega) (a5 k (by omega))) ?_;simp only[go_sem,h3,J,h6,h8,an,ao,aP (show k<=4611686018427387904 by omega)];exact⟨⟨k+1,by omega,rfl,rfl,u,R6⟩,by simp only[aE];omega⟩
 have ad:k=r.visits.length+1:=by simp at ad;omega
 subst ad;simp only[go_sem,h3,J,h6,h8,h9];cases hd:dpP x t r st (r.visits.length+1)with
 | nil=>
   rw[hd]at h9;refine aA (fun _=>?_) (fun hb=>by simp at hb);simp only[go_sem,h3,J,h6,h8,h9];refine⟨⟨by omega,by omega⟩,aK fun j hj=>?_⟩;simp only[go_sem,h3,J,h6,h8,h9];have a6:(((r.visits.length:Int)+1)).toNat=r.visits.length+1:=by omega
   refine aeD awF (aB _ _ _) (.inl ⟨rfl,rfl,rfl⟩) (.inl rfl) rfl (FH _) ?_;have al:=aQ u hj;have au:=aQ R6 hj;generalize hG:aI (aI H j _) j _=H1;have Rj:H1 j=some (abB (Ch r)):=by
     rw[<-hG,aB,a6];exact congrArg (fun es=>some (⟨4,1,es⟩:Row)) (Pv ar)
   replace u:=(congrFun hG.symm i4).trans (afD u hj);replace R6:=(congrFun hG.symm i6).trans (afD R6 hj);clear hG hj;simp only[go_sem,h3,J,h6,h8,h9,R6];refine C2 (by simp only[go_sem]) Rj fun Hr bc hr=>?_
   replace u:=(hr i4 al).trans u;simp only[go_sem,h3,J,h6,h8,h9];refine PC.use (ajS x t r st (Ch r) hn (by omega) (by rw[P3 ar,a8];exact Xaf _)) ?_;simp only[go_sem,h3,J,h6,h8,h9];refine aJ u (by simp[iU]) ?_;simp only[go_sem,J];exact .refl _
 | cons l0 ls=>
   rw[hd]at h9;have ba:=Gh (l0::ls);have ay:(l0::ls).length<=2^21:=by
     have:=av (r.visits.length+1);rw[hd]at this;exact Xaj this (Xat (by decide) (by omega))
   refine aA (fun hb=>by simp at hb;omega) (fun _=>?_);have b1:(0:Int)<=0/\(0:Int)<((l0::ls).length:Int):=⟨Xch _,by simp⟩;simp only[go_sem,h3,J,h6,h8,h9,aF (l:=l0::ls) (k:=0) (x:=l0) rfl,b1];refine⟨by omega,?_⟩;refine aK fun O ak=>?_
   have E:i4≠O:=aQ u ak;simp only[go_sem,h3,J,h6,h8,h9,u];refine aJ (aB _ _ _) (by simp[kE]) ?_;generalize af:aI (aI _ O _) O _=HGi12;replace u:=(congrFun af.symm i4).trans ((aD _ _ _ _ E).trans ((aD _ _ _ _ E).trans u));have F:HGi12 O=some (fQ (cU l0)):=by rw[<-af,aB];try rfl
   clear af ak;simp only[go_sem,h3,J,h6,h8,h9,F,u];refine⟨⟨by omega,Gh ls⟩,?_⟩;refine⟨fun ρ H=>∃(m:Nat),m<=ls.length/\ρ 4=.op i4 0 0/\ρ 12=.op O 0 0/\ρ 65=.sl (ls.map cU)/\ρ 66=int ls.length/\ρ 67=int m/\H i4=some (iC (cX cP))/\H O=some (fQ (cU ((ls.take m).foldl Cf l0))),fun ρ _=>ls.length-aT (ρ 67),
     ⟨0,Xab _,by simp only[go_sem,J],by simp only[go_sem],by simp only[go_sem],by simp only[go_sem,Xaa],by simp only[go_sem];rfl,u,F⟩,?_⟩
   clear h3 J h6 h8 h9 u F an ao R6;rintro ρ H ⟨m,hm,J,ab,ag,ac,ae,u,F⟩;simp only[go_sem,J,ab,ag,ac,ae];refine aA (fun aa=>?_) (fun ad=>?_)
   . have aa:=bD aa
     obtain⟨l,aw⟩:=aN aa;have b2:=inB aa;have hf:(ls.take (m+1)).foldl Cf l0=Cf ((ls.take m).foldl Cf l0) l:=iJ aw;generalize (ls.take m).foldl Cf l0=bl at *;simp only[go_sem,J,ab,ag,ac,ae,aF aw,b2];refine aK fun ai ah=>?_
     have M:i4≠ai:=aQ u ah;have I:O≠ai:=aQ F ah;simp only[go_sem,J,ab,ag,ac,ae,u,F];refine aJ (aB _ _ _) (by simp[kE]) ?_;generalize Z:aI (aI _ ai _) ai _=HGi14;replace u:=(congrFun Z.symm i4).trans ((aD _ _ _ _ M).trans ((aD _ _ _ _ M).trans u));replace F:=(congrFun Z.symm O).trans ((aD _ _ _ _ I).trans ((aD _ _ _ _ I).trans F));have az:HGi14 ai=some (fQ (cU l)):=by rw[<-Z,aB];try rfl
     clear Z ah;simp only[go_sem,J,ab,ag,ac,ae,az,u,F];refine aA (fun hb=>?_) (fun hb=>?_)
     . simp only[go_sem,J,ab,ag,ac,ae,az]
       refine aJ F (by simp[kE]) ?_;generalize hP:aI _ O _=HP;replace u:=(congrFun hP.symm i4).trans ((aD _ _ _ _ (by first|exact E|exact ne_i12_i4.symm)).trans u);replace F:HP O=some (fQ (cU l)):=by rw[<-hP,aB];rfl
       clear hP;simp only[go_sem,J,ab,ag,ac,ae,aP (show m<=4611686018427387904 by simp at ay;omega),F,u];exact⟨⟨m+1,aa,rfl,by rw[hf];unfold Cf;rw[if_pos hb]⟩,by simp only[aE];omega⟩
     . simp only[go_sem,J,ab,ag,ac,ae,aP (show m<=4611686018427387904 by simp at ay;omega)]
       exact⟨⟨m+1,aa,rfl,u,by rw[hf];unfold Cf;rw[if_neg (by rw[hb];simp)];exact F⟩,by simp only[aE];omega⟩
   . have ad:=bF hm ad
     subst ad;rw[Xag]at F;simp only[go_sem,J,ab,F];refine aJ u (by simp[iU]) ?_;simp only[go_sem,J];exact .refl _
def mG(p:Int×Int):List AV:=[int p.1,int p.2]
def tZ(m:List (Int×Int))(o:Int):Option Nat:=m.findIdx? fun p=>p.1 == o
def vO(m:List (Int×Int))(o:Int):Int:=((m.find? fun p=>p.1 == o).map (·.2)).getD 0
def El(m:List (Int×Int))(o v:Int):List (Int×Int):=match tZ m o with
 | some i=>m.set i (o,v)
 | none=>m++[(o,v)]
abbrev xN(m:List (Int×Int)):Row:=⟨0,2,m.map mG⟩
theorem uL(o:Int):∀(m:List (Int×Int)) (i:Nat),sQ (pM prog 3 (int o)) (m.map mG) i=some ((tZ m o).map (·+i))
 | [],i=>rfl
 | p::m,i=>by
   have ih:=uL o m (i+1);have E:pM prog 3 (int o) ((mG p).getD 0 .any)=some (o == p.1):=by
     show pM prog 3 (int o) (int p.1)=_;unfold pM;simp only[kk3];simp[tN]
   rw[Xav,sQ,E];unfold tZ at *;rw[List.findIdx?_cons];by_cases h:o=p.1
   . subst h;simp
   . have h1:(o == p.1)=false:=by simpa using h
     have u:(p.1 == o)=false:=by simpa using fun e=>h e.symm
     rw[h1,u];simp only[Xbb,if_false];rw[ih];cases m.findIdx? (fun p=>p.1 == o)with
     | none=>rfl
     | some j=>simp;omega
theorem mQ(o:Int)(m:List (Int×Int)):sQ (pM prog 3 (int o)) (m.map mG) 0=some (tZ m o):=by
 rw[uL];cases tZ m o <;> rfl
theorem oU(o:Int):mH prog 3 (int o)=true:=by
 simp only[mH,kk3];rfl
theorem BS(m:List (Int×Int))(o:Int):FC false (int 0) (m.map mG) (tZ m o)=int (vO m o):=by
 unfold FC vO tZ;induction m with
 | nil=>rfl
 | cons p m ih=>
   rw[List.findIdx?_cons,List.find?_cons];cases h:p.1 == o with
   | true=>simp[mG]
   | false=>
     cases u:m.findIdx? (fun p=>p.1 == o)with
     | none=>
       rw[u]at ih;simpa using ih
     | some j=>
       rw[u]at ih;simp at ih |-;exact ih
theorem BW(m:List (Int×Int))(o v:Int):TF (m.map mG) (tZ m o) (int o) (int v)=(El m o v).map mG:=by
 unfold TF El;cases tZ m o with
 | none=>simp[mG]
 | some i=>simp[List.map_set,mG]
theorem N9(m:List (Int×Int))(o v q:Int):vO (El m o v) q=if q=o then v else vO m q:=by
 unfold vO El tZ;induction m with
 | nil=>
   by_cases h:q=o
   . subst h;simp
   . have E:(o == q)=false:=by simpa using fun e=>h e.symm
     simp[h,E]
 | cons p m ih=>
   rw[List.findIdx?_cons];cases I:p.1 == o with
   | true=>
     have u:p.1=o:=by simpa using I
     simp only[if_true,List.set_cons_zero,List.find?_cons];by_cases h:q=o
     . subst h;simp
     . have E:(o == q)=false:=by simpa using fun e=>h e.symm
       have M:(p.1 == q)=false:=by rw[u];exact E
       simp[h,E,M]
   | false=>
     have u:p.1≠o:=by simpa using I
     cases J:m.findIdx? (fun p=>p.1 == o)with
     | none=>
       rw[J]at ih;simp only[Xbb,if_false,Option.map_none,List.cons_append,List.find?_cons];cases F:p.1 == q with
       | true=>
         have:q≠o:=fun e=>u ((by simpa using F:p.1=q).trans e)
         simp[this]
       | false=>simpa using ih
     | some j=>
       rw[J]at ih;simp only[Xbb,if_false,Option.map_some,List.set_cons_succ,List.find?_cons];cases F:p.1 == q with
       | true=>
         have:q≠o:=fun e=>u ((by simpa using F:p.1=q).trans e)
         simp[this]
       | false=>simpa using ih
theorem HK(a b:Int):PC prog 322 [int a,int b] (boo (a != -1&&a != b)):=by
 refine pcd Tryz.func322 ?_;unfold Tryz.f322;simp only[gdS];simp only[go_sem];exact .refl _
def MV(l:List Visit)(o:Int):Nat:=l.countP fun v=>v.order == o
theorem Tw{l:List Visit}{k:Nat}{v:Visit}(h:l[k]?=some v)(o:Int):MV (l.take (k+1)) o=MV (l.take k) o+if v.order=o then 1 else 0:=by
 unfold MV;rw[bP h,List.countP_append];by_cases e:v.order=o
 . simp[e]
 . have:(v.order == o)=false:=by simpa using e
   simp[e]
theorem aaC(l:List Visit)(k:Nat)(o:Int):MV (l.take k) o<=l.length:=Xaj List.countP_le_length (by rw[Xal];omega)
theorem OZ{l:List Visit}{k:Nat}{v:Visit}(h:l[k]?=some v):uK l k=decide (MV (l.take k) v.order=0):=by
 have O:=(List.getElem?_eq_some_iff.1 h).1;rw[Xax];simp only[decide_eq_true_eq];unfold uK MV;rw[List.countP_eq_zero,Xao];constructor
 . intro I u M
   obtain⟨i,F,rfl⟩:=List.getElem_of_mem M;have E:i<k:=by simp at F;omega
   have:=I i (Xbi.2 E);rw[uF h,uF (List.getElem?_eq_getElem (show i<l.length by omega))]at this;simpa using this
 . intro I i F
   have E:=Xbi.1 F;have J:i<l.length:=by omega
   rw[uF h,uF (List.getElem?_eq_getElem J)];have:=I l[i] (List.mem_take_iff_getElem.2 ⟨i,by omega,rfl⟩);simpa using this
theorem abS(x:Instance)(r:Route)(s:Sheet)(hr:r.visits.length<=1048576):PC prog 276 [.agg (aG x),.agg (dL r),.agg (cX s)] (.agg (fM (sU x r s))):=by
 refine pcd Tryz.func276 ?_;unfold Tryz.f276;simp only[gdS];simp only[go_sem];refine aK fun i6 a9=>?_
 generalize a5:aI _ i6 _=HGi6;have T:HGi6 i6=some (oG dF):=by rw[<-a5,aB];try rfl
 clear a5 a9;simp only[go_sem,T];refine aA (fun h1=>?_) (fun h1=>?_)
 . have h1:dW r.type x.types.length=true:=h1
   simp only[go_sem];refine aJ T (by simp) ?_;simp only[go_sem];have e:sU x r s=dF:=by unfold sU;rw[if_pos h1]
   rw[e];exact .refl _
 have h1:dW r.type x.types.length=false:=h1;have be:0<=r.type/\r.type<(x.types.length:Int):=by simp only[dW,Xak,decide_eq_false_iff_not]at h1;omega
 obtain⟨t,ht⟩:=aN (show r.type.toNat<x.types.length by omega);have e:sU x r s=X9 x r s t:=by unfold sU;rw[if_neg (by rw[h1];simp),ht]
 rw[e];simp only[go_sem,aF ht,be];refine aK fun i7 a4=>?_
 have am:i6≠i7:=aQ T a4;simp only[go_sem,T];refine aJ (aB _ _ _) (by simp[jZ]) ?_;generalize ay:aI (aI _ i7 _) i7 _=HGi7;replace T:=(congrFun ay.symm i6).trans ((aD _ _ _ _ am).trans ((aD _ _ _ _ am).trans T));have R7:HGi7 i7=some (kU t):=by rw[<-ay,aB];try rfl
 clear ay a4;simp only[go_sem,R7,T];refine⟨by decide,?_⟩;refine aK fun ab ax=>?_
 have Z:i6≠ab:=aQ T ax;simp only[go_sem,T];refine aJ (aB _ _ _) (by simp) ?_;generalize ar:aI (aI _ ab _) ab _=HGi10;replace T:=(congrFun ar.symm i6).trans ((aD _ _ _ _ Z).trans ((aD _ _ _ _ Z).trans T));have u:HGi10 ab=some (oG (CN t s)):=by rw[<-ar,aB];try rfl
 clear ar ax;simp only[go_sem,u,T];refine aK fun jm a6=>?_
 have al:=aQ T a6;have aa:=aQ u a6;generalize hG:aI HGi10 jm _=HM;have Rm:HM jm=some (xN []):=by rw[<-hG,aB];rfl
 replace T:=(congrFun hG.symm i6).trans ((aD _ _ _ _ al).trans T);replace u:=(congrFun hG.symm ab).trans ((aD _ _ _ _ aa).trans u);clear hG a6 R7;simp only[go_sem];refine ⟨fun ρ H => ∃ (k : Nat) (m : List (Int × Int)), k <= r.visits.length /\ ρ 3 = .rp (aG x) 0 /\ ρ 4 = .rp (dL r) 0 /\ ρ 6 = .op i6 0 0 /\ ρ 10 = .op ab 0 0 /\ ρ 11 = .om jm /\ ρ 59 = .sl (r.visits.map aL) /\ ρ 60 = int r.visits.length /\ ρ 61 = int k /\ H i6 = some (oG dF) /\
     H ab=some (oG (((List.range r.visits.length).take k).foldl (kO x r) (CN t s)))/\H jm=some (xN m)/\∀o,vO m o=(MV (r.visits.take k) o:Nat),fun ρ _=>r.visits.length-aT (ρ 61),
   ⟨0,[],Xab _,by simp only[go_sem],by simp only[go_sem],by simp only[go_sem],by simp only[go_sem],by simp only[go_sem],by simp only[go_sem],by simp only[go_sem,Xaa],by simp only[go_sem];rfl,T,u,Rm,fun o=>rfl⟩,?_⟩
 clear T u Rm;rintro ρ H ⟨k,m,hk,h3,h4,h6,E,F,M,I,J,T,u,Rm,hm⟩;simp only[go_sem,h3,h4,h6,E,F,M,I,J];refine aA (fun aq=>?_) (fun a8=>?_)
 . have aq:=bD aq
   obtain⟨v,hv⟩:=aN aq;have b1:=inB aq;have hs:((List.range r.visits.length).take (k+1)).foldl (kO x r) (CN t s)=kO x r (((List.range r.visits.length).take k).foldl (kO x r) (CN t s)) k:=by
     rw[bP (pA aq),List.foldl_append];rfl
   generalize hA:((List.range r.visits.length).take k).foldl (kO x r) (CN t s)=A at u hs;have ev:fX r.visits k=v.order:=uF hv;have ba:=OZ hv;have bg:=aaC r.visits k v.order;have bf:=Tw hv;have bd:=hm v.order;have wm:IntKind.i64.wrap (vO m v.order+1)=vO m v.order+1:=aR (by omega);simp only[go_sem,h3,h4,h6,E,F,M,I,J,aF hv,b1];refine aK fun au an=>?_
   have aj:i6≠au:=aQ T an;have ad:ab≠au:=aQ u an;have ac:jm≠au:=aQ Rm an;simp only[go_sem,h3,h4,h6,E,F,M,I,J,T,u,Rm];refine aJ (aB _ _ _) (by simp[dG]) ?_;generalize ag:aI (aI _ au _) au _=HGi13;replace T:=(congrFun ag.symm i6).trans ((aD _ _ _ _ aj).trans ((aD _ _ _ _ aj).trans T));replace u:=(congrFun ag.symm ab).trans ((aD _ _ _ _ ad).trans ((aD _ _ _ _ ad).trans u));replace Rm:=(congrFun ag.symm jm).trans ((aD _ _ _ _ ac).trans ((aD _ _ _ _ ac).trans Rm));have av:HGi13 au=some (⟨119,2,[aL v]⟩):=by rw[<-ag,aB];try rfl
   clear ag an;simp only[go_sem,h3,h4,h6,E,F,M,I,J,av,T,u,Rm];refine Cv Rm Fh (oU _) (mQ _ _) zv3 ?_;rw[BS];simp only[go_sem,h3,h4,h6,E,F,M,I,J,av,wm];refine JJ Rm Fh (oU _) (mQ _ _) ?_;rw[BW];generalize hP:aI _ jm _=HP;replace T:=(congrFun hP.symm i6).trans ((aD _ _ _ _ (by first|exact al|exact ne_jm_i6.symm)).trans T);replace u:=(congrFun hP.symm ab).trans ((aD _ _ _ _ (by first|exact aa|exact ne_jm_i10.symm)).trans u);replace av:=(congrFun hP.symm au).trans ((aD _ _ _ _ (by first|exact ne_i13_jm|exact ac.symm)).trans av);replace Rm:HP jm=some (xN (El m v.order (vO m v.order+1))):=by rw[<-hP,aB];skip
   clear hP;simp only[go_sem,h3,h4,h6,E,F,M,I,J,Rm,T,u,av];have a7:∀o,vO (El m v.order (vO m v.order+1)) o=(MV (r.visits.take (k+1)) o:Nat):=fun o=>by
     rw[N9,bf o,hm o,hm v.order];by_cases e:o=v.order
     . subst e;simp
     . rw[if_neg e,if_neg (fun h=>e h.symm)];rfl
   refine Cv Rm Fh (oU _) (mQ _ _) zv3 ?_;rw[BS,N9,if_pos rfl];have a0:(dW v.order x.orders.length||decide (vO m v.order+1>1))=(dW v.order x.orders.length|| !uK r.visits k):=by
     rw[ba,bd]
     congr 1
     rw[Xax];simp;omega
   simp only[go_sem,h3,h4,h6,E,F,M,I,J,av];refine aA (fun hb=>?_) (fun hb=>?_)
   . have az:(dW v.order x.orders.length|| !uK r.visits k)=true:=a0▸hb
     have e:kO x r A k=A:=by unfold kO;rw[ev,if_pos az]
     simp only[go_sem,h3,h4,h6,E,F,M,I,J,aP (show k<=4611686018427387904 by omega)];exact⟨⟨k+1,_,aq,rfl,T,by rw[hs,e];exact u,Rm,a7⟩,by simp only[aE];omega⟩
   have az:(dW v.order x.orders.length|| !uK r.visits k)=false:=a0▸hb;have bb:dW v.order x.orders.length=false:=(Xak.1 az).1;have bc:0<=v.order/\v.order<(x.orders.length:Int):=by
     simp only[dW,Xak,decide_eq_false_iff_not]at bb;omega
   obtain⟨o,ho⟩:=aN (show v.order.toNat<x.orders.length by omega);have e:kO x r A k=Fn o r.type (EZ o r.type A):=by
     unfold kO;rw[ev,if_neg (by rw[az];simp),ho]
   rw[e]at hs;simp only[go_sem,h3,h4,h6,E,F,M,I,J,av,aF ho,bc];refine aK fun ak ao=>?_
   have ah:i6≠ak:=aQ T ao;have O:ab≠ak:=aQ u ao;have ai:jm≠ak:=aQ Rm ao;simp only[go_sem,h3,h4,h6,E,F,M,I,J,T,u,Rm];refine aJ (aB _ _ _) (by simp[qG]) ?_;generalize af:aI (aI _ ak _) ak _=HGi14;replace T:=(congrFun af.symm i6).trans ((aD _ _ _ _ ah).trans ((aD _ _ _ _ ah).trans T));replace u:=(congrFun af.symm ab).trans ((aD _ _ _ _ O).trans ((aD _ _ _ _ O).trans u));replace Rm:=(congrFun af.symm jm).trans ((aD _ _ _ _ ai).trans ((aD _ _ _ _ ai).trans Rm));have ae:HGi14 ak=some (lG o):=by rw[<-af,aB];try rfl
   clear af ao;simp only[go_sem,h3,h4,h6,E,F,M,I,J,ae,T,u,Rm];refine PC.use (HK o.now r.type) ?_;simp only[go_sem,h3,h4,h6,E,F,M,I,J];refine bH (fun ap H'=>ap 3=.rp (aG x) 0/\ap 4=.rp (dL r) 0/\ap 6=.op i6 0 0/\ap 10=.op ab 0 0/\ap 11=.om jm/\ap 14=.op ak 0 0/\ap 59=.sl (r.visits.map aL)/\ap 60=int r.visits.length/\ap 61=int k/\H' i6=some (oG dF)/\H' ak=some (lG o)/\H' jm=some (xN (El m v.order (vO m v.order+1)))/\H' ab=some (oG (EZ o r.type A))) ?_ fun K hK=>aA (fun hb=>?_) (fun hb=>?_)
   rotate_left
   . simp only[go_sem,h3,h4,h6,E,F,M,I,J,u]
     refine eM so3 u ⟨by simp,rfl,by simp⟩ ?_;generalize hP:aI _ ab _=HP;replace T:=(congrFun hP.symm i6).trans ((aD _ _ _ _ (by first|exact Z|exact ne_i10_i6.symm)).trans T);replace ae:=(congrFun hP.symm ak).trans ((aD _ _ _ _ (by first|exact ne_i14_i10|exact O.symm)).trans ae);replace Rm:=(congrFun hP.symm jm).trans ((aD _ _ _ _ (by first|exact ne_jm_i10|exact aa.symm)).trans Rm);replace u:HP ab=some (oG (EZ o r.type A)):=by rw[<-hP,aB];(rw[EZ,if_pos (show Ol o r.type=true from hb)];rfl)
     clear hP;simp only[go_sem,h3,h4,h6,E,F,M,I,J,u,T,ae,Rm];exact hK _ _ ⟨by simp only[go_sem,h3],by simp only[go_sem,h4],by simp only[go_sem,h6],by simp only[go_sem,E],by simp only[go_sem,F],by simp only[go_sem],by simp only[go_sem,M],by simp only[go_sem,I],by simp only[go_sem,J],T,ae,Rm,u⟩
   . simp only[go_sem]
     refine hK _ _ ⟨by simp only[go_sem,h3],by simp only[go_sem,h4],by simp only[go_sem,h6],by simp only[go_sem,E],by simp only[go_sem,F],by simp only[go_sem],by simp only[go_sem,M],by simp only[go_sem,I],by simp only[go_sem,J],T,ae,Rm,?_⟩;rw[EZ,if_neg (by rw[show Ol o r.type=false from hb];simp)];exact u
   clear T u Rm ae h3 h4 h6 E F M I J;rintro ρ H ⟨h3,h4,h6,E,F,aw,M,I,J,T,ae,Rm,u⟩;simp only[go_sem,h3,h4,h6,E,F,aw,M,I,J,ae];refine PC.use (HK o.last r.type) ?_;simp only[go_sem,h3,h4,h6,E,F,aw,M,I,J];refine aA (fun hb=>?_) (fun hb=>?_)
   . simp only[go_sem,h3,h4,h6,E,F,aw,M,I,J,u]
     refine eM so3 u ⟨by simp,rfl,by simp⟩ ?_;generalize hP:aI _ ab _=HP;replace T:=(congrFun hP.symm i6).trans ((aD _ _ _ _ (by first|exact Z|exact ne_i10_i6.symm)).trans T);replace ae:=(congrFun hP.symm ak).trans ((aD _ _ _ _ (by first|exact ne_i14_i10|exact O.symm)).trans ae);replace Rm:=(congrFun hP.symm jm).trans ((aD _ _ _ _ (by first|exact ne_jm_i10|exact aa.symm)).trans Rm);replace u:HP ab=some (oG (Fn o r.type (EZ o r.type A))):=by rw[<-hP,aB];(rw[Fn,if_pos (show O1 o r.type=true from hb)];rfl)
     clear hP;simp only[go_sem,h3,h4,h6,E,F,aw,M,I,J,aP (show k<=4611686018427387904 by omega),u,T,ae,Rm];exact⟨⟨k+1,El m v.order (vO m v.order+1),aq,rfl,by rw[hs],rfl,a7⟩,by simp only[aE];omega⟩
   . simp only[go_sem,h3,h4,h6,E,F,aw,M,I,J,aP (show k<=4611686018427387904 by omega)]
     exact⟨⟨k+1,_,aq,rfl,T,by rw[hs,Fn,if_neg (by rw[show O1 o r.type=false from hb];simp)];exact u,Rm,a7⟩,by simp only[aE];omega⟩
 . have a8:=bF hk a8
   subst a8;rw[Xan (by simp)]at u;simp only[go_sem,h6,E,u];refine aJ T (by simp[nG]) ?_;simp only[go_sem,h6];exact .refl _
def FD(x:Instance)(r:Route)(v:Visit):Bool:=match x.types[r.type.toNat]?,x.orders[v.order.toNat]? with
 | some t,some o=>uD t.skills o.skills
 | _,_=>false
def FI(x:Instance)(r:Route):Int:=if(r.visits.any fun v=> !FD x r v)=true then 18 else 0
theorem abJ(x:Instance)(r:Route)(hr:r.visits.length<=1048576)(ac:0<=r.type/\r.type<(x.types.length:Int))(ab:∀v∈r.visits,0<=v.order/\v.order<(x.orders.length:Int)):
   PC prog 273 [.agg (aG x),.agg (dL r)] (int (FI x r)):=by
 obtain⟨t,ht⟩:=aN (show r.type.toNat<x.types.length by omega);refine pcd Tryz.func273 ?_;unfold Tryz.f273;simp only[gdS];simp only[go_sem];refine⟨fun ρ _=>∃k:Nat,k<=r.visits.length/\ρ 2=.rp (aG x) 0/\ρ 3=.rp (dL r) 0/\ρ 8=.sl (r.visits.map aL)/\ρ 9=int r.visits.length/\ρ 10=int k/\∀v∈r.visits.take k,(!FD x r v)=false,fun ρ _=>r.visits.length-aT (ρ 10),⟨0,Xab _,rfl,rfl,rfl,by simp only[go_sem,Xaa],rfl,by simp⟩,?_⟩;rintro ρ H ⟨k,hk,M,I,O,J,u,hz⟩;simp only[go_sem,M,I,O,J,u];refine aA (fun E=>?_) (fun T=>?_)
 . have E:=bD E
   obtain⟨v,hv⟩:=aN E;have b1:=inB E;have ad:=ab v (Xae hv);obtain⟨o,ho⟩:=aN (show v.order.toNat<x.orders.length by omega);have es:FD x r v=uD t.skills o.skills:=by unfold FD;rw[ht,ho]
   simp only[go_sem,M,I,O,J,u,aF hv,b1];refine aK fun Z aa=>?_
   simp only[go_sem,M,I,O,J,u];refine aJ (aB _ _ _) (by simp[dG]) ?_;generalize F:aI (aI _ Z _) Z _=HGi6;have R6:HGi6 Z=some (⟨119,2,[aL v]⟩):=by rw[<-F,aB];try rfl
   clear F aa;simp only[go_sem,M,I,O,J,u,R6];refine fE [Z] [(0,true),(1,true),(2,true),(3,true),(4,true),(5,true),(6,true),(7,true),(8,true),(9,true),(10,true),(11,true),(12,true),(13,true),(14,true)] (by simp[R6]) (by kernel_rfl) fun Hp Hr hp af _ ae=>?_
   have P6:=(hp Z (by simp)).trans R6;simp only[go_sem,M,I,O,J,u,P6,aF ht,ac,aF ho,ad];refine⟨_,(ahA t o.skills).q rfl,?_⟩;simp only[go_sem,M,I,O,J,u];refine fI fun _ Hm _ _=>?_
   simp only[go_sem,M,I,O,J,u];refine aA (fun hb=>?_) (fun hb=>?_)
   . simp only[go_sem]
     exact cH (by unfold FI;rw[if_pos (Xbk.2 ⟨v,Xae hv,by rw[es];exact hb⟩)])
   . simp only[go_sem,M,I,O,J,u,aP (show k<=4611686018427387904 by omega)]
     exact⟨⟨k+1,E,rfl,aZ (p:=fun v=>(!FD x r v)=false) hv (by rw[es];exact hb) hz⟩,by simp only[aE];omega⟩
 . have T:=bF hk T
   subst T;rw[Xag]at hz;simp only[go_sem];exact cH (by unfold FI;rw[if_neg (by rw[AU hz];simp)])
def nS(x:Instance)(r:Route):Sheet×Score×Int:=
 if dW r.type x.types.length=true then(cP,dF,2)
 else if(xB x r.visits != 0)=true then(cP,dF,xB x r.visits)
 else if(FI x r != 0)=true then(cP,dF,FI x r)
 else if(Bm x r != 0)=true then(cP,dF,Bm x r)
 else if((oE x r).2 != 0)=true then(cP,dF,(oE x r).2)
 else((oE x r).1,sU x r (oE x r).1,0)
structure EvalB(x:Instance):Prop where
 net:NetOk x.net
 load:LoadB x
 apart:x.apart.length<=1048576
 before:x.before.length<=1048576
abbrev fnsL:List (List AV):=[[.v (.func (.func 272) #[] #[])],[.v (.func (.func 273) #[] #[])],[.v (.func (.func 274) #[] #[])]]
theorem PW(x:Instance)(r:Route)(hx:EvalB x)(hr:r.visits.length<=1048575):PC prog 240 [.agg (aG x),.agg (dL r)] (.tup [.agg (cX (nS x r).1),.agg (fM (nS x r).2.1),int (nS x r).2.2]):=by
 refine pcd Tryz.func240 ?_;unfold Tryz.f240;simp only[gdS];simp only[go_sem];refine aK fun i4 am=>?_
 generalize af:aI _ i4 _=HGi4;have F:HGi4 i4=some (iC (cX cP)):=by rw[<-af,aB];try rfl
 clear af am;simp only[go_sem,F];refine aK fun i5 ae=>?_
 have u:i4≠i5:=aQ F ae;generalize ad:aI _ i5 _=HGi5;replace F:=(congrFun ad.symm i4).trans ((aD _ _ _ _ u).trans F);have I:HGi5 i5=some (oG dF):=by rw[<-ad,aB];try rfl
 clear ad ae;simp only[go_sem,I,F];refine aA (fun h1=>?_) (fun h1=>?_)
 . have h1:dW r.type x.types.length=true:=h1
   simp only[go_sem];refine aJ F (by simp) ?_;generalize E:aI _ i4 _=HP;replace I:=(congrFun E.symm i5).trans ((aD _ _ _ _ (by first|exact ne_i5_i4|exact u.symm)).trans I);replace F:HP i4=some (iC (cX cP)):=by rw[<-E,aB];rfl
   clear E;simp only[go_sem,F,I];refine aJ I (by simp) ?_;generalize E:aI _ i5 _=HP;replace F:=(congrFun E.symm i4).trans ((aD _ _ _ _ (by first|exact u|exact ne_i5_i4.symm)).trans F);replace I:HP i5=some (oG dF):=by rw[<-E,aB];rfl
   clear E;simp only[go_sem,I,F];have e:nS x r=(cP,dF,2):=by unfold nS;rw[if_pos h1]
   rw[e];exact .refl _
 have c1:¬dW r.type x.types.length=true:=by rw[show dW r.type x.types.length=false from h1];simp
 have an:0<=r.type/\r.type<(x.types.length:Int):=by
   have h1:dW r.type x.types.length=false:=h1;simp only[dW,Xak,decide_eq_false_iff_not]at h1;omega
 simp only[go_sem];refine⟨fun ρ H=>∃(k:Nat),k<=3/\ρ 2=.rp (aG x) 0/\ρ 3=.rp (dL r) 0/\ρ 4=.op i4 0 0/\ρ 5=.op i5 0 0/\ρ 25=.sl fnsL/\ρ 26=int 3/\ρ 27=int k/\H i4=some (iC (cX cP))/\H i5=some (oG dF)/\(0<k->xB x r.visits=0)/\(1<k->FI x r=0)/\(2<k->Bm x r=0),fun ρ _=>3-aT (ρ 27),
   ⟨0,Xab _,by simp only[go_sem],by simp only[go_sem],by simp only[go_sem],by simp only[go_sem],by simp only[go_sem],by simp only[go_sem];rfl,by simp only[go_sem];rfl,F,I,fun h=>absurd h (by decide),fun h=>absurd h (by decide),fun h=>absurd h (by decide)⟩,?_⟩
 clear F I;rintro ρ H ⟨k,hk,h2,h3,h4,h5,J,M,O,F,I,q1,q2,q3⟩;simp only[go_sem,h2,h3,h4,h5,J,M,O];refine aA (fun al=>?_) (fun ah=>?_)
 . have al:k<3:=by simp at al;omega
   have hc:k=0\/k=1\/k=2:=by omega
   rcases hc with rfl|rfl|rfl
   . simp only[go_sem,h2,h3,h4,h5,J,M,O]
     refine⟨by decide,PC.use (F2 x r (by omega) hx.apart hx.before) ?_⟩;simp only[go_sem,h2,h3,h4,h5,J,M,O];refine aA (fun hb=>?_) (fun hb=>?_)
     . have e:nS x r=(cP,dF,xB x r.visits):=by unfold nS;rw[if_neg c1,if_pos hb]
       simp only[go_sem,h2,h3,h4,h5,J,M,O];refine aJ F (by simp) ?_;generalize E:aI _ i4 _=HP;replace I:=(congrFun E.symm i5).trans ((aD _ _ _ _ (by first|exact ne_i5_i4|exact u.symm)).trans I);replace F:HP i4=some (iC (cX cP)):=by rw[<-E,aB];rfl
       clear E;simp only[go_sem,h2,h3,h4,h5,J,M,O,F,I];refine aJ I (by simp) ?_;generalize E:aI _ i5 _=HP;replace F:=(congrFun E.symm i4).trans ((aD _ _ _ _ (by first|exact u|exact ne_i5_i4.symm)).trans F);replace I:HP i5=some (oG dF):=by rw[<-E,aB];rfl
       clear E;simp only[go_sem,h2,h3,h4,h5,J,M,O,I,F];rw[e];exact .refl _
     . simp only[go_sem,h2,h3,h4,h5,J,M,O]
       exact⟨⟨1,by decide,rfl,F,I,fun _=>by simpa using hb,fun h=>absurd h (by decide),fun h=>absurd h (by decide)⟩,by simp only[aE];decide⟩
   . simp only[go_sem,h2,h3,h4,h5,J,M,O]
     refine⟨by decide,PC.use (abJ x r (by omega) an (YB (q1 (by decide)))) ?_⟩;simp only[go_sem,h2,h3,h4,h5,J,M,O];refine aA (fun hb=>?_) (fun hb=>?_)
     . have e:nS x r=(cP,dF,FI x r):=by unfold nS;rw[if_neg c1,q1 (by decide),if_neg (by decide),if_pos hb]
       simp only[go_sem,h2,h3,h4,h5,J,M,O];refine aJ F (by simp) ?_;generalize E:aI _ i4 _=HP;replace I:=(congrFun E.symm i5).trans ((aD _ _ _ _ (by first|exact ne_i5_i4|exact u.symm)).trans I);replace F:HP i4=some (iC (cX cP)):=by rw[<-E,aB];rfl
       clear E;simp only[go_sem,h2,h3,h4,h5,J,M,O,F,I];refine aJ I (by simp) ?_;generalize E:aI _ i5 _=HP;replace F:=(congrFun E.symm i4).trans ((aD _ _ _ _ (by first|exact u|exact ne_i5_i4.symm)).trans F);replace I:HP i5=some (oG dF):=by rw[<-E,aB];rfl
       clear E;simp only[go_sem,h2,h3,h4,h5,J,M,O,I,F];rw[e];exact .refl _
     . simp only[go_sem,h2,h3,h4,h5,J,M,O]
       exact⟨⟨2,by decide,rfl,F,I,fun _=>q1 (by decide),fun _=>by simpa using hb,fun h=>absurd h (by decide)⟩,by simp only[aE];decide⟩
   . simp only[go_sem,h2,h3,h4,h5,J,M,O]
     refine⟨by decide,PC.use (Zc x r hx.load hr hx.apart hx.before) ?_⟩;simp only[go_sem,h2,h3,h4,h5,J,M,O];refine aA (fun hb=>?_) (fun hb=>?_)
     . have e:nS x r=(cP,dF,Bm x r):=by unfold nS;rw[if_neg c1,q1 (by decide),if_neg (by decide),q2 (by decide),if_neg (by decide),if_pos hb]
       simp only[go_sem,h2,h3,h4,h5,J,M,O];refine aJ F (by simp) ?_;generalize E:aI _ i4 _=HP;replace I:=(congrFun E.symm i5).trans ((aD _ _ _ _ (by first|exact ne_i5_i4|exact u.symm)).trans I);replace F:HP i4=some (iC (cX cP)):=by rw[<-E,aB];rfl
       clear E;simp only[go_sem,h2,h3,h4,h5,J,M,O,F,I];refine aJ I (by simp) ?_;generalize E:aI _ i5 _=HP;replace F:=(congrFun E.symm i4).trans ((aD _ _ _ _ (by first|exact u|exact ne_i5_i4.symm)).trans F);replace I:HP i5=some (oG dF):=by rw[<-E,aB];rfl
       clear E;simp only[go_sem,h2,h3,h4,h5,J,M,O,I,F];rw[e];exact .refl _
     . simp only[go_sem,h2,h3,h4,h5,J,M,O]
       exact⟨⟨3,by decide,rfl,F,I,fun _=>q1 (by decide),fun _=>q2 (by decide),fun _=>by simpa using hb⟩,by simp only[aE];decide⟩
 have ah:k=3:=by simp at ah;omega
 subst ah;have e1:=q1 (by decide);have e2:=q2 (by decide);have e3:=q3 (by decide);have eE:nS x r=if((oE x r).2 != 0)=true then(cP,dF,(oE x r).2)else((oE x r).1,sU x r (oE x r).1,0):=by
   unfold nS;rw[if_neg c1,e1,e2,e3];rfl
 rw[eE];simp only[go_sem,h2,h3,h4,h5];refine PC.use (ahB x r hx.net (by omega)) ?_;simp only[go_sem,h2,h3,h4,h5];refine aK fun ac ab=>?_
 have T:i4≠ac:=aQ F ab;have Z:i5≠ac:=aQ I ab;simp only[go_sem,h2,h3,h4,h5,F,I];refine aJ (aB _ _ _) (by simp[iU]) ?_;generalize aa:aI (aI _ ac _) ac _=HGi10;replace F:=(congrFun aa.symm i4).trans ((aD _ _ _ _ T).trans ((aD _ _ _ _ T).trans F));replace I:=(congrFun aa.symm i5).trans ((aD _ _ _ _ Z).trans ((aD _ _ _ _ Z).trans I));have ag:HGi10 ac=some (iC (cX (oE x r).1)):=by rw[<-aa,aB];try rfl
 clear aa ab;simp only[go_sem,h2,h3,h4,h5,ag,F,I];refine aA (fun hb=>?_) (fun hb=>?_)
 . rw[if_pos hb]
   simp only[go_sem,h2,h3,h4,h5];refine aJ F (by simp) ?_;generalize E:aI _ i4 _=HP;replace I:=(congrFun E.symm i5).trans ((aD _ _ _ _ (by first|exact ne_i5_i4|exact u.symm)).trans I);replace F:HP i4=some (iC (cX cP)):=by rw[<-E,aB];rfl
   clear E;simp only[go_sem,h2,h3,h4,h5,F,I];refine aJ I (by simp) ?_;generalize E:aI _ i5 _=HP;replace F:=(congrFun E.symm i4).trans ((aD _ _ _ _ (by first|exact u|exact ne_i5_i4.symm)).trans F);replace I:HP i5=some (oG dF):=by rw[<-E,aB];rfl
   clear E;simp only[go_sem,h2,h3,h4,h5,I,F];exact .refl _
 . rw[if_neg (by rw[hb];simp)]
   simp only[go_sem,h2,h3,h4,h5];refine fE [ac] [(0,true),(1,true),(2,true),(3,true),(4,true),(5,false),(6,false),(7,false)] (by simp[ag]) (by kernel_rfl) fun Hp Hr hp ak _ ao=>?_
   have aj:=(hp ac (by simp)).trans ag;have P4:=(ak i4 (by simp[T])).trans F;have P5:=(ak i5 (by simp[Z])).trans I;simp only[go_sem,h2,h3,h4,h5,aj];refine⟨_,(abS x r (oE x r).1 (by omega)).q rfl,?_⟩;simp only[go_sem,h2,h3,h4,h5,aj];refine aJ P4 (by simp[iU]) ?_;generalize E:aI _ i4 _=HP;replace P5:=(congrFun E.symm i5).trans ((aD _ _ _ _ (by first|exact ne_i5_i4|exact u.symm)).trans P5);replace P4:HP i4=some (iC (cX (oE x r).1)):=by rw[<-E,aB];rfl
   clear E;simp only[go_sem,h2,h3,h4,h5,P4,P5];refine aJ P5 (by simp[nG]) ?_;generalize E:aI _ i5 _=HP;replace P4:=(congrFun E.symm i4).trans ((aD _ _ _ _ (by first|exact u|exact ne_i5_i4.symm)).trans P4);replace P5:HP i5=some (oG (sU x r (oE x r).1)):=by rw[<-E,aB];rfl
   clear E;simp only[go_sem,h2,h3,h4,h5,P5,P4];refine fI fun _ Hm _ ai=>?_
   have M4:=(ai i4 (by simp[T])).trans P4;have M5:=(ai i5 (by simp[Z])).trans P5;simp only[go_sem,h4,h5,M4,M5];exact .refl _
end Go.Proofs.YtohmomanmikphaaGreatDoor.Sq
end
