import Derived.Test.YtdlijlecpopadaaGreatDoorZu14
set_option linter.unusedSimpArgs false
set_option linter.unusedVariables false
set_option maxRecDepth 100000
section
namespace Go.Proofs.YtdlijlecpopadaaGreatDoor.Sq
open Go.Proofs.Tryz(prog)
open Go.Aw Go.Aw.D Go.Proofs Ty
open Mv (bZ cQ NC.pc aT)
def cX(l:Lab):List AV:=[int l.ready,int l.since,boo l.sheet.rest,int l.sheet.depart,.sl (l.sheet.times.map tB),int l.sheet.end_,int l.sheet.miles]
theorem lA(l:Lab):(cX l).length=7:=(rfl)
theorem Xs(l:Lab):(cX l).getD 0 .any=int l.ready:=(rfl)
theorem Z9(l:Lab):(cX l).getD 1 .any=int l.since:=(rfl)
theorem aaK(l:Lab):(cX l).getD 4 .any=.sl (l.sheet.times.map tB):=(rfl)
theorem abQ(l:Lab):(cX l).getD 5 .any=int l.sheet.end_:=(rfl)
theorem Xr(l:Lab):((cX l).drop 2).take 5=dB l.sheet:=(rfl)
theorem QP(l:Lab):(cX l).take 7=cX l:=(rfl)
def cY(x:Instance)(t:VType)(r:Route)(st:List Stop):List AV:=aL x++(aY t++(dO r++[.sl (st.map dZ)]))
section
variable(x:Instance)(t:VType)(r:Route)(st:List Stop)
theorem D6:(cY x t r st).length=25:=(rfl)
theorem VN:(cY x t r st).getD 8 .any=int t.src:=(rfl)
theorem Wv:(cY x t r st).getD 9 .any=int t.dst:=(rfl)
theorem Sf:(cY x t r st).getD 12 .any=int t.profile:=(rfl)
theorem Qm:(cY x t r st).getD 13 .any=int t.start:=(rfl)
theorem SK:(cY x t r st).getD 14 .any=int t.close:=(rfl)
theorem RL:(cY x t r st).getD 15 .any=int t.drive:=(rfl)
theorem RM:(cY x t r st).getD 16 .any=int t.rest:=(rfl)
theorem SD:(cY x t r st).getD 21 .any=int r.start:=(rfl)
theorem PZ:(cY x t r st).getD 22 .any=.sl (r.rests.map fX):=(rfl)
theorem Sy:(cY x t r st).getD 24 .any=.sl (st.map dZ):=(rfl)
theorem Mz:(cY x t r st).take 2=aV x.net:=(rfl)
theorem Ol:(cY x t r st).take 25=cY x t r st:=(rfl)
end
attribute [go_sem] lA Xs Z9 aaK abQ Xr QP D6 VN Wv Sf Qm SK RL RM SD PZ Sy Mz Ol
def B8:Lab:=⟨0,0,cN⟩
abbrev gI(cs:List AV):Row:=⟨321,7,[cs]⟩
def pR(t:VType)(st:List Stop)(k:Nat):Int:=match k with
 | 0=>t.src
 | j+1=>(st.getD j kC).place
theorem L0(x:Instance)(t:VType)(r:Route)(st:List Stop):PC prog 260 [.agg (cY x t r st)] (.agg (cX (qX t r))):=by
 refine pcd Tryz.func260 ?_;unfold Tryz.f260;simp only[gdS];simp only[go_sem];refine aN fun I F=>?_
 generalize E:aI _ I _=HGi2;have J:HGi2 I=some (gI (cX B8)):=by rw[<-E,aA];try rfl
 clear E F;simp only[go_sem,J];refine aM J (by simp) ?_;simp only[go_sem];exact .refl _
theorem Xf(x:Instance)(t:VType)(r:Route)(st:List Stop)(k:Nat)(O:k<=st.length)(J:st.length<=1048576):PC prog 319 [.agg (cY x t r st),int k] (int (pR t st k)):=by
 refine pcd Tryz.func319 ?_;unfold Tryz.f319;simp only[gdS];simp only[go_sem];refine aB (fun E=>?_) (fun E=>?_)
 . have:k=0:=by simp at E;exact E
   subst this;simp only[go_sem];exact .refl _
 . obtain⟨j,rfl⟩:∃j,k=j+1:=⟨k-1,by simp at E;omega⟩
   obtain⟨s,F⟩:=aQ (show j<st.length by omega);have w:IntKind.i64.wrap (((j+1:Nat):Int)-1)=(j:Int):=by rw[aW (by omega)];omega
   have I:=inB (show j<st.length by omega);simp only[go_sem,w,aH F,I];exact bZ (by unfold pR;simp[List.getD,F])
theorem Tn:∀l:List Tm,cZ 4 (l.map tB)
 | []=>trivial
 | _::r=>⟨rfl,Tn r⟩
theorem abH(l:List Tm)(X:l.length<=1048576):NC prog 318 [.sl (l.map tB)] (Ed l) .os:=by
 refine ncb (fun t=>t == 2||t == 5) Tryz.func318 ?_;unfold Tryz.f318;simp only[gdS];simp only[go_sem];refine aN fun j O=>?_
 have R:=aA bS j (some (Ed []));generalize aI bS j _=H at R |-;simp only[go_sem];refine⟨fun J=>?_,?_⟩
 . refine aB (fun _=>?_) (fun E=>by simp at E)
   simp only[go_sem];refine aN fun i hi=>?_
   simp only[go_sem];refine⟨i,rfl,?_⟩;rw[aA,Xbq.1 J];rfl
 . refine aB (fun E=>by simp at E) (fun _=>?_)
   simp only[go_sem];refine aN fun i hi=>?_
   simp only[go_sem];refine bG (aA _ _ _) ⟨rfl,rfl⟩ (Tn _) (by simp only[Xaa,List.length_nil];omega) (fun I F=>?_);simp only[go_sem];refine⟨I,rfl,?_⟩;exact aA _ _ _
def kV(x:Instance)(t:VType)(st:List Stop)(k:Nat)(l:Lab)(b:Bool):Except Int Lab:=match st[k]? with
 | some s=>qK x t (pR t st k) s k l b
 | none=>tF x t (pR t st k) k l b
def Y2(e:Except Int Lab):Lab:=match e with| .ok l=>l| .error _=>B8
def sO:Instance:=⟨⟨[],[]⟩,[],[],[],[]⟩
def Bg:VType:=⟨ByteArray.empty,0,0,0,[],0,0,0,0,0,0,0,0,0⟩
def A7:Route:=⟨0,0,[],[]⟩
abbrev vZ(cs:List AV):Row:=⟨317,25,[cs]⟩
def cJ(x:Instance)(l:List Visit):List Stop:=l.map fun v=>(fP x v).1
def AI(x:Instance)(r:Route):List AV×Bool:=if gG x r=true then match x.types[r.type.toNat]? with
 | some t=>(cY x t r (cJ x r.visits),true)
 | none=>(cY sO Bg A7 [],false)
 else(cY sO Bg A7 [],false)
def D8(x:Instance)(t:VType)(r:Route)(j:Nat):List AV:=aL x++(aY t++(dO r++[.os j]))
theorem tk1{x:Instance}{l:List AV}:(aL x++l).take 6=aL x:=(rfl)
theorem dr1{x:Instance}{l:List AV}:(aL x++l).drop 20=l.drop 14:=(rfl)
theorem tk2{x:Instance}{t:VType}{l:List AV}:(aL x++aY t++l).take 20=aL x++aY t:=(rfl)
theorem dr2{x:Instance}{t:VType}{l:List AV}:(aL x++aY t++l).drop 24=l.drop 4:=(rfl)
abbrev BY(l:List Stop):Row:=⟨141,4,l.map dZ⟩
theorem Yy(x:Instance)(t:VType)(r:Route)(j:Nat):(D8 x t r j).getD 24 .any=.os j:=(rfl)
theorem U8(x:Instance)(t:VType)(r:Route)(j:Nat):(D8 x t r j).take 25=D8 x t r j:=(rfl)
theorem Wt(x:Instance)(t:VType)(r:Route)(j:Nat):(D8 x t r j).length=25:=(rfl)
attribute [go_sem] Yy U8 Wt
theorem As{H:aJ}{l l':List AV}(h:ConvL H l l'):∀p:List AV,ConvL H (p++l) (p++l')
 | []=>h
 | a::p=>.cons a a _ _ (.refl a) (As h p)
theorem Vf{H:aJ}{x:Instance}{t:VType}{r:Route}{E:Nat}{st:List Stop}(R:H E=some (BY st)):ConvL H (D8 x t r E) (cY x t r st):=
 As (As (As (.cons _ _ _ _ (.row _ _ _ R (ConvE.refl _)) .nil) _) _) _
theorem Ve{x:Instance}{v:Visit}(h:(fP x v).2=true):0<=(fP x v).1.place/\dD x v=((fP x v).1,0):=by
 refine⟨?_,by unfold dD;rw[if_pos h]⟩;unfold fP at h |-;split at h
 . cases h
 . rename_i E
   rw[if_neg E];split at h
   . rename_i o F
     simpa using h
   . cases h
theorem Q5{x:Instance}{v:Visit}(h:(fP x v).2=false):((dD x v).2 != 0)=true:=by
 unfold dD;rw[if_neg (by rw[h];simp)];show((if dF v.order x.orders.length=true then(2:Int)else 19) != 0)=true;split <;> rfl
theorem apA(x:Instance)(r:Route)(hl:r.visits.length<=1048576):PC prog 259 [.agg (aL x),.agg (dO r)] (.tup [.agg (AI x r).1,boo (AI x r).2]):=by
 refine pcb (fun t=>t == 47) Tryz.func259 ?_;unfold Tryz.f259;simp only[gdS];simp only[go_sem];refine aN fun i4 ay=>?_
 generalize au:aI _ i4 _=HGi4;have E:HGi4 i4=some (vZ (cY sO Bg A7 [])):=by rw[<-au,aA];try rfl
 clear au ay;simp only[go_sem,E];refine aB (fun h1=>?_) (fun h1=>?_)
 . have hp:gG x r=false:=by unfold gG;rw[show(dF r.type x.types.length||decide (r.start<0)||decide (r.start>4096)||decide ((r.visits.length:Int)>20))=true from h1];rfl
   have e:AI x r=(cY sO Bg A7 [],false):=by unfold AI;rw[if_neg (by rw[hp];simp)]
   rw[e];simp only[go_sem];refine aM E (by simp) ?_;simp only[go_sem];exact .refl _
 have hp:gG x r=r.visits.all fun v=>(fP x v).2:=by unfold gG;rw[show(dF r.type x.types.length||decide (r.start<0)||decide (r.start>4096)||decide ((r.visits.length:Int)>20))=false from h1];rfl
 have a0:0<=r.type/\r.type<(x.types.length:Int):=by
   simp only[Xai,decide_eq_false_iff_not]at h1;omega
 have a7:r.visits.length<=20:=by
   simp only[Xai,decide_eq_false_iff_not]at h1;omega
 obtain⟨t,ht⟩:=aQ (show r.type.toNat<x.types.length by omega);simp only[go_sem];refine lO [(0,true),(1,true),(2,true),(3,true),(4,true),(5,true),(6,true),(7,true),(8,true),(9,false),(10,false)] (by kernel_rfl) ?_;simp only[go_sem,aH ht,a0,Xae,tk1,dr1,tk2,dr2];refine aN fun i6 ar=>?_
 have F:i4≠i6:=aO E ar;generalize ao:aI _ i6 _=HGi6;replace E:=(congrFun ao.symm i4).trans ((aD _ _ _ _ F).trans E);have I:HGi6 i6=some (vZ (cY sO Bg A7 [])):=by rw[<-ao,aA];try rfl
 clear ao ar;simp only[go_sem,I,E];refine UX 24 141 4 ⟨rfl,by decide⟩ I ⟨by simp,rfl,Xag _⟩ fun js av=>?_
 have ad:i6≠js:=aO I av;have ae:i4≠js:=aO E av;generalize hG:aI (aI HGi6 js _) i6 _=HG;replace E:=(congrFun hG.symm i4).trans ((aD _ _ _ _ F).trans ((aD _ _ _ _ ae).trans E));have Rs:HG js=some (BY []):=by rw[<-hG,aD _ _ _ _ ad.symm,aA];rfl
 replace I:HG i6=some (vZ (D8 x t r js)):=by rw[<-hG,aA];rfl
 clear hG av;simp only[go_sem];refine⟨fun ρ H=>∃k:Nat,k<=r.visits.length/\ρ 2=.rp (aL x) 0/\ρ 4=.op i4 0 0/\ρ 6=.op i6 0 0/\ρ 49=.sl (r.visits.map aK)/\ρ 50=int r.visits.length/\ρ 51=int k/\H i4=some (vZ (cY sO Bg A7 []))/\(∃js,H i6=some (vZ (D8 x t r js))/\H js=some (BY (cJ x (r.visits.take k))))/\∀v∈r.visits.take k,(fP x v).2=true,fun ρ _=>r.visits.length-aX (ρ 51),⟨0,Xab _,by simp only[go_sem],by simp only[go_sem],by simp only[go_sem],by simp only[go_sem],by simp only[go_sem,Xaa],by simp only[go_sem];rfl,E,⟨js,I,Rs⟩,by simp⟩,?_⟩;clear E I Rs ad ae js;rintro ρ H ⟨k,hk,h2,h4,h6,J,X,O,E,⟨js,I,Rs⟩,hz⟩;have al:js≠i6:=Ze Rs I (by rfl);have ag:js≠i4:=Ze Rs E (by rfl);simp only[go_sem,h2,h4,h6,J,X,O];refine aB (fun an=>?_) (fun aw=>?_)
 . have an:=aZ an
   obtain⟨v,hv⟩:=aQ an;have b1:=inB an;simp only[go_sem,h2,h4,h6,J,X,O,aH hv,b1];refine aN fun i8 aj=>?_
   have Y:i4≠i8:=aO E aj;have af:i6≠i8:=aO I aj;have Z:js≠i8:=aO Rs aj;simp only[go_sem,h2,h4,h6,J,X,O,E,I,Rs];refine aM (aA _ _ _) (by simp[cL]) ?_;generalize ah:aI (aI _ i8 _) i8 _=HGi8;replace E:=(congrFun ah.symm i4).trans ((aD _ _ _ _ Y).trans ((aD _ _ _ _ Y).trans E));replace I:=(congrFun ah.symm i6).trans ((aD _ _ _ _ af).trans ((aD _ _ _ _ af).trans I));replace Rs:=(congrFun ah.symm js).trans ((aD _ _ _ _ Z).trans ((aD _ _ _ _ Z).trans Rs));have R8:HGi8 i8=some (⟨97,2,[aK v]⟩):=by rw[<-ah,aA];try rfl
   clear ah aj;simp only[go_sem,h2,h4,h6,J,X,O,R8,E,I,Rs];refine PC.use (EB x v) ?_;simp only[go_sem,h2,h4,h6,J,X,O];refine aN fun i9 ak=>?_
   have ab:i4≠i9:=aO E ak;have ac:i6≠i9:=aO I ak;have aa:js≠i9:=aO Rs ak;simp only[go_sem,h2,h4,h6,J,X,O,E,I,Rs];refine aM (aA _ _ _) (by simp[kA]) ?_;generalize ai:aI (aI _ i9 _) i9 _=HGi9;replace E:=(congrFun ai.symm i4).trans ((aD _ _ _ _ ab).trans ((aD _ _ _ _ ab).trans E));replace I:=(congrFun ai.symm i6).trans ((aD _ _ _ _ ac).trans ((aD _ _ _ _ ac).trans I));replace Rs:=(congrFun ai.symm js).trans ((aD _ _ _ _ aa).trans ((aD _ _ _ _ aa).trans Rs));have R9:HGi9 i9=some (tX (dD x v).1):=by rw[<-ai,aA];try rfl
   clear ai ak;simp only[go_sem,h2,h4,h6,J,X,O,R9,E,I,Rs];cases aq:(fP x v).2 with
   | false=>
     have az:=Q5 aq;refine aB (fun _=>?_) (fun hb=>by rw[az]at hb;simp at hb);simp only[go_sem,h4];refine aM E (by simp) ?_;simp only[go_sem,h4];have e:AI x r=(cY sO Bg A7 [],false):=by unfold AI;rw[if_neg (by rw[hp,BM hv aq];simp)]
     rw[e];exact .refl _
   | true=>
     obtain⟨a6,a5⟩:=Ve aq;rw[a5]at R9 |-;refine aB (fun hb=>by simp at hb;omega) (fun _=>?_);simp only[go_sem,h2,h4,h6,J,X,O,I,R9];refine bG Rs ⟨rfl,rfl⟩ ⟨rfl,trivial⟩ (by simp[cJ];omega) (fun j' ap=>?_);have am:i6≠j':=aO I ap;have ax:i4≠j':=aO E ap;replace E:=dN (r':=⟨141,4,List.map dZ (cJ x (r.visits.take k))++[dZ (fP x v).1]⟩) E ag ap;replace I:=dN (r':=⟨141,4,List.map dZ (cJ x (r.visits.take k))++[dZ (fP x v).1]⟩) I al ap;have a4:aI (aI HGi9 js none) j' (some (⟨141,4,List.map dZ (cJ x (r.visits.take k))++[dZ (fP x v).1]⟩:Row)) j'=some (BY (cJ x (r.visits.take (k+1)))):=by
       rw[bX hv];unfold cJ;rw[Xat];exact Bu (l':=[(fP x v).1]) rfl
     simp only[go_sem,h2,h4,h6,J,X,O];refine cE akM I ⟨by simp,rfl,by simp⟩ ?_;simp only[go_sem,h2,h4,h6,J,X,O,aS (show k<=4611686018427387904 by omega)];exact⟨⟨k+1,an,rfl,(aD _ _ _ _ F).trans E,⟨j',rfl,(aD _ _ _ _ am.symm).trans a4⟩,aT (p:=fun v=>(fP x v).2=true) hv aq hz⟩,by simp only[aG];omega⟩
 . have aw:=bD hk aw
   subst aw;rw[Xaf]at hz Rs;simp only[go_sem,h4,h6,I];refine aM E ⟨by simp,rfl,Xag _⟩ ?_;simp only[go_sem,h4];have e:AI x r=(cY x t r (cJ x r.visits),true):=by unfold AI;rw[if_pos (by rw[hp];exact Xao.2 hz),ht]
   rw[e];exact .tup [.agg (D8 x t r js),boo true] _ (.cons _ _ _ _ (.agg _ _ (Vf ((aD _ _ _ _ ag).trans Rs))) (ConvL.refl _))
def jO(rdy sin:Int)(sd:Sheet)(j:Nat):List AV:=[int rdy,int sin,boo sd.rest,int sd.depart,.os j,int sd.end_,int sd.miles]
theorem Ra(a b s j):(jO a b s j).length=7:=(rfl)
theorem YA(a b s j):(jO a b s j).getD 0 .any=int a:=(rfl)
theorem WJ(a b s j):(jO a b s j).getD 1 .any=int b:=(rfl)
theorem Zj(a b s j):(jO a b s j).getD 4 .any=.os j:=(rfl)
theorem aaI(a b s j):(jO a b s j).getD 6 .any=int s.miles:=(rfl)
theorem PR(a b s j):(jO a b s j).take 7=jO a b s j:=(rfl)
attribute [go_sem] Ra YA WJ Zj aaI PR
theorem M7{H:aJ}{j:Nat}{l:Lab}(R:H j=some (Ed l.sheet.times)):ConvL H (jO l.ready l.since l.sheet j) (cX l):=
 .cons _ _ _ _ (.refl _) (.cons _ _ _ _ (.refl _) (.cons _ _ _ _ (.refl _) (.cons _ _ _ _ (.refl _) (.cons _ _ _ _ (.row _ _ _ R (ConvE.refl _)) (ConvL.refl _)))))
theorem aiW{l:List Tm}{j:Nat}{E:Tm}(h:l[j]?=some E)(b:Bool):(l.map tB).set j (mH ((l.map tB).getD j []) 3 [boo b])=(l.set j ⟨E.arrive,E.begin_,E.depart,b⟩).map tB:=by
 rw[aH h,List.map_set];rfl
theorem alD{l:List Tm}{j:Nat}{E:Tm}(h:l[j]?=some E)(d:Int):(l.map tB).set j (mH ((l.map tB).getD j []) 2 [int d])=(l.set j ⟨E.arrive,E.begin_,d,E.rest⟩).map tB:=by
 rw[aH h,List.map_set];rfl
theorem ZD(x:Instance)(t:VType)(r:Route)(st:List Stop)(l:Lab)(k:Nat)(b:Bool)(hn:NetOk x.net)(ar:st.length<=1048576)(hk:k<=st.length)(hl:l.sheet.times.length=k):
   PC prog 298 [.agg (cY x t r st),.agg (cX l),int k,boo b] (.tup [.agg (cX (Y2 (kV x t st k l b))),int (G8 (kV x t st k l b))]):=by
 refine pcd Tryz.func298 ?_;unfold Tryz.f298;simp only[gdS];simp only[go_sem];refine aN fun i8 an=>?_
 generalize ak:aI _ i8 _=HGi8;have Z:HGi8 i8=some (gI (cX B8)):=by rw[<-ak,aA];try rfl
 clear ak an;simp only[go_sem,Z];refine fV (by rfl) (by kernel_rfl) ?_;simp only[go_sem];refine bH (fun ac H'=>ac 2=int k/\ac 3=boo b/\ac 4=.rp (cY x t r st) 0/\ac 5=.rp (cX l) 0/\ac 8=.op i8 0 0/\ac 10=int (qT t l b)/\ac 11=int (pP l b)/\H' i8=some (gI (cX B8))) ?_ fun K hK=>aB (fun hb=>?_) (fun hb=>?_)
 rotate_left
 . simp only[go_sem]
   exact hK _ _ ⟨by simp only[go_sem],by simp only[go_sem],by simp only[go_sem],by simp only[go_sem],by simp only[go_sem],by simp only[go_sem];unfold qT;rw[if_pos hb];rfl,by simp only[go_sem];unfold pP;rw[if_pos hb],Z⟩
 . simp only[go_sem]
   exact hK _ _ ⟨by simp only[go_sem],by simp only[go_sem],by simp only[go_sem],by simp only[go_sem],by simp only[go_sem],by simp only[go_sem];unfold qT;rw[if_neg (by rw[hb];simp)],by simp only[go_sem];unfold pP;rw[if_neg (by rw[hb];simp)],Z⟩
 clear Z;rintro ρ H ⟨h2,h3,h4,h5,h8,J,O,Z⟩;simp only[go_sem,h2,h3,h4,h5,h8,J,O];refine aN fun Y aj=>?_
 have I:i8≠Y:=aO Z aj;simp only[go_sem,h2,h3,h4,h5,h8,J,O,Z];refine aM (aA _ _ _) (by simp[jU]) ?_;generalize ag:aI (aI _ Y _) Y _=HGi12;replace Z:=(congrFun ag.symm i8).trans ((aD _ _ _ _ I).trans ((aD _ _ _ _ I).trans Z));have E:HGi12 Y=some (gI ([int 0,int 0]++dB l.sheet)):=by rw[<-ag,aA];try rfl
 clear ag aj;simp only[go_sem,h2,h3,h4,h5,h8,J,O,E,Z];refine NC.use (abH l.sheet.times (by omega)) fun jt al=>?_
 have ab:i8≠jt:=aO Z al;have F:Y≠jt:=aO E al;generalize hG:aI HGi12 jt _=HG;replace Z:=(congrFun hG.symm i8).trans ((aD _ _ _ _ ab).trans Z);replace E:=(congrFun hG.symm Y).trans ((aD _ _ _ _ F).trans E);have Rt:HG jt=some (Ed l.sheet.times):=by rw[<-hG,aA]
 clear hG al;simp only[go_sem,h2,h3,h4,h5,h8,J,O,E];refine cE abN E ⟨by simp,rfl,by simp⟩ ?_;generalize X:aI _ Y _=HP;replace Z:=(congrFun X.symm i8).trans ((aD _ _ _ _ (by first|exact I|exact ne_i12_i8.symm)).trans Z);replace Rt:=(congrFun X.symm jt).trans ((aD _ _ _ _ (by first|exact ne_jt_i12|exact F.symm)).trans Rt);replace E:HP Y=some (gI (jO 0 0 l.sheet jt)):=by rw[<-X,aA];rfl
 clear X;simp only[go_sem,h2,h3,h4,h5,h8,J,O,E,Z,Rt];refine bH (fun ac H'=>ac 2=int k/\ac 4=.rp (cY x t r st) 0/\ac 8=.op i8 0 0/\ac 10=int (qT t l b)/\ac 11=int (pP l b)/\ac 12=.op Y 0 0/\H' i8=some (gI (cX B8))/\H' Y=some (gI (jO 0 0 (fD l.sheet k b (qT t l b)) jt))/\H' jt=some (Ed (fD l.sheet k b (qT t l b)).times)) ?_ fun K hK=>aB (fun hb=>?_) (fun hb=>?_)
 rotate_left
 . have h0:k=0:=by simp at hb;exact hb
   subst h0;simp only[go_sem,h2,h3,h4,h5,h8,J,O,E];refine cE so4 E ⟨by simp,rfl,by simp⟩ ?_;generalize X:aI _ Y _=HP;replace Z:=(congrFun X.symm i8).trans ((aD _ _ _ _ (by first|exact I|exact ne_i12_i8.symm)).trans Z);replace Rt:=(congrFun X.symm jt).trans ((aD _ _ _ _ (by first|exact ne_jt_i12|exact F.symm)).trans Rt);replace E:HP Y=some (gI (jO 0 0 { l.sheet with rest:=b } jt)):=by rw[<-X,aA];rfl
   clear X;simp only[go_sem,h2,h3,h4,h5,h8,J,O,E,Z,Rt];refine cE so3 E ⟨by simp,rfl,by simp⟩ ?_;generalize X:aI _ Y _=HP;replace Z:=(congrFun X.symm i8).trans ((aD _ _ _ _ (by first|exact I|exact ne_i12_i8.symm)).trans Z);replace Rt:=(congrFun X.symm jt).trans ((aD _ _ _ _ (by first|exact ne_jt_i12|exact F.symm)).trans Rt);replace E:HP Y=some (gI (jO 0 0 { l.sheet with rest:=b,depart:=qT t l b } jt)):=by rw[<-X,aA];rfl
   clear X;simp only[go_sem,h2,h3,h4,h5,h8,J,O,E,Z,Rt];exact hK _ _ ⟨by simp only[go_sem,h2],by simp only[go_sem,h4],by simp only[go_sem,h8],by simp only[go_sem,J],by simp only[go_sem,O],by simp only[go_sem],Z,E,Rt⟩
 . obtain⟨j,rfl⟩:∃j,k=j+1:=⟨k-1,by simp at hb;omega⟩
   have w:IntKind.i64.wrap (((j+1:Nat):Int)-1)=(j:Int):=by rw[aW (by omega)];omega
   obtain⟨tm,am⟩:=aQ (show j<l.sheet.times.length by omega);have b1:=inB (show j<l.sheet.times.length by omega);have eg:l.sheet.times.getD j QS=tm:=by simp[List.getD,am]
   simp only[go_sem,h2,h3,h4,h5,h8,J,O,E,Rt,w];refine⟨⟨b1.1,b1.2⟩,cE so4 Rt ⟨by simpa using b1.2,rfl,by simp⟩ ?_⟩;generalize X:aI _ jt _=HP;replace Z:=(congrFun X.symm i8).trans ((aD _ _ _ _ (by first|exact ab|exact ne_jt_i8.symm)).trans Z);replace E:=(congrFun X.symm Y).trans ((aD _ _ _ _ (by first|exact F|exact ne_jt_i12.symm)).trans E);replace Rt:HP jt=some (Ed (l.sheet.times.set j ⟨tm.arrive,tm.begin_,tm.depart,b⟩)):=by rw[<-X,aA];exact congrArg (fun es=>some (⟨365,4,es⟩:Row)) (aiW am b)
   clear X;simp only[go_sem,h2,h3,h4,h5,h8,J,O,w,Rt,Z,E];have ap:(l.sheet.times.set j ⟨tm.arrive,tm.begin_,tm.depart,b⟩)[j]?=some ⟨tm.arrive,tm.begin_,tm.depart,b⟩:=by rw[List.getElem?_set_self (by omega)]
   refine⟨⟨b1.1,by rw[List.length_set];exact b1.2⟩,cE so3 Rt ⟨by simpa using b1.2,rfl,by simp⟩ ?_⟩;generalize X:aI _ jt _=HP;replace Z:=(congrFun X.symm i8).trans ((aD _ _ _ _ (by first|exact ab|exact ne_jt_i8.symm)).trans Z);replace E:=(congrFun X.symm Y).trans ((aD _ _ _ _ (by first|exact F|exact ne_jt_i12.symm)).trans E);replace Rt:HP jt=some (Ed ((l.sheet.times.set j ⟨tm.arrive,tm.begin_,tm.depart,b⟩).set j ⟨tm.arrive,tm.begin_,qT t l b,b⟩)):=by rw[<-X,aA];exact congrArg (fun es=>some (⟨365,4,es⟩:Row)) (alD ap _)
   clear X;simp only[go_sem,h2,h3,h4,h5,h8,J,O,w,Rt,Z,E];refine hK _ _ ⟨by simp only[go_sem,h2],by simp only[go_sem,h4],by simp only[go_sem,h8],by simp only[go_sem,J],by simp only[go_sem,O],by simp only[go_sem],Z,E,?_⟩;rw[Rt,List.set_set];simp only[fD,eg]
 clear Z E Rt h2 h3 h4 h5 h8 J O;rintro ρ H ⟨h2,h4,h8,J,O,aa,Z,E,Rt⟩;generalize hD:qT t l b=D at *;have X:=Xf x t r st k hk ar;rcases Xbe k st.length with ao|aq
 . obtain⟨s,hs⟩:=aQ ao
   have b1:=inB ao;have ae:((k:Int) == (st.length:Int))=false:=by simp;omega
   have eS:kV x t st k l b=qK x t (pR t st k) s k l b:=by unfold kV;rw[hs]
   rw[eS];unfold qK rH Gy goL;simp only[hD];generalize hg:dH x.net t.profile (pR t st k) s.place D=g;simp only[go_sem,h2,h4,h8,J,O,aa,ae];refine aB (fun _=>?_) (fun hb=>by simp at hb);simp only[go_sem,h2,h4,h8,J,O,aa,aH hs,b1];refine fV (by rfl) (by kernel_rfl) ?_;simp only[go_sem,h2,h4,h8,J,O,aa];refine⟨_,X.q rfl,?_⟩;simp only[go_sem,h2,h4,h8,J,O,aa];refine⟨_,(TO x.net t.profile (pR t st k) s.place D hn).q rfl,?_⟩;rw[hg];simp only[go_sem,h2,h4,h8,J,O,aa];refine aB (fun he=>?_) (fun he=>?_)
   . simp only[go_sem,h8]
     refine aM Z (by simp) ?_;simp only[go_sem,h8];rw[if_pos he];exact .refl _
   rw[if_neg (by rw[he];simp)];simp only[go_sem,h2,h4,h8,J,O,aa,E];refine cE so3 E ⟨by simp,rfl,by simp⟩ ?_;generalize X:aI _ Y _=HP;replace Z:=(congrFun X.symm i8).trans ((aD _ _ _ _ (by first|exact I|exact ne_i12_i8.symm)).trans Z);replace Rt:=(congrFun X.symm jt).trans ((aD _ _ _ _ (by first|exact ne_jt_i12|exact F.symm)).trans Rt);replace E:HP Y=some (gI (jO 0 0 { fD l.sheet k b D with miles:=W ((fD l.sheet k b D).miles+g.2.1) } jt)):=by rw[<-X,aA];rfl
   clear X;simp only[go_sem,h2,h4,h8,J,O,aa,E,Z,Rt];refine cE so3 E ⟨by simp,rfl,by simp⟩ ?_;generalize X:aI _ Y _=HP;replace Z:=(congrFun X.symm i8).trans ((aD _ _ _ _ (by first|exact I|exact ne_i12_i8.symm)).trans Z);replace Rt:=(congrFun X.symm jt).trans ((aD _ _ _ _ (by first|exact ne_jt_i12|exact F.symm)).trans Rt);replace E:HP Y=some (gI (jO 0 (W (W (pP l b+g.1)-D)) { fD l.sheet k b D with miles:=W ((fD l.sheet k b D).miles+g.2.1) } jt)):=by rw[<-X,aA];rfl
   clear X;simp only[go_sem,h2,h4,h8,J,O,aa,ae,E,Z,Rt];refine aB (fun hb=>by simp at hb) (fun _=>?_);simp only[go_sem,h2,h4,h8,J,O,aa,aH hs,b1];refine PC.use (ST s g.1) ?_;simp only[go_sem,h2,h4,h8,J,O,aa];by_cases hw:gA g.1 s.start>s.close
   . rw[if_pos hw,if_pos hw,if_pos hw]
     refine aB (fun _=>?_) (fun hb=>by simp at hb);simp only[go_sem,h8];refine aM Z (by simp) ?_;simp only[go_sem,h8];exact .refl _
   rw[if_neg hw,if_neg hw,if_neg hw];refine aB (fun hb=>by simp at hb) (fun _=>?_);simp only[go_sem,h2,h4,h8,J,O,aa,aH hs,b1];refine cE so3 E ⟨by simp,rfl,by simp⟩ ?_;generalize X:aI _ Y _=HP;replace Z:=(congrFun X.symm i8).trans ((aD _ _ _ _ (by first|exact I|exact ne_i12_i8.symm)).trans Z);replace Rt:=(congrFun X.symm jt).trans ((aD _ _ _ _ (by first|exact ne_jt_i12|exact F.symm)).trans Rt);replace E:HP Y=some (gI (jO (W (gA g.1 s.start+s.service)) (W (W (pP l b+g.1)-D)) { fD l.sheet k b D with miles:=W ((fD l.sheet k b D).miles+g.2.1) } jt)):=by rw[<-X,aA];rfl
   clear X;simp only[go_sem,h2,h4,h8,J,O,aa,ae,E,Z,Rt];refine bG Rt ⟨rfl,rfl⟩ ⟨rfl,trivial⟩ (by simp[(rV l.sheet k b D).2.2];omega) (fun j' ah=>?_);have af:i8≠j':=aO Z ah;have ad:Y≠j':=aO E ah;generalize X:aI (aI _ jt none) j' _=HP;replace Z:=(congrFun X.symm i8).trans ((aD _ _ _ _ af).trans ((aD _ _ _ _ (by first|exact ab|exact ne_jt_i8.symm)).trans Z));replace E:=(congrFun X.symm Y).trans ((aD _ _ _ _ ad).trans ((aD _ _ _ _ (by first|exact F|exact ne_jt_i12.symm)).trans E));have ai:HP j'=some (Ed ((fD l.sheet k b D).times++[⟨g.1,gA g.1 s.start,0,false⟩])):=by rw[<-X,aA];(show some (⟨365,4,_⟩:Row)=some ⟨365,4,_⟩;rw[Xat];rfl)
   clear X ah;simp only[go_sem,h2,h4,h8,J,O,aa,ae,ai,Z,E];refine cE abN E ⟨by simp,rfl,by simp⟩ ?_;generalize X:aI _ Y _=HP;replace Z:=(congrFun X.symm i8).trans ((aD _ _ _ _ (by first|exact I|exact ne_i12_i8.symm)).trans Z);replace ai:=(congrFun X.symm j').trans ((aD _ _ _ _ (by first|exact ne_j'_i12|exact ad.symm)).trans ai);replace E:HP Y=some (gI (jO (W (gA g.1 s.start+s.service)) (W (W (pP l b+g.1)-D)) { fD l.sheet k b D with miles:=W ((fD l.sheet k b D).miles+g.2.1),times:=(fD l.sheet k b D).times++[⟨g.1,gA g.1 s.start,0,false⟩] } j')):=by rw[<-X,aA];rfl
   clear X;simp only[go_sem,h2,h4,h8,J,O,aa,ae,E,Z,ai];refine aB (fun hd=>?_) (fun hd=>?_)
   . rw[if_pos (by simpa using hd)]
     simp only[go_sem,h8];refine aM Z (by simp) ?_;simp only[go_sem,h8];exact .refl _
   . rw[if_neg (by simpa using hd)]
     simp only[go_sem,h8,aa,E];refine aM Z ⟨by simp,rfl,Xag _⟩ ?_;simp only[go_sem,h8];have hm:=(rV l.sheet k b D).1;have:=fun H=>M7 (H:=H) (j:=j') (l:=⟨W (gA g.1 s.start+s.service),W (W (pP l b+g.1)-D),{ fD l.sheet k b D with miles:=W ((fD l.sheet k b D).miles+g.2.1),times:=(fD l.sheet k b D).times++[⟨g.1,gA g.1 s.start,0,false⟩] }⟩)
     simp only[hm]at this |-;exact .tup [.agg (jO _ _ _ j'),int 0] _ (.cons _ _ _ _ (.agg _ _ (this _ ((aD _ _ _ _ af.symm).trans ai))) (ConvL.refl _))
 . have au:k=st.length:=by omega
   have ae:((k:Int) == (st.length:Int))=true:=by simp;omega
   have eS:kV x t st k l b=tF x t (pR t st k) k l b:=by unfold kV;rw[List.getElem?_eq_none aq]
   rw[eS];unfold tF rH uH goL;simp only[hD];generalize hg:dH x.net t.profile (pR t st k) t.dst D=g;simp only[go_sem,h2,h4,h8,J,O,aa,ae];refine aB (fun hb=>by simp at hb) (fun _=>?_);simp only[go_sem,h2,h4,h8,J,O,aa];refine fV (by rfl) (by kernel_rfl) ?_;simp only[go_sem,h2,h4,h8,J,O,aa];refine⟨_,X.q rfl,?_⟩;simp only[go_sem,h2,h4,h8,J,O,aa];refine⟨_,(TO x.net t.profile (pR t st k) t.dst D hn).q rfl,?_⟩;rw[hg];simp only[go_sem,h2,h4,h8,J,O,aa];refine aB (fun he=>?_) (fun he=>?_)
   . simp only[go_sem,h8]
     refine aM Z (by simp) ?_;simp only[go_sem,h8];rw[if_pos he];exact .refl _
   rw[if_neg (by rw[he];simp)];simp only[go_sem,h2,h4,h8,J,O,aa,E];refine cE so3 E ⟨by simp,rfl,by simp⟩ ?_;generalize X:aI _ Y _=HP;replace Z:=(congrFun X.symm i8).trans ((aD _ _ _ _ (by first|exact I|exact ne_i12_i8.symm)).trans Z);replace Rt:=(congrFun X.symm jt).trans ((aD _ _ _ _ (by first|exact ne_jt_i12|exact F.symm)).trans Rt);replace E:HP Y=some (gI (jO 0 0 { fD l.sheet k b D with miles:=W ((fD l.sheet k b D).miles+g.2.1) } jt)):=by rw[<-X,aA];rfl
   clear X;simp only[go_sem,h2,h4,h8,J,O,aa,E,Z,Rt];refine cE so3 E ⟨by simp,rfl,by simp⟩ ?_;generalize X:aI _ Y _=HP;replace Z:=(congrFun X.symm i8).trans ((aD _ _ _ _ (by first|exact I|exact ne_i12_i8.symm)).trans Z);replace Rt:=(congrFun X.symm jt).trans ((aD _ _ _ _ (by first|exact ne_jt_i12|exact F.symm)).trans Rt);replace E:HP Y=some (gI (jO 0 (W (W (pP l b+g.1)-D)) { fD l.sheet k b D with miles:=W ((fD l.sheet k b D).miles+g.2.1) } jt)):=by rw[<-X,aA];rfl
   clear X;simp only[go_sem,h2,h4,h8,J,O,aa,ae,E,Z,Rt];refine aB (fun _=>?_) (fun hb=>by simp at hb);simp only[go_sem,h2,h4,h8,J,O,aa];refine aB (fun hw=>?_) (fun hw=>?_)
   . rw[if_pos (by simpa using hw)]
     simp only[go_sem,h8];refine aM Z (by simp) ?_;simp only[go_sem,h8];exact .refl _
   rw[if_neg (by simpa using hw)];simp only[go_sem,h2,h4,h8,J,O,aa,E];refine cE so3 E ⟨by simp,rfl,by simp⟩ ?_;generalize X:aI _ Y _=HP;replace Z:=(congrFun X.symm i8).trans ((aD _ _ _ _ (by first|exact I|exact ne_i12_i8.symm)).trans Z);replace Rt:=(congrFun X.symm jt).trans ((aD _ _ _ _ (by first|exact ne_jt_i12|exact F.symm)).trans Rt);replace E:HP Y=some (gI (jO 0 (W (W (pP l b+g.1)-D)) { fD l.sheet k b D with miles:=W ((fD l.sheet k b D).miles+g.2.1),end_:=g.1 } jt)):=by rw[<-X,aA];rfl
   clear X;simp only[go_sem,h2,h4,h8,J,O,aa,ae,E,Z,Rt];refine cE so3 E ⟨by simp,rfl,by simp⟩ ?_;generalize X:aI _ Y _=HP;replace Z:=(congrFun X.symm i8).trans ((aD _ _ _ _ (by first|exact I|exact ne_i12_i8.symm)).trans Z);replace Rt:=(congrFun X.symm jt).trans ((aD _ _ _ _ (by first|exact ne_jt_i12|exact F.symm)).trans Rt);replace E:HP Y=some (gI (jO g.1 (W (W (pP l b+g.1)-D)) { fD l.sheet k b D with miles:=W ((fD l.sheet k b D).miles+g.2.1),end_:=g.1 } jt)):=by rw[<-X,aA];rfl
   clear X;simp only[go_sem,h2,h4,h8,J,O,aa,ae,E,Z,Rt];refine aB (fun hd=>?_) (fun hd=>?_)
   . rw[if_pos (by simpa using hd)]
     simp only[go_sem,h8];refine aM Z (by simp) ?_;simp only[go_sem,h8];exact .refl _
   . rw[if_neg (by simpa using hd)]
     simp only[go_sem,h8,aa,E];refine aM Z ⟨by simp,rfl,Xag _⟩ ?_;simp only[go_sem,h8];have hm:=(rV l.sheet k b D).1;have:=fun H=>M7 (H:=H) (j:=jt) (l:=⟨g.1,W (W (pP l b+g.1)-D),{ fD l.sheet k b D with miles:=W ((fD l.sheet k b D).miles+g.2.1),end_:=g.1 }⟩)
     simp only[hm]at this |-;exact .tup [.agg (jO _ _ _ jt),int 0] _ (.cons _ _ _ _ (.agg _ _ (this _ ((aD _ _ _ _ ab.symm).trans Rt))) (ConvL.refl _))
end Go.Proofs.YtdlijlecpopadaaGreatDoor.Sq
end
section
namespace Go.Proofs.YtdlijlecpopadaaGreatDoor.Sq
open Go.Proofs.Tryz(prog)
open Go.Aw Go.Aw.D Go.Proofs Ty
open Mv (bZ cQ NC.pc aT)
def A9(x:Instance)(t:VType)(st:List Stop):List Bool->Nat->Lab->Except Int Lab
 | [],_,l=>.ok l
 | b::bs,k,l=>match kV x t st k l b with
   | .error e=>.error e
   | .ok l'=>A9 x t st bs (k+1) l'
def KW(e:Except Int Lab):Sheet:=match e with| .ok l=>l.sheet| .error _=>cN
theorem Jv{x:Instance}{t:VType}{st:List Stop}{k:Nat}{l:Lab}{b:Bool}{e:Int}(h:kV x t st k l b=.error e):e≠0:=by
 unfold kV at h;split at h
 . exact Jo h
 . exact Iw h
theorem DS{x:Instance}{t:VType}{st:List Stop}{k:Nat}{l l':Lab}{b:Bool}(F:k<st.length)(E:l.sheet.times.length=k)(h:kV x t st k l b=.ok l'):l'.sheet.times.length=k+1:=by
 unfold kV at h;rw[List.getElem?_eq_getElem F]at h;simp only at h;unfold qK at h;split at h
 . cases h
 . split at h
   . cases h
   . split at h
     . cases h
     . injection h with h
       subst h;simp[Gy,(rV _ _ _ _).2.2,E]
theorem amJ(x:Instance)(t:VType)(r:Route)(st:List Stop)(bs:List Bool)(hn:NetOk x.net)(ak:st.length<=1048575)(hb:bs.length<=st.length+1):
   PC prog 262 [.agg (cY x t r st),.sl (bs.map fX)] (.tup [.agg (dB (KW (A9 x t st bs 0 (qX t r)))),int (G8 (A9 x t st bs 0 (qX t r)))]):=by
 refine pcd Tryz.func262 ?_;unfold Tryz.f262;simp only[gdS];simp only[go_sem];refine aN fun i4 ah=>?_
 generalize ae:aI _ i4 _=HGi4;have J:HGi4 i4=some (iP (dB cN)):=by rw[<-ae,aA];try rfl
 clear ae ah;simp only[go_sem,J];refine PC.use (L0 x t r st) ?_;simp only[go_sem];refine aN fun i6 ad=>?_
 have E:i4≠i6:=aO J ad;simp only[go_sem,J];refine aM (aA _ _ _) (by simp[lA]) ?_;generalize ac:aI (aI _ i6 _) i6 _=HGi6;replace J:=(congrFun ac.symm i4).trans ((aD _ _ _ _ E).trans ((aD _ _ _ _ E).trans J));have R6:HGi6 i6=some (gI (cX (qX t r))):=by rw[<-ac,aA];try rfl
 clear ac ad;simp only[go_sem,R6,J];refine⟨fun ρ H=>∃(k:Nat) (l:Lab),k<=bs.length/\ρ 2=.rp (cY x t r st) 0/\ρ 4=.op i4 0 0/\ρ 6=.op i6 0 0/\ρ 13=.sl (bs.map fX)/\ρ 14=int bs.length/\ρ 15=int k/\H i4=some (iP (dB cN))/\H i6=some (gI (cX l))/\(k<=st.length->l.sheet.times.length=k)/\A9 x t st bs 0 (qX t r)=A9 x t st (bs.drop k) k l,fun ρ _=>bs.length-aX (ρ 15),
   ⟨0,qX t r,Xab _,by simp only[go_sem],by simp only[go_sem],by simp only[go_sem],by simp only[go_sem],by simp only[go_sem,Xaa],by simp only[go_sem];rfl,J,R6,fun _=>rfl,rfl⟩,?_⟩
 clear J R6;rintro ρ H ⟨k,l,hk,h2,h4,h6,X,Y,O,J,R6,hl,he⟩;simp only[go_sem,h2,h4,h6,X,Y,O];refine aB (fun aa=>?_) (fun af=>?_)
 . have aa:=aZ aa
   obtain⟨b,ag⟩:=aQ aa;have b1:=inB aa;rw[ML ag,A9]at he;simp only[go_sem,h2,h4,h6,X,Y,O,aH ag,b1,fX,R6];refine PC.use (ZD x t r st l k b hn (by omega) (by omega) (hl (by omega))) ?_;simp only[go_sem,h2,h4,h6,X,Y,O];refine aN fun i9 ab=>?_
   have F:i4≠i9:=aO J ab;have I:i6≠i9:=aO R6 ab;simp only[go_sem,h2,h4,h6,X,Y,O,J,R6];refine aM (aA _ _ _) (by simp[lA]) ?_;generalize Z:aI (aI _ i9 _) i9 _=HGi9;replace J:=(congrFun Z.symm i4).trans ((aD _ _ _ _ F).trans ((aD _ _ _ _ F).trans J));replace R6:=(congrFun Z.symm i6).trans ((aD _ _ _ _ I).trans ((aD _ _ _ _ I).trans R6));have R9:HGi9 i9=some (gI (cX (Y2 (kV x t st k l b)))):=by rw[<-Z,aA];try rfl
   clear Z ab;simp only[go_sem,h2,h4,h6,X,Y,O,R9,J,R6];cases hs:kV x t st k l b with
   | error e=>
     rw[hs]at he;have ai:=Jv hs;refine aB (fun _=>?_) (fun hb=>by simp[G8]at hb;exact absurd hb ai);simp only[go_sem,h4];refine aM J (by simp) ?_;simp only[go_sem,h4];rw[he];exact .refl _
   | ok l'=>
     rw[hs]at he R9;refine aB (fun hb=>by simp[G8]at hb) (fun _=>?_);simp only[go_sem,h2,h4,h6,X,Y,O,R9];refine aM R6 (by simp[lA]) ?_;generalize hP:aI _ i6 _=HP;replace J:=(congrFun hP.symm i4).trans ((aD _ _ _ _ (by first|exact E|exact ne_i6_i4.symm)).trans J);replace R6:HP i6=some (gI (cX l')):=by rw[<-hP,aA];rfl
     clear hP;simp only[go_sem,h2,h4,h6,X,Y,O,aS (show k<=4611686018427387904 by omega),R6,J];exact⟨⟨k+1,l',aa,rfl,rfl,fun aj=>DS (by omega) (hl (by omega)) hs,he⟩,by simp only[aG];omega⟩
 . have af:=bD hk af
   subst af;rw[List.drop_length,A9]at he;simp only[go_sem,h4,h6,R6];refine aM J (by simp[jU]) ?_;simp only[go_sem,h4];rw[he];exact .refl _
theorem aeN(l m:Lab):PC prog 301 [.agg (cX l),.agg (cX m)] (boo (wE l m)):=by
 refine pcd Tryz.func301 ?_;unfold Tryz.f301;simp only[gdS];simp only[go_sem];exact .refl _
theorem afA(l m:Lab):PC prog 300 [.agg (cX l),.rp (cX m) 0] (boo (wE l m)):=by
 refine pcd Tryz.func300 ?_;unfold Tryz.f300;simp only[gdS];simp only[go_sem];refine PC.use (aeN l m) ?_;simp only[go_sem];exact .refl _
theorem Le{g:Nat}{cap:List AV}{p:Lab->Bool}(l:List Lab)(hl:l.length<=4000000000000000000)(Y:aE prog g=true)(hg:∀v∈l,PC prog g (.agg (cX v)::cap) (boo (p v))):
   PC prog 320 [.sl (l.map cX),.fn g cap] (int (nE p l 0)):=by
 refine pcd Tryz.func320 ?_;unfold Tryz.f320;simp only[gdS];simp only[go_sem];refine⟨fun ρ _=>∃k:Nat,k<=l.length/\ρ 0=.sl (l.map cX)/\ρ 1=.fn g cap/\ρ 7=int l.length/\ρ 8=int k/\∀u∈l.take k,p u=false,fun ρ _=>l.length-aX (ρ 8),⟨0,Xab _,rfl,rfl,rfl,rfl,by simp⟩,?_⟩;rintro ρ H ⟨k,hk,h0,h1,J,I,X⟩;simp only[go_sem,h0,h1,J,I];refine aB (fun E=>?_) (fun F=>?_)
 . have E:=aZ E
   obtain⟨u,O⟩:=aQ E;have b1:=inB E;simp only[go_sem,h0,h1,J,I,aH O,b1,Y];refine PC.use (hg u (Xad O)) ?_;simp only[go_sem,h0,h1,J,I];refine aB (fun Z=>?_) (fun Z=>?_)
   . simp only[go_sem,I]
     exact bZ (by rw[lE X O Z];omega)
   . simp only[go_sem,h0,h1,J,I,aS (show k<=4611686018427387904 by omega)]
     exact⟨⟨k+1,E,rfl,aT (p:=fun u=>p u=false) O Z X⟩,by simp only[aG];omega⟩
 . have F:=bD hk F
   subst F;rw[Xaf]at X;simp only[go_sem];exact bZ (by rw[jQ X])
theorem Ei{g:Nat}{cap:List AV}{p:Lab->Bool}(l:List Lab)(F:l.length<=4000000000000000000)(E:aE prog g=true)(I:∀v∈l,PC prog g (.agg (cX v)::cap) (boo (p v))):
   PC prog 299 [.sl (l.map cX),.fn g cap] (boo (l.any p)):=by
 refine pcd Tryz.func299 ?_;unfold Tryz.f299;simp only[gdS];simp only[go_sem];refine PC.use (Le l F E I) ?_;simp only[go_sem];exact cQ (mE l 0 (Xaj _))
def nX(x:Instance)(t:VType)(st:List Stop)(k:Nat)(out:List Lab)(l:Lab)(bs:List Bool):List Lab:=(bs.map fun b=>kV x t st k l b).foldl vS out
def DG(x:Instance)(t:VType)(r:Route)(st:List Stop)(ls:List Lab)(k:Nat):List Lab:=ls.foldl (fun out l=>nX x t st k out l (gP r.rests k)) []
theorem Yj(out:List Lab)(e:Except Int Lab):(vS out e).length<=out.length+1:=by
 unfold vS;split
 . omega
 . split
   . omega
   . simp
theorem DK(f:List Bool)(k:Nat):(gP f k).length<=2:=by unfold gP;split <;> simp
theorem CP(x:Instance)(t:VType)(st:List Stop)(k:Nat)(l:Lab):∀(bs:List Bool) (out:List Lab),(nX x t st k out l bs).length<=out.length+bs.length
 | [],out=>by simp[nX]
 | b::bs,out=>by
   have:=CP x t st k l bs (vS out (kV x t st k l b));have E:=Yj out (kV x t st k l b);simp only[nX,Xbk,Xbg,Xac]at this |-;omega
theorem C6(x:Instance)(t:VType)(r:Route)(st:List Stop)(k:Nat):∀(ls:List Lab) (out:List Lab),(ls.foldl (fun out l=>nX x t st k out l (gP r.rests k)) out).length<=out.length+2*ls.length
 | [],out=>by simp
 | l::ls,out=>by
   have:=C6 x t r st k ls (nX x t st k out l (gP r.rests k));have F:=CP x t st k l (gP r.rests k) out;have E:=DK r.rests k;simp only[Xbg,Xac]at this |-;omega
abbrev TH(l:List Lab):Row:=⟨321,7,l.map cX⟩
theorem Fi:∀l:List Lab,cZ 7 (l.map cX)
 | []=>trivial
 | _::r=>⟨rfl,Fi r⟩
theorem Gz:∀l:List Bool,cZ 1 (l.map fX)
 | []=>trivial
 | _::r=>⟨rfl,Gz r⟩
theorem QQ{x:Instance}{t:VType}{st:List Stop}{k m:Nat}{out:List Lab}{l:Lab}{bs:List Bool}{b:Bool}(h:bs[m]?=some b):nX x t st k out l (bs.take (m+1))=vS (nX x t st k out l (bs.take m)) (kV x t st k l b):=by
 unfold nX;rw[bX h,Xat,List.foldl_append];rfl
theorem amX(x:Instance)(t:VType)(r:Route)(st:List Stop)(ls:List Lab)(k:Nat)(hn:NetOk x.net)(ba:st.length<=1048575)(hk:k<=st.length)(a6:ls.length<=4194304)(hl:∀l∈ls,l.sheet.times.length=k):
   PC prog 261 [.agg (cY x t r st),.sl (ls.map cX),int k] (.sl ((DG x t r st ls k).map cX)):=by
 refine pcb (fun t=>t == 8) Tryz.func261 ?_;unfold Tryz.f261;simp only[gdS];simp only[go_sem];refine bH (fun aq H'=>aq 1=.sl (ls.map cX)/\aq 2=int k/\aq 3=.rp (cY x t r st) 0/\aq 7=.sl ((gP r.rests k).map fX)) ?_ fun K hK=>aB (fun hb=>?_) (fun hb=>?_)
 rotate_left
 . have hb:k<r.rests.length:=by simp at hb;omega
   simp only[go_sem,aS (show k<=4611686018427387904 by omega)];refine⟨⟨by omega,Gz _⟩,hK _ _ ⟨by simp only[go_sem],by simp only[go_sem],by simp only[go_sem],?_⟩⟩;simp only[go_sem];have:gP r.rests k=(r.rests.take (k+1)).drop k:=by
     obtain⟨c,hc⟩:=aQ hb;unfold gP;rw[if_pos hb,bX hc,List.drop_append_of_le_length (by simp;omega),Xdc (by simp;omega)];simp[List.getD,hc]
   rw[this,List.map_drop,List.map_take]
 . have hb:¬k<r.rests.length:=by simp at hb;omega
   simp only[go_sem];refine hK _ _ ⟨by simp only[go_sem],by simp only[go_sem],by simp only[go_sem],?_⟩;simp only[go_sem];unfold gP;rw[if_neg hb];rfl
 rintro ρ H ⟨h1,Z,h3,Y⟩;simp only[go_sem,h1,Z,h3,Y];refine aN fun j0 a4=>?_
 simp only[go_sem,h1,Z,h3,Y];have a9:=DK r.rests k;generalize hC:gP r.rests k=cs at *;refine⟨fun ρ H=>∃(n:Nat) (j:Nat),n<=ls.length/\ρ 2=int k/\ρ 3=.rp (cY x t r st) 0/\ρ 7=.sl (cs.map fX)/\ρ 29=.sl (ls.map cX)/\ρ 30=int ls.length/\ρ 31=int n/\ρ 8=.os j/\H j=some (TH ((ls.take n).foldl (fun out l=>nX x t st k out l cs) [])),fun ρ _=>ls.length-aX (ρ 31),
   ⟨0,j0,Xab _,by simp only[go_sem,Z],by simp only[go_sem,h3],by simp only[go_sem,Y],by simp only[go_sem],by simp only[go_sem,Xaa],by simp only[go_sem];rfl,by simp only[go_sem],aA _ _ _⟩,?_⟩
 clear h1 Z h3 Y a4 j0;rintro ρ H ⟨n,j,a0,Z,h3,Y,F,J,I,h8,R⟩;simp only[go_sem,Z,h3,Y,F,J,I,h8];refine aB (fun ao=>?_) (fun av=>?_)
 . have ao:=aZ ao
   obtain⟨l,au⟩:=aQ ao;have b1:=inB ao;have az:=hl l (Xad au);have a5:((ls.take n).foldl (fun out l=>nX x t st k out l cs) []).length<=2*n:=by
     have:=C6 x t r st k (ls.take n) [];rw[hC]at this;simp at this;omega
   have ar:(ls.take (n+1)).foldl (fun out l=>nX x t st k out l cs) []=nX x t st k ((ls.take n).foldl (fun out l=>nX x t st k out l cs) []) l cs:=eY au;generalize hO:(ls.take n).foldl (fun out l=>nX x t st k out l cs) []=out0 at *;simp only[go_sem,Z,h3,Y,F,J,I,h8,aH au,b1];refine aN fun af an=>?_
   have E:j≠af:=aO R an;simp only[go_sem,Z,h3,Y,F,J,I,h8,R];refine aM (aA _ _ _) (by simp[lA]) ?_;generalize ak:aI (aI _ af _) af _=HGi10;replace R:=(congrFun ak.symm j).trans ((aD _ _ _ _ E).trans ((aD _ _ _ _ E).trans R));have O:HGi10 af=some (gI (cX l)):=by rw[<-ak,aA];try rfl
   clear ak an;simp only[go_sem,Z,h3,Y,F,J,I,h8,O,R];refine⟨fun ρ H=>∃(m:Nat) (j:Nat),m<=cs.length/\ρ 2=int k/\ρ 3=.rp (cY x t r st) 0/\ρ 7=.sl (cs.map fX)/\ρ 10=.op af 0 0/\ρ 29=.sl (ls.map cX)/\ρ 30=int ls.length/\ρ 31=int n/\ρ 35=.sl (cs.map fX)/\ρ 36=int cs.length/\ρ 37=int m/\ρ 8=.os j/\j≠af/\H af=some (gI (cX l))/\H j=some (TH (nX x t st k out0 l (cs.take m))),fun ρ _=>cs.length-aX (ρ 37),
     ⟨0,j,Xab _,by simp only[go_sem,Z],by simp only[go_sem,h3],by simp only[go_sem,Y],by simp only[go_sem],by simp only[go_sem,F],by simp only[go_sem,J],by simp only[go_sem,I],by simp only[go_sem],by simp only[go_sem,Xaa],by simp only[go_sem];rfl,by simp only[go_sem,h8],E,O,R⟩,?_⟩
   clear Z h3 Y F J I h8 R O E j;rintro ρ H ⟨m,j,hm,Z,h3,Y,ad,F,J,I,ab,ae,ac,h8,E,O,R⟩;simp only[go_sem,Z,h3,Y,ad,F,J,I,ab,ae,ac,h8];refine aB (fun aa=>?_) (fun al=>?_)
   . have aa:=aZ aa
     obtain⟨b,ax⟩:=aQ aa;have b2:=inB aa;have a8:=CP x t st k l (cs.take m) out0;have hf:=QQ (x:=x) (t:=t) (st:=st) (k:=k) (out:=out0) (l:=l) ax;have a7:(cs.take m).length<=2:=by simp;omega
     simp only[go_sem,Z,h3,Y,ad,F,J,I,ab,ae,ac,h8,aH ax,b2,fX,O];refine PC.use (ZD x t r st l k b hn (by omega) hk az) ?_;simp only[go_sem,Z,h3,Y,ad,F,J,I,ab,ae,ac,h8];refine aN fun am aj=>?_
     have X:af≠am:=aO O aj;have ag:j≠am:=aO R aj;simp only[go_sem,Z,h3,Y,ad,F,J,I,ab,ae,ac,h8,O,R];refine aM (aA _ _ _) (by simp[lA]) ?_;generalize ah:aI (aI _ am _) am _=HGi13;replace O:=(congrFun ah.symm af).trans ((aD _ _ _ _ X).trans ((aD _ _ _ _ X).trans O));replace R:=(congrFun ah.symm j).trans ((aD _ _ _ _ ag).trans ((aD _ _ _ _ ag).trans R));have ap:HGi13 am=some (gI (cX (Y2 (kV x t st k l b)))):=by rw[<-ah,aA];try rfl
     clear ah aj;simp only[go_sem,Z,h3,Y,ad,F,J,I,ab,ae,ac,h8,ap,O,R];generalize hF:nX x t st k out0 l (cs.take m)=out at *;cases hs:kV x t st k l b with
     | error e=>
       rw[hs]at hf ap;have aw:(e == 0)=false:=by simpa using Jv hs
       refine⟨boo false,fun hg=>by simp[gt,G8,aw]at hg,?_⟩;simp only[go_sem,G8,aw];refine aB (fun hb=>by simp at hb) (fun _=>?_);simp only[go_sem,Z,h3,Y,ad,F,J,I,ab,ae,ac,h8,aS (show m<=4611686018427387904 by omega)];exact⟨⟨m+1,j,aa,rfl,rfl,E,O,by rw[hf];exact R⟩,by simp only[aG];omega⟩
     | ok l'=>
       rw[hs]at hf ap;refine⟨_,fun _=>.inl ⟨[.sl (out.map cX),.fn 300 [.rp (cX l') 0]],.cons _ _ _ _ (.row _ _ _ R (ConvE.refl _)) (.cons _ _ _ _ (.fn _ _ _ (.cons _ _ _ _ (.ptr _ _ _ _ _ ap (by simp) (ConvL.refl _)) .nil)) .nil),Ei out (by omega) (by simp only[go_sem]) fun v _=>afA v l',rfl⟩,?_⟩;simp only[go_sem,G8,Z,h3,Y,ad,F,J,I,ab,ae,ac,h8];refine aB (fun hb=>?_) (fun hb=>?_)
       . have hb:(out.any fun v=>wE v l')=false:=by simpa using hb
         simp only[go_sem,Z,h3,Y,ad,F,J,I,ab,ae,ac,h8,ap];refine bG R ⟨rfl,rfl⟩ ⟨rfl,trivial⟩ (by simp only[Xaa,Xac,List.length_nil];omega) (fun j' ay=>?_);have ai:af≠j':=aO O ay;simp only[go_sem,Z,h3,Y,ad,F,J,I,ab,ae,ac,h8,aS (show m<=4611686018427387904 by omega)];refine⟨⟨m+1,j',aa,rfl,rfl,ai.symm,dN O E ay,?_⟩,by simp only[aG];omega⟩;have e1:vS out (.ok l')=out++[l']:=by
           show(if(out.any fun v=>wE v l')=true then out else out++[l'])=_;rw[if_neg (by rw[hb];simp)]
         rw[hf,e1];exact Bu (l':=[l']) rfl
       . have hb:(out.any fun v=>wE v l')=true:=by simpa using hb
         simp only[go_sem,Z,h3,Y,ad,F,J,I,ab,ae,ac,h8,aS (show m<=4611686018427387904 by omega)];refine⟨⟨m+1,j,aa,rfl,rfl,E,O,?_⟩,by simp only[aG];omega⟩;have e1:vS out (.ok l')=out:=by
           show(if(out.any fun v=>wE v l')=true then out else out++[l'])=_;rw[if_pos hb]
         rw[hf,e1];exact R
   . have al:=bD hm al
     subst al;rw[Xaf]at R;simp only[go_sem,Z,h3,Y,F,J,I,h8,aS (show n<=4611686018427387904 by omega)];exact⟨⟨n+1,j,ao,rfl,rfl,by rw[ar];exact R⟩,by simp only[aG];omega⟩
 . have av:=bD a0 av
   subst av;rw[Xaf]at R;simp only[go_sem,h8];unfold DG;rw[hC];exact .row _ _ _ R (ConvE.refl _)
def dpP(x:Instance)(t:VType)(r:Route)(st:List Stop):Nat->List Lab
 | 0=>[qX t r]
 | k+1=>DG x t r st (dpP x t r st k) k
def sM(b m:Lab):Lab:=if decide (m.sheet.end_<b.sheet.end_)=true then m else b
def Ie(x:Instance)(t:VType)(r:Route):Sheet×Int:=match dpP x t r (cJ x r.visits) (r.visits.length+1)with
 | []=>(KW (A9 x t (cJ x r.visits) (sR r) 0 (qX t r)),G8 (A9 x t (cJ x r.visits) (sR r) 0 (qX t r)))
 | l0::ls=>((ls.foldl sM l0).sheet,0)
def lN(x:Instance)(r:Route):Sheet×Int:=
 if(!gG x r||decide ((r.rests.length:Int)>(r.visits.length:Int)+1))=true then(cN,2)else match x.types[r.type.toNat]? with
 | some t=>Ie x t r
 | none=>(cN,2)
theorem Yb{out:List Lab}{e:Except Int Lab}{m:Lab}(h:m∈vS out e):m∈out\/e=.ok m:=by
 unfold vS at h;split at h
 . exact .inl h
 . rename_i l
   split at h
   . exact .inl h
   . rcases Xaq.1 h with h|h
     . exact .inl h
     . simp at h;exact .inr (by rw[h])
theorem IJ{x:Instance}{t:VType}{st:List Stop}{k:Nat}{l m:Lab}:∀(bs:List Bool) (out:List Lab),m∈nX x t st k out l bs->m∈out\/∃b,kV x t st k l b=.ok m
 | [],out,h=>.inl h
 | b::bs,out,h=>by
   rcases IJ bs (vS out (kV x t st k l b)) h with h|h
   . rcases Yb h with h|h
     . exact .inl h
     . exact .inr ⟨b,h⟩
   . exact .inr h
theorem Ac{x:Instance}{t:VType}{r:Route}{st:List Stop}{k:Nat}{m:Lab}:∀(ls:List Lab) (out:List Lab),m∈ls.foldl (fun out l=>nX x t st k out l (gP r.rests k)) out->m∈out\/∃l∈ls,∃b,kV x t st k l b=.ok m
 | [],out,h=>.inl h
 | l::ls,out,h=>by
   rcases Ac ls _ h with h|⟨l',E,b,F⟩
   . rcases IJ _ _ h with h|⟨b,F⟩
     . exact .inl h
     . exact .inr ⟨l,by simp,b,F⟩
   . exact .inr ⟨l',by simp[E],b,F⟩
theorem Hh{x:Instance}{t:VType}{r:Route}{st:List Stop}:∀(k:Nat),k<=st.length->∀l∈dpP x t r st k,l.sheet.times.length=k
 | 0,_,l,h=>by simp[dpP]at h;subst h;rfl
 | k+1,hk,l,h=>by
   rcases Ac _ _ h with h|⟨l',E,b,F⟩
   . simp at h
   . exact DS (by omega) (Hh k (by omega) l' E) F
theorem TJ(x:Instance)(t:VType)(r:Route)(st:List Stop):∀k:Nat,(dpP x t r st k).length<=2^k
 | 0=>by simp[dpP]
 | k+1=>by
   have h1:=C6 x t r st k (dpP x t r st k) [];have E:=TJ x t r st k;rw[Xbs];simp only[dpP,DG]at h1 |-;simp at h1;omega
theorem QL(x:Instance)(r:Route):∃F t' r' E,AI x r=(cY F t' r' E,gG x r)/\(gG x r=true->F=x/\r'=r/\E=cJ x r.visits/\x.types[r.type.toNat]?=some t'):=by
 unfold AI;cases J:gG x r with
 | false=>exact⟨_,_,_,_,by rw[if_neg (by simp)],fun h=>by simp at h⟩
 | true=>
   have:=AD J;obtain⟨t,I⟩:=aQ (show r.type.toNat<x.types.length by omega);exact⟨x,t,r,cJ x r.visits,by rw[if_pos rfl,I],fun _=>⟨rfl,rfl,rfl,I⟩⟩
theorem amV(x:Instance)(r:Route)(hn:NetOk x.net)(hr:r.visits.length<=1048576):PC prog 219 [.agg (aL x),.agg (dO r)] (.tup [.agg (dB (lN x r).1),int (lN x r).2]):=by
 have w:IntKind.i64.wrap ((r.visits.length:Int)+1)=(r.visits.length:Int)+1:=aW (by omega);refine pcb (fun t=>t == 57) Tryz.func219 ?_;unfold Tryz.f219;simp only[gdS];simp only[go_sem];refine aN fun i4 ax=>?_
 generalize ar:aI _ i4 _=HGi4;have E:HGi4 i4=some (iP (dB cN)):=by rw[<-ar,aA];try rfl
 clear ar ax;simp only[go_sem,E];refine PC.use (apA x r hr) ?_;simp only[go_sem];obtain⟨x',t',r',a8,a0,ay⟩:=QL x r;rw[a0];refine aN fun i6 aq=>?_
 have Z:i4≠i6:=aO E aq;simp only[go_sem,w,E];refine aM (aA _ _ _) (by simp[D6]) ?_;generalize ak:aI (aI _ i6 _) i6 _=HGi6;replace E:=(congrFun ak.symm i4).trans ((aD _ _ _ _ Z).trans ((aD _ _ _ _ Z).trans E));have R6:HGi6 i6=some (vZ (cY x' t' r' a8)):=by rw[<-ak,aA];try rfl
 clear ak aq;simp only[go_sem,w,R6,E];refine aB (fun h1=>?_) (fun h1=>?_)
 . simp only[go_sem]
   refine aM E (by simp) ?_;simp only[go_sem];have e:lN x r=(cN,2):=by unfold lN;rw[if_pos h1]
   rw[e];exact .refl _
 have hp:gG x r=true:=by
   rw[Xai]at h1;simpa using h1.1
 have a4:r.rests.length<=r.visits.length+1:=by
   rw[Xai]at h1;have:=h1.2;simp at this;omega
 have be:=AD hp;obtain⟨t,ht⟩:=aQ (show r.type.toNat<x.types.length by omega);have bb:r.visits.length<=20:=by
   unfold gG at hp;simp only[Xam,Xbh,Xai,decide_eq_false_iff_not]at hp;omega
 have eB:lN x r=Ie x t r:=by unfold lN;rw[if_neg (by rw[h1];simp),ht]
 obtain⟨ex,er,es,aj⟩:=ay hp;rw[ex,er,es]at R6;rw[ht]at aj;injection aj with aj;rw[<-aj]at R6;clear a0 ay ex er es aj;rw[eB];have a6:(cJ x r.visits).length=r.visits.length:=by simp[cJ]
 have az:=TJ x t r (cJ x r.visits);have a7:=Hh (x:=x) (t:=t) (r:=r) (st:=cJ x r.visits);unfold Ie;generalize hS:cJ x r.visits=st at *;simp only[go_sem,R6];refine PC.use (L0 x t r st) ?_;simp only[go_sem];refine⟨fun ρ H=>∃k:Nat,k<=r.visits.length+1/\ρ 3=.rp (dO r) 0/\ρ 4=.op i4 0 0/\ρ 6=.op i6 0 0/\ρ 8=int ((r.visits.length:Int)+1)/\ρ 38=int ((r.visits.length:Int)+1)/\ρ 39=int k/\ρ 9=.sl ((dpP x t r st k).map cX)/\H i4=some (iP (dB cN))/\H i6=some (vZ (cY x t r st)),fun ρ _=>r.visits.length+1-aX (ρ 39),
   ⟨0,Xab _,by simp only[go_sem],by simp only[go_sem],by simp only[go_sem],by simp only[go_sem],by simp only[go_sem],by simp only[go_sem];rfl,by simp only[go_sem];rfl,E,R6⟩,?_⟩
 clear E R6;rintro ρ H ⟨k,hk,h3,O,h6,h8,ap,ao,h9,E,R6⟩;simp only[go_sem,h3,O,h6,h8,ap,ao,h9];refine aB (fun ab=>?_) (fun ah=>?_)
 . have ab:k<=r.visits.length:=by simp at ab;omega
   simp only[go_sem,h3,O,h6,h8,ap,ao,h9,R6];have bd:2^k<=2^20:=Xay (by decide) (by omega);have:=az k;refine PC.use (amX x t r st (dpP x t r st k) k hn (by omega) (by omega) (by omega) (a7 k (by omega))) ?_;simp only[go_sem,h3,O,h6,h8,ap,ao,aS (show k<=4611686018427387904 by omega)];exact⟨⟨k+1,by omega,rfl,rfl,E,R6⟩,by simp only[aG];omega⟩
 have ah:k=r.visits.length+1:=by simp at ah;omega
 subst ah;simp only[go_sem,h3,O,h6,h8,h9];cases hd:dpP x t r st (r.visits.length+1)with
 | nil=>
   rw[hd]at h9;refine aB (fun _=>?_) (fun hb=>by simp at hb);simp only[go_sem,h3,O,h6,h8,h9];refine⟨⟨by omega,by omega⟩,aN fun j hj=>?_⟩;simp only[go_sem,h3,O,h6,h8,h9];have a9:(((r.visits.length:Int)+1)).toNat=r.visits.length+1:=by omega
   refine adA awB (aA _ _ _) (.inl ⟨rfl,rfl,rfl⟩) (.inl rfl) rfl (Gz _) ?_;have al:=aO E hj;have aw:=aO R6 hj;generalize hG:aI (aI H j _) j _=H1;have Rj:H1 j=some (agA (sR r)):=by
     rw[<-hG,aA,a9];exact congrArg (fun es=>some (⟨4,1,es⟩:Row)) (Ss a4)
   replace E:=(congrFun hG.symm i4).trans (akC E hj);replace R6:=(congrFun hG.symm i6).trans (akC R6 hj);clear hG hj;simp only[go_sem,h3,O,h6,h8,h9,R6];refine Ae (by simp only[go_sem]) Rj fun Hr bc hr=>?_
   replace E:=(hr i4 al).trans E;simp only[go_sem,h3,O,h6,h8,h9];refine PC.use (amJ x t r st (sR r) hn (by omega) (by rw[Fm a4,a6];exact Xag _)) ?_;simp only[go_sem,h3,O,h6,h8,h9];refine aM E (by simp[jU]) ?_;simp only[go_sem,O];exact .refl _
 | cons l0 ls=>
   rw[hd]at h9;have ba:=Fi (l0::ls);have av:(l0::ls).length<=2^21:=by
     have:=az (r.visits.length+1);rw[hd]at this;exact Xah this (Xay (by decide) (by omega))
   refine aB (fun hb=>by simp at hb;omega) (fun _=>?_);have b1:(0:Int)<=0/\(0:Int)<((l0::ls).length:Int):=⟨Xaj _,by simp⟩;simp only[go_sem,h3,O,h6,h8,h9,aH (l:=l0::ls) (k:=0) (x:=l0) rfl,b1];refine⟨by omega,?_⟩;refine aN fun Y an=>?_
   have F:i4≠Y:=aO E an;simp only[go_sem,h3,O,h6,h8,h9,E];refine aM (aA _ _ _) (by simp[lA]) ?_;generalize ai:aI (aI _ Y _) Y _=HGi12;replace E:=(congrFun ai.symm i4).trans ((aD _ _ _ _ F).trans ((aD _ _ _ _ F).trans E));have I:HGi12 Y=some (gI (cX l0)):=by rw[<-ai,aA];try rfl
   clear ai an;simp only[go_sem,h3,O,h6,h8,h9,I,E];refine⟨⟨by omega,Fi ls⟩,?_⟩;refine⟨fun ρ H=>∃(m:Nat),m<=ls.length/\ρ 4=.op i4 0 0/\ρ 12=.op Y 0 0/\ρ 65=.sl (ls.map cX)/\ρ 66=int ls.length/\ρ 67=int m/\H i4=some (iP (dB cN))/\H Y=some (gI (cX ((ls.take m).foldl sM l0))),fun ρ _=>ls.length-aX (ρ 67),
     ⟨0,Xab _,by simp only[go_sem,O],by simp only[go_sem],by simp only[go_sem],by simp only[go_sem,Xaa],by simp only[go_sem];rfl,E,I⟩,?_⟩
   clear h3 O h6 h8 h9 E I ap ao R6;rintro ρ H ⟨m,hm,O,ac,ad,af,ag,E,I⟩;simp only[go_sem,O,ac,ad,af,ag];refine aB (fun ab=>?_) (fun ah=>?_)
   . have ab:=aZ ab
     obtain⟨l,au⟩:=aQ ab;have b2:=inB ab;have hf:(ls.take (m+1)).foldl sM l0=sM ((ls.take m).foldl sM l0) l:=eY au;generalize (ls.take m).foldl sM l0=bl at *;simp only[go_sem,O,ac,ad,af,ag,aH au,b2];refine aN fun am ae=>?_
     have X:i4≠am:=aO E ae;have J:Y≠am:=aO I ae;simp only[go_sem,O,ac,ad,af,ag,E,I];refine aM (aA _ _ _) (by simp[lA]) ?_;generalize aa:aI (aI _ am _) am _=HGi14;replace E:=(congrFun aa.symm i4).trans ((aD _ _ _ _ X).trans ((aD _ _ _ _ X).trans E));replace I:=(congrFun aa.symm Y).trans ((aD _ _ _ _ J).trans ((aD _ _ _ _ J).trans I));have a5:HGi14 am=some (gI (cX l)):=by rw[<-aa,aA];try rfl
     clear aa ae;simp only[go_sem,O,ac,ad,af,ag,a5,E,I];refine aB (fun hb=>?_) (fun hb=>?_)
     . simp only[go_sem,O,ac,ad,af,ag,a5]
       refine aM I (by simp[lA]) ?_;generalize hP:aI _ Y _=HP;replace E:=(congrFun hP.symm i4).trans ((aD _ _ _ _ (by first|exact F|exact ne_i12_i4.symm)).trans E);replace I:HP Y=some (gI (cX l)):=by rw[<-hP,aA];rfl
       clear hP;simp only[go_sem,O,ac,ad,af,ag,aS (show m<=4611686018427387904 by simp at av;omega),I,E];exact⟨⟨m+1,ab,rfl,by rw[hf];unfold sM;rw[if_pos hb]⟩,by simp only[aG];omega⟩
     . simp only[go_sem,O,ac,ad,af,ag,aS (show m<=4611686018427387904 by simp at av;omega)]
       exact⟨⟨m+1,ab,rfl,E,by rw[hf];unfold sM;rw[if_neg (by rw[hb];simp)];exact I⟩,by simp only[aG];omega⟩
   . have ah:=bD hm ah
     subst ah;rw[Xaf]at I;simp only[go_sem,O,ac,I];refine aM E (by simp[jU]) ?_;simp only[go_sem,O];exact .refl _
def AJ(p:Int×Int):List AV:=[int p.1,int p.2]
def G5(m:List (Int×Int))(o:Int):Option Nat:=m.findIdx? fun p=>p.1 == o
def Bq(m:List (Int×Int))(o:Int):Int:=((m.find? fun p=>p.1 == o).map (·.2)).getD 0
def Ka(m:List (Int×Int))(o v:Int):List (Int×Int):=match G5 m o with
 | some i=>m.set i (o,v)
 | none=>m++[(o,v)]
abbrev Kp(m:List (Int×Int)):Row:=⟨0,2,m.map AJ⟩
theorem Ih(o:Int):∀(m:List (Int×Int)) (i:Nat),zU (xL prog 3 (int o)) (m.map AJ) i=some ((G5 m o).map (·+i))
 | [],i=>rfl
 | p::m,i=>by
   have ih:=Ih o m (i+1);have E:xL prog 3 (int o) ((AJ p).getD 0 .any)=some (o == p.1):=by
     show xL prog 3 (int o) (int p.1)=_;unfold xL;simp only[kk3];simp[xK]
   rw[Xbk,zU,E];unfold G5 at *;rw[List.findIdx?_cons];by_cases h:o=p.1
   . subst h;simp
   . have h1:(o == p.1)=false:=by simpa using h
     have F:(p.1 == o)=false:=by simpa using fun e=>h e.symm
     rw[h1,F];simp only[Xbj,if_false];rw[ih];cases m.findIdx? (fun p=>p.1 == o)with
     | none=>rfl
     | some j=>simp;omega
theorem Bl(o:Int)(m:List (Int×Int)):zU (xL prog 3 (int o)) (m.map AJ) 0=some (G5 m o):=by
 rw[Ih];cases G5 m o <;> rfl
theorem CX(o:Int):qU prog 3 (int o)=true:=by
 simp only[qU,kk3];rfl
theorem Mr(m:List (Int×Int))(o:Int):KA false (int 0) (m.map AJ) (G5 m o)=int (Bq m o):=by
 unfold KA Bq G5;induction m with
 | nil=>rfl
 | cons p m ih=>
   rw[List.findIdx?_cons,List.find?_cons];cases h:p.1 == o with
   | true=>simp[AJ]
   | false=>
     cases hi:m.findIdx? (fun p=>p.1 == o)with
     | none=>
       rw[hi]at ih;simpa using ih
     | some j=>
       rw[hi]at ih;simp at ih |-;exact ih
theorem XG(m:List (Int×Int))(o v:Int):aeI (m.map AJ) (G5 m o) (int o) (int v)=(Ka m o v).map AJ:=by
 unfold aeI Ka;cases G5 m o with
 | none=>simp[AJ]
 | some i=>simp[List.map_set,AJ]
theorem O9(m:List (Int×Int))(o v q:Int):Bq (Ka m o v) q=if q=o then v else Bq m q:=by
 unfold Bq Ka G5;induction m with
 | nil=>
   by_cases h:q=o
   . subst h;simp
   . have F:(o == q)=false:=by simpa using fun e=>h e.symm
     simp[h,F]
 | cons p m ih=>
   rw[List.findIdx?_cons];cases J:p.1 == o with
   | true=>
     have E:p.1=o:=by simpa using J
     simp only[if_true,List.set_cons_zero,List.find?_cons];by_cases h:q=o
     . subst h;simp
     . have F:(o == q)=false:=by simpa using fun e=>h e.symm
       have O:(p.1 == q)=false:=by rw[E];exact F
       simp[h,F,O]
   | false=>
     have E:p.1≠o:=by simpa using J
     cases hi:m.findIdx? (fun p=>p.1 == o)with
     | none=>
       rw[hi]at ih;simp only[Xbj,if_false,Option.map_none,List.cons_append,List.find?_cons];cases I:p.1 == q with
       | true=>
         have:q≠o:=fun e=>E ((by simpa using I:p.1=q).trans e)
         simp[this]
       | false=>simpa using ih
     | some j=>
       rw[hi]at ih;simp only[Xbj,if_false,Option.map_some,List.set_cons_succ,List.find?_cons];cases I:p.1 == q with
       | true=>
         have:q≠o:=fun e=>E ((by simpa using I:p.1=q).trans e)
         simp[this]
       | false=>simpa using ih
theorem I2(a b:Int):PC prog 263 [int a,int b] (boo (a != -1&&a != b)):=by
 refine pcd Tryz.func263 ?_;unfold Tryz.f263;simp only[gdS];simp only[go_sem];exact .refl _
def Li(l:List Visit)(o:Int):Nat:=l.countP fun v=>v.order == o
theorem V4{l:List Visit}{k:Nat}{v:Visit}(h:l[k]?=some v)(o:Int):Li (l.take (k+1)) o=Li (l.take k) o+if v.order=o then 1 else 0:=by
 unfold Li;rw[bX h,List.countP_append];by_cases e:v.order=o
 . simp[e]
 . have:(v.order == o)=false:=by simpa using e
   simp[e]
theorem aeP(l:List Visit)(k:Nat)(o:Int):Li (l.take k) o<=l.length:=Xah List.countP_le_length (by rw[Xax];omega)
theorem FW{l:List Visit}{k:Nat}{v:Visit}(h:l[k]?=some v):qI l k=decide (Li (l.take k) v.order=0):=by
 have J:=(List.getElem?_eq_some_iff.1 h).1;rw[Xar];simp only[decide_eq_true_eq];unfold qI Li;rw[List.countP_eq_zero,Xao];constructor
 . intro I u O
   obtain⟨i,hi,rfl⟩:=List.getElem_of_mem O;have E:i<k:=by simp at hi;omega
   have:=I i (Xap.2 E);rw[eU h,eU (List.getElem?_eq_getElem (show i<l.length by omega))]at this;simpa using this
 . intro I i hi
   have E:=Xap.1 hi;have F:i<l.length:=by omega
   rw[eU h,eU (List.getElem?_eq_getElem F)];have:=I l[i] (List.mem_take_iff_getElem.2 ⟨i,by omega,rfl⟩);simpa using this
theorem ahK(x:Instance)(r:Route)(s:Sheet)(hr:r.visits.length<=1048576):PC prog 220 [.agg (aL x),.agg (dO r),.agg (dB s)] (.agg (gC (oP x r s))):=by
 refine pcd Tryz.func220 ?_;unfold Tryz.f220;simp only[gdS];simp only[go_sem];refine aN fun i6 ba=>?_
 generalize a5:aI _ i6 _=HGi6;have Y:HGi6 i6=some (pE dI):=by rw[<-a5,aA];try rfl
 clear a5 ba;simp only[go_sem,Y];refine aB (fun h1=>?_) (fun h1=>?_)
 . have h1:dF r.type x.types.length=true:=h1
   simp only[go_sem];refine aM Y (by simp) ?_;simp only[go_sem];have e:oP x r s=dI:=by unfold oP;rw[if_pos h1]
   rw[e];exact .refl _
 have h1:dF r.type x.types.length=false:=h1;have bd:0<=r.type/\r.type<(x.types.length:Int):=by simp only[dF,Xai,decide_eq_false_iff_not]at h1;omega
 obtain⟨t,ht⟩:=aQ (show r.type.toNat<x.types.length by omega);have e:oP x r s=RD x r s t:=by unfold oP;rw[if_neg (by rw[h1];simp),ht]
 rw[e];simp only[go_sem,aH ht,bd];refine aN fun i7 a4=>?_
 have an:i6≠i7:=aO Y a4;simp only[go_sem,Y];refine aM (aA _ _ _) (by simp[oU]) ?_;generalize az:aI (aI _ i7 _) i7 _=HGi7;replace Y:=(congrFun az.symm i6).trans ((aD _ _ _ _ an).trans ((aD _ _ _ _ an).trans Y));have R7:HGi7 i7=some (mL t):=by rw[<-az,aA];try rfl
 clear az a4;simp only[go_sem,R7,Y];refine⟨by decide,?_⟩;refine aN fun ac ay=>?_
 have ab:i6≠ac:=aO Y ay;simp only[go_sem,Y];refine aM (aA _ _ _) (by simp) ?_;generalize av:aI (aI _ ac _) ac _=HGi10;replace Y:=(congrFun av.symm i6).trans ((aD _ _ _ _ ab).trans ((aD _ _ _ _ ab).trans Y));have E:HGi10 ac=some (pE (xG t s)):=by rw[<-av,aA];try rfl
 clear av ay;simp only[go_sem,E,Y];refine aN fun jm a7=>?_
 have am:=aO Y a7;have aa:=aO E a7;generalize hG:aI HGi10 jm _=HM;have Rm:HM jm=some (Kp []):=by rw[<-hG,aA];rfl
 replace Y:=(congrFun hG.symm i6).trans ((aD _ _ _ _ am).trans Y);replace E:=(congrFun hG.symm ac).trans ((aD _ _ _ _ aa).trans E);clear hG a7 R7;simp only[go_sem];refine ⟨fun ρ H => ∃ (k : Nat) (m : List (Int × Int)), k <= r.visits.length /\ ρ 3 = .rp (aL x) 0 /\ ρ 4 = .rp (dO r) 0 /\ ρ 6 = .op i6 0 0 /\ ρ 10 = .op ac 0 0 /\ ρ 11 = .om jm /\ ρ 59 = .sl (r.visits.map aK) /\ ρ 60 = int r.visits.length /\ ρ 61 = int k /\ H i6 = some (pE dI) /\
     H ac=some (pE (((List.range r.visits.length).take k).foldl (jB x r) (xG t s)))/\H jm=some (Kp m)/\∀o,Bq m o=(Li (r.visits.take k) o:Nat),fun ρ _=>r.visits.length-aX (ρ 61),
   ⟨0,[],Xab _,by simp only[go_sem],by simp only[go_sem],by simp only[go_sem],by simp only[go_sem],by simp only[go_sem],by simp only[go_sem],by simp only[go_sem,Xaa],by simp only[go_sem];rfl,Y,E,Rm,fun o=>rfl⟩,?_⟩
 clear Y E Rm;rintro ρ H ⟨k,m,hk,h3,h4,h6,F,J,O,X,I,Y,E,Rm,hm⟩;simp only[go_sem,h3,h4,h6,F,J,O,X,I];refine aB (fun ar=>?_) (fun a9=>?_)
 . have ar:=aZ ar
   obtain⟨v,hv⟩:=aQ ar;have b1:=inB ar;have hs:((List.range r.visits.length).take (k+1)).foldl (jB x r) (xG t s)=jB x r (((List.range r.visits.length).take k).foldl (jB x r) (xG t s)) k:=by
     rw[bX (pV ar),List.foldl_append];rfl
   generalize hA:((List.range r.visits.length).take k).foldl (jB x r) (xG t s)=A at E hs;have ev:aF r.visits k=v.order:=eU hv;have be:=FW hv;have bh:=aeP r.visits k v.order;have bc:=V4 hv;have bb:=hm v.order;have wm:IntKind.i64.wrap (Bq m v.order+1)=Bq m v.order+1:=aW (by omega);simp only[go_sem,h3,h4,h6,F,J,O,X,I,aH hv,b1];refine aN fun au aq=>?_
   have ak:i6≠au:=aO Y aq;have ae:ac≠au:=aO E aq;have ad:jm≠au:=aO Rm aq;simp only[go_sem,h3,h4,h6,F,J,O,X,I,Y,E,Rm];refine aM (aA _ _ _) (by simp[cL]) ?_;generalize ag:aI (aI _ au _) au _=HGi13;replace Y:=(congrFun ag.symm i6).trans ((aD _ _ _ _ ak).trans ((aD _ _ _ _ ak).trans Y));replace E:=(congrFun ag.symm ac).trans ((aD _ _ _ _ ae).trans ((aD _ _ _ _ ae).trans E));replace Rm:=(congrFun ag.symm jm).trans ((aD _ _ _ _ ad).trans ((aD _ _ _ _ ad).trans Rm));have aw:HGi13 au=some (⟨97,2,[aK v]⟩):=by rw[<-ag,aA];try rfl
   clear ag aq;simp only[go_sem,h3,h4,h6,F,J,O,X,I,aw,Y,E,Rm];refine Ix Rm SR (CX _) (Bl _ _) zv3 ?_;rw[Mr];simp only[go_sem,h3,h4,h6,F,J,O,X,I,aw,wm];refine adZ Rm SR (CX _) (Bl _ _) ?_;rw[XG];generalize hP:aI _ jm _=HP;replace Y:=(congrFun hP.symm i6).trans ((aD _ _ _ _ (by first|exact am|exact ne_jm_i6.symm)).trans Y);replace E:=(congrFun hP.symm ac).trans ((aD _ _ _ _ (by first|exact aa|exact ne_jm_i10.symm)).trans E);replace aw:=(congrFun hP.symm au).trans ((aD _ _ _ _ (by first|exact ne_i13_jm|exact ad.symm)).trans aw);replace Rm:HP jm=some (Kp (Ka m v.order (Bq m v.order+1))):=by rw[<-hP,aA];skip
   clear hP;simp only[go_sem,h3,h4,h6,F,J,O,X,I,Rm,Y,E,aw];have a8:∀o,Bq (Ka m v.order (Bq m v.order+1)) o=(Li (r.visits.take (k+1)) o:Nat):=fun o=>by
     rw[O9,bc o,hm o,hm v.order];by_cases e:o=v.order
     . subst e;simp
     . rw[if_neg e,if_neg (fun h=>e h.symm)];rfl
   refine Ix Rm SR (CX _) (Bl _ _) zv3 ?_;rw[Mr,O9,if_pos rfl];have a6:(dF v.order x.orders.length||decide (Bq m v.order+1>1))=(dF v.order x.orders.length|| !qI r.visits k):=by
     rw[be,bb]
     congr 1
     rw[Xar];simp;omega
   simp only[go_sem,h3,h4,h6,F,J,O,X,I,aw];refine aB (fun hb=>?_) (fun hb=>?_)
   . have a0:(dF v.order x.orders.length|| !qI r.visits k)=true:=a6▸hb
     have e:jB x r A k=A:=by unfold jB;rw[ev,if_pos a0]
     simp only[go_sem,h3,h4,h6,F,J,O,X,I,aS (show k<=4611686018427387904 by omega)];exact⟨⟨k+1,_,ar,rfl,Y,by rw[hs,e];exact E,Rm,a8⟩,by simp only[aG];omega⟩
   have a0:(dF v.order x.orders.length|| !qI r.visits k)=false:=a6▸hb;have bf:dF v.order x.orders.length=false:=(Xai.1 a0).1;have bg:0<=v.order/\v.order<(x.orders.length:Int):=by
     simp only[dF,Xai,decide_eq_false_iff_not]at bf;omega
   obtain⟨o,ho⟩:=aQ (show v.order.toNat<x.orders.length by omega);have e:jB x r A k=zB o r.type (AN o r.type A):=by
     unfold jB;rw[ev,if_neg (by rw[a0];simp),ho]
   rw[e]at hs;simp only[go_sem,h3,h4,h6,F,J,O,X,I,aw,aH ho,bg];refine aN fun al ap=>?_
   have ah:i6≠al:=aO Y ap;have Z:ac≠al:=aO E ap;have aj:jm≠al:=aO Rm ap;simp only[go_sem,h3,h4,h6,F,J,O,X,I,Y,E,Rm];refine aM (aA _ _ _) (by simp[kZ]) ?_;generalize ai:aI (aI _ al _) al _=HGi14;replace Y:=(congrFun ai.symm i6).trans ((aD _ _ _ _ ah).trans ((aD _ _ _ _ ah).trans Y));replace E:=(congrFun ai.symm ac).trans ((aD _ _ _ _ Z).trans ((aD _ _ _ _ Z).trans E));replace Rm:=(congrFun ai.symm jm).trans ((aD _ _ _ _ aj).trans ((aD _ _ _ _ aj).trans Rm));have af:HGi14 al=some (mG o):=by rw[<-ai,aA];try rfl
   clear ai ap;simp only[go_sem,h3,h4,h6,F,J,O,X,I,af,Y,E,Rm];refine PC.use (I2 o.now r.type) ?_;simp only[go_sem,h3,h4,h6,F,J,O,X,I];refine bH (fun ao H'=>ao 3=.rp (aL x) 0/\ao 4=.rp (dO r) 0/\ao 6=.op i6 0 0/\ao 10=.op ac 0 0/\ao 11=.om jm/\ao 14=.op al 0 0/\ao 59=.sl (r.visits.map aK)/\ao 60=int r.visits.length/\ao 61=int k/\H' i6=some (pE dI)/\H' al=some (mG o)/\H' jm=some (Kp (Ka m v.order (Bq m v.order+1)))/\H' ac=some (pE (AN o r.type A))) ?_ fun K hK=>aB (fun hb=>?_) (fun hb=>?_)
   rotate_left
   . simp only[go_sem,h3,h4,h6,F,J,O,X,I,E]
     refine cE so3 E ⟨by simp,rfl,by simp⟩ ?_;generalize hP:aI _ ac _=HP;replace Y:=(congrFun hP.symm i6).trans ((aD _ _ _ _ (by first|exact ab|exact ne_i10_i6.symm)).trans Y);replace af:=(congrFun hP.symm al).trans ((aD _ _ _ _ (by first|exact ne_i14_i10|exact Z.symm)).trans af);replace Rm:=(congrFun hP.symm jm).trans ((aD _ _ _ _ (by first|exact ne_jm_i10|exact aa.symm)).trans Rm);replace E:HP ac=some (pE (AN o r.type A)):=by rw[<-hP,aA];(rw[AN,if_pos (show Kz o r.type=true from hb)];rfl)
     clear hP;simp only[go_sem,h3,h4,h6,F,J,O,X,I,E,Y,af,Rm];exact hK _ _ ⟨by simp only[go_sem,h3],by simp only[go_sem,h4],by simp only[go_sem,h6],by simp only[go_sem,F],by simp only[go_sem,J],by simp only[go_sem],by simp only[go_sem,O],by simp only[go_sem,X],by simp only[go_sem,I],Y,af,Rm,E⟩
   . simp only[go_sem]
     refine hK _ _ ⟨by simp only[go_sem,h3],by simp only[go_sem,h4],by simp only[go_sem,h6],by simp only[go_sem,F],by simp only[go_sem,J],by simp only[go_sem],by simp only[go_sem,O],by simp only[go_sem,X],by simp only[go_sem,I],Y,af,Rm,?_⟩;rw[AN,if_neg (by rw[show Kz o r.type=false from hb];simp)];exact E
   clear Y E Rm af h3 h4 h6 F J O X I;rintro ρ H ⟨h3,h4,h6,F,J,ax,O,X,I,Y,af,Rm,E⟩;simp only[go_sem,h3,h4,h6,F,J,ax,O,X,I,af];refine PC.use (I2 o.last r.type) ?_;simp only[go_sem,h3,h4,h6,F,J,ax,O,X,I];refine aB (fun hb=>?_) (fun hb=>?_)
   . simp only[go_sem,h3,h4,h6,F,J,ax,O,X,I,E]
     refine cE so3 E ⟨by simp,rfl,by simp⟩ ?_;generalize hP:aI _ ac _=HP;replace Y:=(congrFun hP.symm i6).trans ((aD _ _ _ _ (by first|exact ab|exact ne_i10_i6.symm)).trans Y);replace af:=(congrFun hP.symm al).trans ((aD _ _ _ _ (by first|exact ne_i14_i10|exact Z.symm)).trans af);replace Rm:=(congrFun hP.symm jm).trans ((aD _ _ _ _ (by first|exact ne_jm_i10|exact aa.symm)).trans Rm);replace E:HP ac=some (pE (zB o r.type (AN o r.type A))):=by rw[<-hP,aA];(rw[zB,if_pos (show KO o r.type=true from hb)];rfl)
     clear hP;simp only[go_sem,h3,h4,h6,F,J,ax,O,X,I,aS (show k<=4611686018427387904 by omega),E,Y,af,Rm];exact⟨⟨k+1,Ka m v.order (Bq m v.order+1),ar,rfl,by rw[hs],rfl,a8⟩,by simp only[aG];omega⟩
   . simp only[go_sem,h3,h4,h6,F,J,ax,O,X,I,aS (show k<=4611686018427387904 by omega)]
     exact⟨⟨k+1,_,ar,rfl,Y,by rw[hs,zB,if_neg (by rw[show KO o r.type=false from hb];simp)];exact E,Rm,a8⟩,by simp only[aG];omega⟩
 . have a9:=bD hk a9
   subst a9;rw[Xaw (by simp)]at E;simp only[go_sem,h6,F,E];refine aM Y (by simp[oM]) ?_;simp only[go_sem,h6];exact .refl _
def AT(x:Instance)(r:Route)(v:Visit):Bool:=match x.types[r.type.toNat]?,x.orders[v.order.toNat]? with
 | some t,some o=>mU t.skills o.skills
 | _,_=>false
def AB(x:Instance)(r:Route):Int:=if(r.visits.any fun v=> !AT x r v)=true then 18 else 0
theorem ahO(x:Instance)(r:Route)(hr:r.visits.length<=1048576)(ac:0<=r.type/\r.type<(x.types.length:Int))(ab:∀v∈r.visits,0<=v.order/\v.order<(x.orders.length:Int)):
   PC prog 217 [.agg (aL x),.agg (dO r)] (int (AB x r)):=by
 obtain⟨t,ht⟩:=aQ (show r.type.toNat<x.types.length by omega);refine pcd Tryz.func217 ?_;unfold Tryz.f217;simp only[gdS];simp only[go_sem];refine⟨fun ρ _=>∃k:Nat,k<=r.visits.length/\ρ 2=.rp (aL x) 0/\ρ 3=.rp (dO r) 0/\ρ 8=.sl (r.visits.map aK)/\ρ 9=int r.visits.length/\ρ 10=int k/\∀v∈r.visits.take k,(!AT x r v)=false,fun ρ _=>r.visits.length-aX (ρ 10),⟨0,Xab _,rfl,rfl,rfl,by simp only[go_sem,Xaa],rfl,by simp⟩,?_⟩;rintro ρ H ⟨k,hk,I,J,O,Y,E,hz⟩;simp only[go_sem,I,J,O,Y,E];refine aB (fun F=>?_) (fun Z=>?_)
 . have F:=aZ F
   obtain⟨v,hv⟩:=aQ F;have b1:=inB F;have ad:=ab v (Xad hv);obtain⟨o,ho⟩:=aQ (show v.order.toNat<x.orders.length by omega);have es:AT x r v=mU t.skills o.skills:=by unfold AT;rw[ht,ho]
   simp only[go_sem,I,J,O,Y,E,aH hv,b1];refine aN fun i6 aa=>?_
   simp only[go_sem,I,J,O,Y,E];refine aM (aA _ _ _) (by simp[cL]) ?_;generalize X:aI (aI _ i6 _) i6 _=HGi6;have R6:HGi6 i6=some (⟨97,2,[aK v]⟩):=by rw[<-X,aA];try rfl
   clear X aa;simp only[go_sem,I,J,O,Y,E,R6];refine dP [i6] [(0,true),(1,true),(2,true),(3,true),(4,true),(5,true),(6,true),(7,true),(8,true),(9,true),(10,true),(11,true),(12,true),(13,true),(14,true)] (by simp[R6]) (by kernel_rfl) fun Hp Hr hp af _ ae=>?_
   have P6:=(hp i6 (by simp)).trans R6;simp only[go_sem,I,J,O,Y,E,P6,aH ht,ac,aH ho,ad];refine⟨_,(aaG t o.skills).q rfl,?_⟩;simp only[go_sem,I,J,O,Y,E];refine jX fun _ Hm _ _=>?_
   simp only[go_sem,I,J,O,Y,E];refine aB (fun hb=>?_) (fun hb=>?_)
   . simp only[go_sem]
     exact bZ (by unfold AB;rw[if_pos (Xau.2 ⟨v,Xad hv,by rw[es];exact hb⟩)])
   . simp only[go_sem,I,J,O,Y,E,aS (show k<=4611686018427387904 by omega)]
     exact⟨⟨k+1,F,rfl,aT (p:=fun v=>(!AT x r v)=false) hv (by rw[es];exact hb) hz⟩,by simp only[aG];omega⟩
 . have Z:=bD hk Z
   subst Z;rw[Xaf]at hz;simp only[go_sem];exact bZ (by unfold AB;rw[if_neg (by rw[Bj hz];simp)])
def lZ(x:Instance)(r:Route):Sheet×Score×Int:=
 if dF r.type x.types.length=true then(cN,dI,2)
 else if(sI x r.visits != 0)=true then(cN,dI,sI x r.visits)
 else if(AB x r != 0)=true then(cN,dI,AB x r)
 else if(uX x r != 0)=true then(cN,dI,uX x r)
 else if((lN x r).2 != 0)=true then(cN,dI,(lN x r).2)
 else((lN x r).1,oP x r (lN x r).1,0)
structure EvalB(x:Instance):Prop where
 net:NetOk x.net
 load:LoadB x
 apart:x.apart.length<=1048576
 before:x.before.length<=1048576
abbrev fnsL:List (List AV):=[[.v (.func (.func 216) #[] #[])],[.v (.func (.func 217) #[] #[])],[.v (.func (.func 218) #[] #[])]]
theorem Pt(x:Instance)(r:Route)(hx:EvalB x)(hr:r.visits.length<=1048575):PC prog 174 [.agg (aL x),.agg (dO r)] (.tup [.agg (dB (lZ x r).1),.agg (gC (lZ x r).2.1),int (lZ x r).2.2]):=by
 refine pcd Tryz.func174 ?_;unfold Tryz.f174;simp only[gdS];simp only[go_sem];refine aN fun i4 am=>?_
 generalize ag:aI _ i4 _=HGi4;have F:HGi4 i4=some (iP (dB cN)):=by rw[<-ag,aA];try rfl
 clear ag am;simp only[go_sem,F];refine aN fun i5 af=>?_
 have E:i4≠i5:=aO F af;generalize ae:aI _ i5 _=HGi5;replace F:=(congrFun ae.symm i4).trans ((aD _ _ _ _ E).trans F);have J:HGi5 i5=some (pE dI):=by rw[<-ae,aA];try rfl
 clear ae af;simp only[go_sem,J,F];refine aB (fun h1=>?_) (fun h1=>?_)
 . have h1:dF r.type x.types.length=true:=h1
   simp only[go_sem];refine aM F (by simp) ?_;generalize I:aI _ i4 _=HP;replace J:=(congrFun I.symm i5).trans ((aD _ _ _ _ (by first|exact ne_i5_i4|exact E.symm)).trans J);replace F:HP i4=some (iP (dB cN)):=by rw[<-I,aA];rfl
   clear I;simp only[go_sem,F,J];refine aM J (by simp) ?_;generalize I:aI _ i5 _=HP;replace F:=(congrFun I.symm i4).trans ((aD _ _ _ _ (by first|exact E|exact ne_i5_i4.symm)).trans F);replace J:HP i5=some (pE dI):=by rw[<-I,aA];rfl
   clear I;simp only[go_sem,J,F];have e:lZ x r=(cN,dI,2):=by unfold lZ;rw[if_pos h1]
   rw[e];exact .refl _
 have c1:¬dF r.type x.types.length=true:=by rw[show dF r.type x.types.length=false from h1];simp
 have ao:0<=r.type/\r.type<(x.types.length:Int):=by
   have h1:dF r.type x.types.length=false:=h1;simp only[dF,Xai,decide_eq_false_iff_not]at h1;omega
 simp only[go_sem];refine⟨fun ρ H=>∃(k:Nat),k<=3/\ρ 2=.rp (aL x) 0/\ρ 3=.rp (dO r) 0/\ρ 4=.op i4 0 0/\ρ 5=.op i5 0 0/\ρ 25=.sl fnsL/\ρ 26=int 3/\ρ 27=int k/\H i4=some (iP (dB cN))/\H i5=some (pE dI)/\(0<k->sI x r.visits=0)/\(1<k->AB x r=0)/\(2<k->uX x r=0),fun ρ _=>3-aX (ρ 27),
   ⟨0,Xab _,by simp only[go_sem],by simp only[go_sem],by simp only[go_sem],by simp only[go_sem],by simp only[go_sem],by simp only[go_sem];rfl,by simp only[go_sem];rfl,F,J,fun h=>absurd h (by decide),fun h=>absurd h (by decide),fun h=>absurd h (by decide)⟩,?_⟩
 clear F J;rintro ρ H ⟨k,hk,h2,h3,h4,h5,Y,Z,X,F,J,q1,q2,q3⟩;simp only[go_sem,h2,h3,h4,h5,Y,Z,X];refine aB (fun ak=>?_) (fun ai=>?_)
 . have ak:k<3:=by simp at ak;omega
   have hc:k=0\/k=1\/k=2:=by omega
   rcases hc with rfl|rfl|rfl
   . simp only[go_sem,h2,h3,h4,h5,Y,Z,X]
     refine⟨by decide,PC.use (FB x r (by omega) hx.apart hx.before) ?_⟩;simp only[go_sem,h2,h3,h4,h5,Y,Z,X];refine aB (fun hb=>?_) (fun hb=>?_)
     . have e:lZ x r=(cN,dI,sI x r.visits):=by unfold lZ;rw[if_neg c1,if_pos hb]
       simp only[go_sem,h2,h3,h4,h5,Y,Z,X];refine aM F (by simp) ?_;generalize I:aI _ i4 _=HP;replace J:=(congrFun I.symm i5).trans ((aD _ _ _ _ (by first|exact ne_i5_i4|exact E.symm)).trans J);replace F:HP i4=some (iP (dB cN)):=by rw[<-I,aA];rfl
       clear I;simp only[go_sem,h2,h3,h4,h5,Y,Z,X,F,J];refine aM J (by simp) ?_;generalize I:aI _ i5 _=HP;replace F:=(congrFun I.symm i4).trans ((aD _ _ _ _ (by first|exact E|exact ne_i5_i4.symm)).trans F);replace J:HP i5=some (pE dI):=by rw[<-I,aA];rfl
       clear I;simp only[go_sem,h2,h3,h4,h5,Y,Z,X,J,F];rw[e];exact .refl _
     . simp only[go_sem,h2,h3,h4,h5,Y,Z,X]
       exact⟨⟨1,by decide,rfl,F,J,fun _=>by simpa using hb,fun h=>absurd h (by decide),fun h=>absurd h (by decide)⟩,by simp only[aG];decide⟩
   . simp only[go_sem,h2,h3,h4,h5,Y,Z,X]
     refine⟨by decide,PC.use (ahO x r (by omega) ao (Yr (q1 (by decide)))) ?_⟩;simp only[go_sem,h2,h3,h4,h5,Y,Z,X];refine aB (fun hb=>?_) (fun hb=>?_)
     . have e:lZ x r=(cN,dI,AB x r):=by unfold lZ;rw[if_neg c1,q1 (by decide),if_neg (by decide),if_pos hb]
       simp only[go_sem,h2,h3,h4,h5,Y,Z,X];refine aM F (by simp) ?_;generalize I:aI _ i4 _=HP;replace J:=(congrFun I.symm i5).trans ((aD _ _ _ _ (by first|exact ne_i5_i4|exact E.symm)).trans J);replace F:HP i4=some (iP (dB cN)):=by rw[<-I,aA];rfl
       clear I;simp only[go_sem,h2,h3,h4,h5,Y,Z,X,F,J];refine aM J (by simp) ?_;generalize I:aI _ i5 _=HP;replace F:=(congrFun I.symm i4).trans ((aD _ _ _ _ (by first|exact E|exact ne_i5_i4.symm)).trans F);replace J:HP i5=some (pE dI):=by rw[<-I,aA];rfl
       clear I;simp only[go_sem,h2,h3,h4,h5,Y,Z,X,J,F];rw[e];exact .refl _
     . simp only[go_sem,h2,h3,h4,h5,Y,Z,X]
       exact⟨⟨2,by decide,rfl,F,J,fun _=>q1 (by decide),fun _=>by simpa using hb,fun h=>absurd h (by decide)⟩,by simp only[aG];decide⟩
   . simp only[go_sem,h2,h3,h4,h5,Y,Z,X]
     refine⟨by decide,PC.use (ajQ x r hx.load hr hx.apart hx.before) ?_⟩;simp only[go_sem,h2,h3,h4,h5,Y,Z,X];refine aB (fun hb=>?_) (fun hb=>?_)
     . have e:lZ x r=(cN,dI,uX x r):=by unfold lZ;rw[if_neg c1,q1 (by decide),if_neg (by decide),q2 (by decide),if_neg (by decide),if_pos hb]
       simp only[go_sem,h2,h3,h4,h5,Y,Z,X];refine aM F (by simp) ?_;generalize I:aI _ i4 _=HP;replace J:=(congrFun I.symm i5).trans ((aD _ _ _ _ (by first|exact ne_i5_i4|exact E.symm)).trans J);replace F:HP i4=some (iP (dB cN)):=by rw[<-I,aA];rfl
       clear I;simp only[go_sem,h2,h3,h4,h5,Y,Z,X,F,J];refine aM J (by simp) ?_;generalize I:aI _ i5 _=HP;replace F:=(congrFun I.symm i4).trans ((aD _ _ _ _ (by first|exact E|exact ne_i5_i4.symm)).trans F);replace J:HP i5=some (pE dI):=by rw[<-I,aA];rfl
       clear I;simp only[go_sem,h2,h3,h4,h5,Y,Z,X,J,F];rw[e];exact .refl _
     . simp only[go_sem,h2,h3,h4,h5,Y,Z,X]
       exact⟨⟨3,by decide,rfl,F,J,fun _=>q1 (by decide),fun _=>q2 (by decide),fun _=>by simpa using hb⟩,by simp only[aG];decide⟩
 have ai:k=3:=by simp at ai;omega
 subst ai;have e1:=q1 (by decide);have e2:=q2 (by decide);have e3:=q3 (by decide);have eE:lZ x r=if((lN x r).2 != 0)=true then(cN,dI,(lN x r).2)else((lN x r).1,oP x r (lN x r).1,0):=by
   unfold lZ;rw[if_neg c1,e1,e2,e3];rfl
 rw[eE];simp only[go_sem,h2,h3,h4,h5];refine PC.use (amV x r hx.net (by omega)) ?_;simp only[go_sem,h2,h3,h4,h5];refine aN fun ad ac=>?_
 have aa:i4≠ad:=aO F ac;have O:i5≠ad:=aO J ac;simp only[go_sem,h2,h3,h4,h5,F,J];refine aM (aA _ _ _) (by simp[jU]) ?_;generalize ab:aI (aI _ ad _) ad _=HGi10;replace F:=(congrFun ab.symm i4).trans ((aD _ _ _ _ aa).trans ((aD _ _ _ _ aa).trans F));replace J:=(congrFun ab.symm i5).trans ((aD _ _ _ _ O).trans ((aD _ _ _ _ O).trans J));have ah:HGi10 ad=some (iP (dB (lN x r).1)):=by rw[<-ab,aA];try rfl
 clear ab ac;simp only[go_sem,h2,h3,h4,h5,ah,F,J];refine aB (fun hb=>?_) (fun hb=>?_)
 . rw[if_pos hb]
   simp only[go_sem,h2,h3,h4,h5];refine aM F (by simp) ?_;generalize I:aI _ i4 _=HP;replace J:=(congrFun I.symm i5).trans ((aD _ _ _ _ (by first|exact ne_i5_i4|exact E.symm)).trans J);replace F:HP i4=some (iP (dB cN)):=by rw[<-I,aA];rfl
   clear I;simp only[go_sem,h2,h3,h4,h5,F,J];refine aM J (by simp) ?_;generalize I:aI _ i5 _=HP;replace F:=(congrFun I.symm i4).trans ((aD _ _ _ _ (by first|exact E|exact ne_i5_i4.symm)).trans F);replace J:HP i5=some (pE dI):=by rw[<-I,aA];rfl
   clear I;simp only[go_sem,h2,h3,h4,h5,J,F];exact .refl _
 . rw[if_neg (by rw[hb];simp)]
   simp only[go_sem,h2,h3,h4,h5];refine dP [ad] [(0,true),(1,true),(2,true),(3,true),(4,true),(5,false),(6,false),(7,false)] (by simp[ah]) (by kernel_rfl) fun Hp Hr hp aj _ ap=>?_
   have al:=(hp ad (by simp)).trans ah;have P4:=(aj i4 (by simp[aa])).trans F;have P5:=(aj i5 (by simp[O])).trans J;simp only[go_sem,h2,h3,h4,h5,al];refine⟨_,(ahK x r (lN x r).1 (by omega)).q rfl,?_⟩;simp only[go_sem,h2,h3,h4,h5,al];refine aM P4 (by simp[jU]) ?_;generalize I:aI _ i4 _=HP;replace P5:=(congrFun I.symm i5).trans ((aD _ _ _ _ (by first|exact ne_i5_i4|exact E.symm)).trans P5);replace P4:HP i4=some (iP (dB (lN x r).1)):=by rw[<-I,aA];rfl
   clear I;simp only[go_sem,h2,h3,h4,h5,P4,P5];refine aM P5 (by simp[oM]) ?_;generalize I:aI _ i5 _=HP;replace P4:=(congrFun I.symm i4).trans ((aD _ _ _ _ (by first|exact E|exact ne_i5_i4.symm)).trans P4);replace P5:HP i5=some (pE (oP x r (lN x r).1)):=by rw[<-I,aA];rfl
   clear I;simp only[go_sem,h2,h3,h4,h5,P5,P4];refine jX fun _ Hm _ an=>?_
   have M4:=(an i4 (by simp[aa])).trans P4;have M5:=(an i5 (by simp[O])).trans P5;simp only[go_sem,h4,h5,M4,M5];exact .refl _
end Go.Proofs.YtdlijlecpopadaaGreatDoor.Sq
end
