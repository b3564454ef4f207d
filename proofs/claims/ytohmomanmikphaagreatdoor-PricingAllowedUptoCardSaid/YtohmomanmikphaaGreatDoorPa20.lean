import Derived.Test.YtohmomanmikphaaGreatDoorPa16
set_option linter.unusedSimpArgs false
set_option linter.unusedVariables false
set_option maxRecDepth 100000
namespace Go.Proofs.YtohmomanmikphaaGreatDoor
open Go.Aw Go.Aw.D Go.Proofs Ty
namespace Sq
open Go.Proofs.Tryz(prog)
open Mv (bJ bR aM)
def dK(l:Lab):List AV:=[int l.ready,int l.since,boo l.sheet.rest,int l.sheet.depart,.sl (l.sheet.times.map pX),int l.sheet.end_,int l.sheet.miles]
theorem lB(l:Lab):(dK l).length=7:=(rfl)
theorem Zz(l:Lab):(dK l).getD 0 .any=int l.ready:=(rfl)
theorem adM(l:Lab):(dK l).getD 1 .any=int l.since:=(rfl)
theorem ZK(l:Lab):(dK l).getD 4 .any=.sl (l.sheet.times.map pX):=(rfl)
theorem adU(l:Lab):(dK l).getD 5 .any=int l.sheet.end_:=(rfl)
theorem Zo(l:Lab):((dK l).drop 2).take 5=bP l.sheet:=(rfl)
theorem TG(l:Lab):(dK l).take 7=dK l:=(rfl)
def dL(x:Instance)(t:VType)(r:Route)(st:List Stop):List AV:=aD x++(bC t++(bT r++[.sl (st.map dV)]))
section
variable(x:Instance)(t:VType)(r:Route)(st:List Stop)
theorem EX:(dL x t r st).length=25:=(rfl)
theorem Xn:(dL x t r st).getD 8 .any=int t.src:=(rfl)
theorem Xk:(dL x t r st).getD 9 .any=int t.dst:=(rfl)
theorem Se:(dL x t r st).getD 12 .any=int t.profile:=(rfl)
theorem Sl:(dL x t r st).getD 13 .any=int t.start:=(rfl)
theorem Sv:(dL x t r st).getD 14 .any=int t.close:=(rfl)
theorem QU:(dL x t r st).getD 15 .any=int t.drive:=(rfl)
theorem Sc:(dL x t r st).getD 16 .any=int t.rest:=(rfl)
theorem TU:(dL x t r st).getD 21 .any=int r.start:=(rfl)
theorem RE:(dL x t r st).getD 22 .any=.sl (r.rests.map cR):=(rfl)
theorem SY:(dL x t r st).getD 24 .any=.sl (st.map dV):=(rfl)
theorem Ow:(dL x t r st).take 2=aY x.net:=(rfl)
theorem MW:(dL x t r st).take 25=dL x t r st:=(rfl)
end
attribute [go_sem] lB Zz adM ZK adU Zo TG EX Xn Xk Se Sl Sv QU Sc TU RE SY Ow MW
def C5:Lab:=⟨0,0,aS⟩
abbrev gQ(cs:List AV):Row:=⟨332,7,[cs]⟩
def qR(t:VType)(st:List Stop)(k:Nat):Int:=match k with
 | 0=>t.src
 | j+1=>(st.getD j jU).place
theorem NB(x:Instance)(t:VType)(r:Route)(st:List Stop):PC prog 319 [.agg (dL x t r st)] (.agg (dK (fT t r))):=by
 refine pcd Tryz.func319 ?_;unfold Tryz.f319;simp only[gdS];simp only[go_sem];refine aL fun J F=>?_
 generalize E:aI _ J _=HGi2;have I:HGi2 J=some (gQ (dK C5)):=by rw[<-E,aA];try rfl
 clear E F;simp only[go_sem,I];refine aH I (by simp) ?_;simp only[go_sem];exact .refl _
theorem YI(x:Instance)(t:VType)(r:Route)(st:List Stop)(k:Nat)(J:k<=st.length)(O:st.length<=1048576):PC prog 375 [.agg (dL x t r st),int k] (int (qR t st k)):=by
 refine pcd Tryz.func375 ?_;unfold Tryz.f375;simp only[gdS];simp only[go_sem];refine aB (fun E=>?_) (fun E=>?_)
 . have:k=0:=by simp at E;exact E
   subst this;simp only[go_sem];exact .refl _
 . obtain⟨j,rfl⟩:∃j,k=j+1:=⟨k-1,by simp at E;omega⟩
   obtain⟨s,F⟩:=aN (show j<st.length by omega);have w:IntKind.i64.wrap (((j+1:Nat):Int)-1)=(j:Int):=by rw[bH (by omega)];omega
   have I:=inB (show j<st.length by omega);simp only[go_sem,w,aC F,I];exact bJ (by unfold qR;simp[List.getD,F])
theorem T8:∀l:List Tm,cZ 4 (l.map pX)
 | []=>trivial
 | _::r=>⟨rfl,T8 r⟩
theorem YH(l:List Tm)(O:l.length<=1048576):NC prog 374 [.sl (l.map pX)] (wO l) .os:=by
 refine ncb (fun t=>t == 2||t == 5) Tryz.func374 ?_;unfold Tryz.f374;simp only[gdS];simp only[go_sem];refine aL fun j U=>?_
 have R:=aA bV j (some (wO []));generalize aI bV j _=H at R |-;simp only[go_sem];refine⟨fun F=>?_,?_⟩
 . refine aB (fun _=>?_) (fun E=>by simp at E)
   simp only[go_sem];refine aL fun i hi=>?_
   simp only[go_sem];refine⟨i,rfl,?_⟩;rw[aA,Xbt.1 F];rfl
 . refine aB (fun E=>by simp at E) (fun _=>?_)
   simp only[go_sem];refine aL fun i hi=>?_
   simp only[go_sem];refine aZ (aA _ _ _) ⟨rfl,rfl⟩ (T8 _) (by simp only[Xaa,List.length_nil];omega) (fun J I=>?_);simp only[go_sem];refine⟨J,rfl,?_⟩;exact aA _ _ _
def lW(x:Instance)(t:VType)(st:List Stop)(k:Nat)(l:Lab)(b:Bool):Except Int Lab:=match st[k]? with
 | some s=>nS x t (qR t st k) s k l b
 | none=>pW x t (qR t st k) k l b
def aaD(e:Except Int Lab):Lab:=match e with| .ok l=>l| .error _=>C5
def tM:Instance:=⟨⟨[],[]⟩,[],[],[],[]⟩
def BP:VType:=⟨ByteArray.empty,0,0,0,[],0,0,0,0,0,0,0,0,0⟩
def BL:Route:=⟨0,0,[],[]⟩
abbrev yF(cs:List AV):Row:=⟨328,25,[cs]⟩
def fB(x:Instance)(l:List Visit):List Stop:=l.map fun v=>(bA x v).1
def BE(x:Instance)(r:Route):List AV×Bool:=if bX x r=true then match x.types[r.type.toNat]? with
 | some t=>(dL x t r (fB x r.visits),true)
 | none=>(dL tM BP BL [],false)
 else(dL tM BP BL [],false)
def Ei(x:Instance)(t:VType)(r:Route)(j:Nat):List AV:=aD x++(bC t++(bT r++[.os j]))
theorem tk1{x:Instance}{l:List AV}:(aD x++l).take 6=aD x:=(rfl)
theorem dr1{x:Instance}{l:List AV}:(aD x++l).drop 20=l.drop 14:=(rfl)
theorem tk2{x:Instance}{t:VType}{l:List AV}:(aD x++bC t++l).take 20=aD x++bC t:=(rfl)
theorem dr2{x:Instance}{t:VType}{l:List AV}:(aD x++bC t++l).drop 24=l.drop 4:=(rfl)
abbrev Ct(l:List Stop):Row:=⟨109,4,l.map dV⟩
theorem Yy(x:Instance)(t:VType)(r:Route)(j:Nat):(Ei x t r j).getD 24 .any=.os j:=(rfl)
theorem WL(x:Instance)(t:VType)(r:Route)(j:Nat):(Ei x t r j).take 25=Ei x t r j:=(rfl)
theorem XH(x:Instance)(t:VType)(r:Route)(j:Nat):(Ei x t r j).length=25:=(rfl)
attribute [go_sem] Yy WL XH
theorem Ba{H:aK}{l l':List AV}(h:ConvL H l l'):∀p:List AV,ConvL H (p++l) (p++l')
 | []=>h
 | a::p=>.cons a a _ _ (.refl a) (Ba h p)
theorem XO{H:aK}{x:Instance}{t:VType}{r:Route}{E:Nat}{st:List Stop}(R:H E=some (Ct st)):ConvL H (Ei x t r E) (dL x t r st):=
 Ba (Ba (Ba (.cons _ _ _ _ (.row _ _ _ R (ConvE.refl _)) .nil) _) _) _
theorem Wc{x:Instance}{v:Visit}(h:(bA x v).2=true):0<=(bA x v).1.place/\eD x v=((bA x v).1,0):=by
 refine⟨?_,by unfold eD;rw[if_pos h]⟩;unfold bA at h |-;split at h
 . cases h
 . rename_i E
   rw[if_neg E];split at h
   . rename_i o F
     simpa using h
   . cases h
theorem TV{x:Instance}{v:Visit}(h:(bA x v).2=false):((eD x v).2 != 0)=true:=by
 unfold eD;rw[if_neg (by rw[h];simp)];show((if cC v.order x.orders.length=true then(2:Int)else 19) != 0)=true;split <;> rfl
theorem aoN(x:Instance)(r:Route)(hl:r.visits.length<=1048576):PC prog 318 [.agg (aD x),.agg (bT r)] (.tup [.agg (BE x r).1,boo (BE x r).2]):=by
 refine pcb (fun t=>t == 47) Tryz.func318 ?_;unfold Tryz.f318;simp only[gdS];simp only[go_sem];refine aL fun i4 aw=>?_
 generalize aq:aI _ i4 _=HGi4;have E:HGi4 i4=some (yF (dL tM BP BL [])):=by rw[<-aq,aA];try rfl
 clear aq aw;simp only[go_sem,E];refine aB (fun h1=>?_) (fun h1=>?_)
 . have hp:bX x r=false:=by unfold bX;rw[show(cC r.type x.types.length||decide (r.start<0)||decide (r.start>4096)||decide ((r.visits.length:Int)>20))=true from h1];rfl
   have e:BE x r=(dL tM BP BL [],false):=by unfold BE;rw[if_neg (by rw[hp];simp)]
   rw[e];simp only[go_sem];refine aH E (by simp) ?_;simp only[go_sem];exact .refl _
 have hp:bX x r=r.visits.all fun v=>(bA x v).2:=by unfold bX;rw[show(cC r.type x.types.length||decide (r.start<0)||decide (r.start>4096)||decide ((r.visits.length:Int)>20))=false from h1];rfl
 have a0:0<=r.type/\r.type<(x.types.length:Int):=by
   simp only[Xaf,decide_eq_false_iff_not]at h1;omega
 have a4:r.visits.length<=20:=by
   simp only[Xaf,decide_eq_false_iff_not]at h1;omega
 obtain⟨t,ht⟩:=aN (show r.type.toNat<x.types.length by omega);simp only[go_sem];refine xM [(0,true),(1,true),(2,true),(3,true),(4,true),(5,true),(6,true),(7,true),(8,true),(9,false),(10,false)] (by kernel_rfl) ?_;simp only[go_sem,aC ht,a0,Xae,tk1,dr1,tk2,dr2];refine aL fun i6 ap=>?_
 have F:i4≠i6:=aP E ap;generalize al:aI _ i6 _=HGi6;replace E:=(congrFun al.symm i4).trans ((aF _ _ _ _ F).trans E);have I:HGi6 i6=some (yF (dL tM BP BL [])):=by rw[<-al,aA];try rfl
 clear al ap;simp only[go_sem,I,E];refine Jb 24 109 4 ⟨rfl,by decide⟩ I ⟨by simp,rfl,Xah _⟩ fun js ar=>?_
 have Z:i6≠js:=aP I ar;have ae:i4≠js:=aP E ar;generalize hG:aI (aI HGi6 js _) i6 _=HG;replace E:=kpR hG F ae E;have Rs:HG js=some (Ct []):=by rw[<-hG,aF _ _ _ _ Z.symm,aA];rfl
 replace I:HG i6=some (yF (Ei x t r js)):=by rw[<-hG,aA];rfl
 clear hG ar;simp only[go_sem];refine⟨fun ρ H=>∃k:Nat,k<=r.visits.length/\ρ 2=.rp (aD x) 0/\ρ 4=.op i4 0 0/\ρ 6=.op i6 0 0/\ρ 49=.sl (r.visits.map aJ)/\ρ 50=int r.visits.length/\ρ 51=int k/\H i4=some (yF (dL tM BP BL []))/\(∃js,H i6=some (yF (Ei x t r js))/\H js=some (Ct (fB x (r.visits.take k))))/\∀v∈r.visits.take k,(bA x v).2=true,fun ρ _=>r.visits.length-aV (ρ 51),⟨0,Xab _,by simp only[go_sem],by simp only[go_sem],by simp only[go_sem],by simp only[go_sem],by simp only[go_sem,Xaa],by simp only[go_sem];rfl,E,⟨js,I,Rs⟩,by simp⟩,?_⟩;clear E I Rs Z ae js;rintro ρ H ⟨k,hk,h2,h4,h6,O,U,J,E,⟨js,I,Rs⟩,hz⟩;have ak:js≠i6:=dD Rs I (by rfl);have ab:js≠i4:=dD Rs E (by rfl);simp only[go_sem,h2,h4,h6,O,U,J];refine aB (fun am=>?_) (fun au=>?_)
 . have am:=aQ am
   obtain⟨v,hv⟩:=aN am;have b1:=inB am;simp only[go_sem,h2,h4,h6,O,U,J,aC hv,b1];refine aL fun i8 ai=>?_
   have ac:i4≠i8:=aP E ai;have Y:i6≠i8:=aP I ai;have aa:js≠i8:=aP Rs ai;simp only[go_sem,h2,h4,h6,O,U,J,E,I,Rs];refine aH (aA _ _ _) (by simp[cX]) ?_;generalize ag:aI (aI _ i8 _) i8 _=HGi8;replace E:=kpR ag ac ac E;replace I:=kpR ag Y Y I;replace Rs:=kpR ag aa aa Rs;have R8:HGi8 i8=some (⟨119,2,[aJ v]⟩):=by rw[<-ag,aA];try rfl
   clear ag ai;simp only[go_sem,h2,h4,h6,O,U,J,R8,E,I,Rs];refine PC.use (Uq x v) ?_;simp only[go_sem,h2,h4,h6,O,U,J];refine aL fun i9 ah=>?_
   have V:i4≠i9:=aP E ah;have X:i6≠i9:=aP I ah;have ad:js≠i9:=aP Rs ah;simp only[go_sem,h2,h4,h6,O,U,J,E,I,Rs];refine aH (aA _ _ _) (by simp[gO]) ?_;generalize af:aI (aI _ i9 _) i9 _=HGi9;replace E:=kpR af V V E;replace I:=kpR af X X I;replace Rs:=kpR af ad ad Rs;have R9:HGi9 i9=some (xK (eD x v).1):=by rw[<-af,aA];try rfl
   clear af ah;simp only[go_sem,h2,h4,h6,O,U,J,R9,E,I,Rs];cases an:(bA x v).2 with
   | false=>
     have ax:=TV an;refine aB (fun _=>?_) (fun hb=>by rw[ax]at hb;simp at hb);simp only[go_sem,h4];refine aH E (by simp) ?_;simp only[go_sem,h4];have e:BE x r=(dL tM BP BL [],false):=by unfold BE;rw[if_neg (by rw[hp,uQ hv an];simp)]
     rw[e];exact .refl _
   | true=>
     obtain⟨a5,ay⟩:=Wc an;rw[ay]at R9 |-;refine aB (fun hb=>by simp at hb;omega) (fun _=>?_);simp only[go_sem,h2,h4,h6,O,U,J,I,R9];refine aZ Rs ⟨rfl,rfl⟩ ⟨rfl,trivial⟩ (by simp[fB];omega) (fun j' ao=>?_);have aj:i6≠j':=aP I ao;have av:i4≠j':=aP E ao;replace E:=dF (r':=⟨109,4,List.map dV (fB x (r.visits.take k))++[dV (bA x v).1]⟩) E ab ao;replace I:=dF (r':=⟨109,4,List.map dV (fB x (r.visits.take k))++[dV (bA x v).1]⟩) I ak ao;have az:aI (aI HGi9 js none) j' (some (⟨109,4,List.map dV (fB x (r.visits.take k))++[dV (bA x v).1]⟩:Row)) j'=some (Ct (fB x (r.visits.take (k+1)))):=by
       rw[bQ hv];unfold fB;rw[Xar];exact pK (l':=[(bA x v).1]) rfl
     simp only[go_sem,h2,h4,h6,O,U,J];refine dM amM I ⟨by simp,rfl,by simp⟩ ?_;simp only[go_sem,h2,h4,h6,O,U,J,aT (show k<=4611686018427387904 by omega)];exact⟨⟨k+1,am,rfl,(aF _ _ _ _ F).trans E,⟨j',rfl,(aF _ _ _ _ aj.symm).trans az⟩,aM (p:=fun v=>(bA x v).2=true) hv an hz⟩,by simp only[aE];omega⟩
 . have au:=aR hk au
   subst au;rw[Xag]at hz Rs;simp only[go_sem,h4,h6,I];refine aH E ⟨by simp,rfl,Xah _⟩ ?_;simp only[go_sem,h4];have e:BE x r=(dL x t r (fB x r.visits),true):=by unfold BE;rw[if_pos (by rw[hp];exact Xaj.2 hz),ht]
   rw[e];exact .tup [.agg (Ei x t r js),boo true] _ (.cons _ _ _ _ (.agg _ _ (XO ((aF _ _ _ _ ab).trans Rs))) (ConvL.refl _))
def jL(rdy sin:Int)(sd:Sheet)(j:Nat):List AV:=[int rdy,int sin,boo sd.rest,int sd.depart,.os j,int sd.end_,int sd.miles]
theorem TD(a b s j):(jL a b s j).length=7:=(rfl)
theorem adP(a b s j):(jL a b s j).getD 0 .any=int a:=(rfl)
theorem YO(a b s j):(jL a b s j).getD 1 .any=int b:=(rfl)
theorem Zc(a b s j):(jL a b s j).getD 4 .any=.os j:=(rfl)
theorem Zm(a b s j):(jL a b s j).getD 6 .any=int s.miles:=(rfl)
theorem Sh(a b s j):(jL a b s j).take 7=jL a b s j:=(rfl)
attribute [go_sem] TD adP YO Zc Zm Sh
theorem Qg{H:aK}{j:Nat}{l:Lab}(R:H j=some (wO l.sheet.times)):ConvL H (jL l.ready l.since l.sheet j) (dK l):=
 .cons _ _ _ _ (.refl _) (.cons _ _ _ _ (.refl _) (.cons _ _ _ _ (.refl _) (.cons _ _ _ _ (.refl _) (.cons _ _ _ _ (.row _ _ _ R (ConvE.refl _)) (ConvL.refl _)))))
theorem agH{l:List Tm}{j:Nat}{E:Tm}(h:l[j]?=some E)(b:Bool):(l.map pX).set j (nH ((l.map pX).getD j []) 3 [boo b])=(l.set j ⟨E.arrive,E.begin_,E.depart,b⟩).map pX:=by
 rw[aC h,List.map_set];rfl
theorem aqA{l:List Tm}{j:Nat}{E:Tm}(h:l[j]?=some E)(d:Int):(l.map pX).set j (nH ((l.map pX).getD j []) 2 [int d])=(l.set j ⟨E.arrive,E.begin_,d,E.rest⟩).map pX:=by
 rw[aC h,List.map_set];rfl
theorem Z3(x:Instance)(t:VType)(r:Route)(st:List Stop)(l:Lab)(k:Nat)(b:Bool)(hn:NetOk x.net)(ap:st.length<=1048576)(hk:k<=st.length)(hl:l.sheet.times.length=k):
   PC prog 355 [.agg (dL x t r st),.agg (dK l),int k,boo b] (.tup [.agg (dK (aaD (lW x t st k l b))),int (D4 (lW x t st k l b))]):=by
 refine pcd Tryz.func355 ?_;unfold Tryz.f355;simp only[gdS];simp only[go_sem];refine aL fun i8 al=>?_
 generalize aj:aI _ i8 _=HGi8;have X:HGi8 i8=some (gQ (dK C5)):=by rw[<-aj,aA];try rfl
 clear aj al;simp only[go_sem,X];refine cN (by rfl) (by kernel_rfl) ?_;simp only[go_sem];refine bK (fun ab H'=>ab 2=int k/\ab 3=boo b/\ab 4=.rp (dL x t r st) 0/\ab 5=.rp (dK l) 0/\ab 8=.op i8 0 0/\ab 10=int (gI t l b)/\ab 11=int (mF l b)/\H' i8=some (gQ (dK C5))) ?_ fun K hK=>aB (fun hb=>?_) (fun hb=>?_)
 rotate_left
 . simp only[go_sem]
   exact hK _ _ ⟨by simp only[go_sem],by simp only[go_sem],by simp only[go_sem],by simp only[go_sem],by simp only[go_sem],by simp only[go_sem];unfold gI;rw[if_pos hb];rfl,by simp only[go_sem];unfold mF;rw[if_pos hb],X⟩
 . simp only[go_sem]
   exact hK _ _ ⟨by simp only[go_sem],by simp only[go_sem],by simp only[go_sem],by simp only[go_sem],by simp only[go_sem],by simp only[go_sem];unfold gI;rw[if_neg (by rw[hb];simp)],by simp only[go_sem];unfold mF;rw[if_neg (by rw[hb];simp)],X⟩
 clear X;rintro ρ H ⟨h2,h3,h4,h5,Z,O,J,X⟩;simp only[go_sem,h2,h3,h4,h5,Z,O,J];refine aL fun V ai=>?_
 have I:i8≠V:=aP X ai;simp only[go_sem,h2,h3,h4,h5,Z,O,J,X];refine aH (aA _ _ _) (by simp[hY]) ?_;generalize af:aI (aI _ V _) V _=HGi12;replace X:=kpR af I I X;have E:HGi12 V=some (gQ ([int 0,int 0]++bP l.sheet)):=by rw[<-af,aA];try rfl
 clear af ai;simp only[go_sem,h2,h3,h4,h5,Z,O,J,E,X];refine NC.use (YH l.sheet.times (by omega)) fun jt ak=>?_
 have aa:i8≠jt:=aP X ak;have F:V≠jt:=aP E ak;generalize hG:aI HGi12 jt _=HG;replace X:=(congrFun hG.symm i8).trans ((aF _ _ _ _ aa).trans X);replace E:=(congrFun hG.symm V).trans ((aF _ _ _ _ F).trans E);have Rt:HG jt=some (wO l.sheet.times):=by rw[<-hG,aA]
 clear hG ak;simp only[go_sem,h2,h3,h4,h5,Z,O,J,E];refine dM U8 E ⟨by simp,rfl,by simp⟩ ?_;generalize U:aI _ V _=HP;replace X:=(congrFun U.symm i8).trans ((aF _ _ _ _ (by first|exact I|exact ne_i12_i8.symm)).trans X);replace Rt:=(congrFun U.symm jt).trans ((aF _ _ _ _ (by first|exact ne_jt_i12|exact F.symm)).trans Rt);replace E:HP V=some (gQ (jL 0 0 l.sheet jt)):=by rw[<-U,aA];rfl
 clear U;simp only[go_sem,h2,h3,h4,h5,Z,O,J,E,X,Rt];refine bK (fun ab H'=>ab 2=int k/\ab 4=.rp (dL x t r st) 0/\ab 8=.op i8 0 0/\ab 10=int (gI t l b)/\ab 11=int (mF l b)/\ab 12=.op V 0 0/\H' i8=some (gQ (dK C5))/\H' V=some (gQ (jL 0 0 (cO l.sheet k b (gI t l b)) jt))/\H' jt=some (wO (cO l.sheet k b (gI t l b)).times)) ?_ fun K hK=>aB (fun hb=>?_) (fun hb=>?_)
 rotate_left
 . have h0:k=0:=by simp at hb;exact hb
   subst h0;simp only[go_sem,h2,h3,h4,h5,Z,O,J,E];refine dM so4 E ⟨by simp,rfl,by simp⟩ ?_;generalize U:aI _ V _=HP;replace X:=(congrFun U.symm i8).trans ((aF _ _ _ _ (by first|exact I|exact ne_i12_i8.symm)).trans X);replace Rt:=(congrFun U.symm jt).trans ((aF _ _ _ _ (by first|exact ne_jt_i12|exact F.symm)).trans Rt);replace E:HP V=some (gQ (jL 0 0 { l.sheet with rest:=b } jt)):=by rw[<-U,aA];rfl
   clear U;simp only[go_sem,h2,h3,h4,h5,Z,O,J,E,X,Rt];refine dM so3 E ⟨by simp,rfl,by simp⟩ ?_;generalize U:aI _ V _=HP;replace X:=(congrFun U.symm i8).trans ((aF _ _ _ _ (by first|exact I|exact ne_i12_i8.symm)).trans X);replace Rt:=(congrFun U.symm jt).trans ((aF _ _ _ _ (by first|exact ne_jt_i12|exact F.symm)).trans Rt);replace E:HP V=some (gQ (jL 0 0 { l.sheet with rest:=b,depart:=gI t l b } jt)):=by rw[<-U,aA];rfl
   clear U;simp only[go_sem,h2,h3,h4,h5,Z,O,J,E,X,Rt];exact hK _ _ ⟨by simp only[go_sem,h2],by simp only[go_sem,h4],by simp only[go_sem,Z],by simp only[go_sem,O],by simp only[go_sem,J],by simp only[go_sem],X,E,Rt⟩
 . obtain⟨j,rfl⟩:∃j,k=j+1:=⟨k-1,by simp at hb;omega⟩
   have w:IntKind.i64.wrap (((j+1:Nat):Int)-1)=(j:Int):=by rw[bH (by omega)];omega
   obtain⟨tm,an⟩:=aN (show j<l.sheet.times.length by omega);have b1:=inB (show j<l.sheet.times.length by omega);have eg:l.sheet.times.getD j Dl=tm:=by simp[List.getD,an]
   simp only[go_sem,h2,h3,h4,h5,Z,O,J,E,Rt,w];refine⟨⟨b1.1,b1.2⟩,dM so4 Rt ⟨by simpa using b1.2,rfl,by simp⟩ ?_⟩;generalize U:aI _ jt _=HP;replace X:=(congrFun U.symm i8).trans ((aF _ _ _ _ (by first|exact aa|exact ne_jt_i8.symm)).trans X);replace E:=(congrFun U.symm V).trans ((aF _ _ _ _ (by first|exact F|exact ne_jt_i12.symm)).trans E);replace Rt:HP jt=some (wO (l.sheet.times.set j ⟨tm.arrive,tm.begin_,tm.depart,b⟩)):=by rw[<-U,aA];exact congrArg (fun es=>some (⟨380,4,es⟩:Row)) (agH an b)
   clear U;simp only[go_sem,h2,h3,h4,h5,Z,O,J,w,Rt,X,E];have ao:(l.sheet.times.set j ⟨tm.arrive,tm.begin_,tm.depart,b⟩)[j]?=some ⟨tm.arrive,tm.begin_,tm.depart,b⟩:=by rw[List.getElem?_set_self (by omega)]
   refine⟨⟨b1.1,by rw[List.length_set];exact b1.2⟩,dM so3 Rt ⟨by simpa using b1.2,rfl,by simp⟩ ?_⟩;generalize U:aI _ jt _=HP;replace X:=(congrFun U.symm i8).trans ((aF _ _ _ _ (by first|exact aa|exact ne_jt_i8.symm)).trans X);replace E:=(congrFun U.symm V).trans ((aF _ _ _ _ (by first|exact F|exact ne_jt_i12.symm)).trans E);replace Rt:HP jt=some (wO ((l.sheet.times.set j ⟨tm.arrive,tm.begin_,tm.depart,b⟩).set j ⟨tm.arrive,tm.begin_,gI t l b,b⟩)):=by rw[<-U,aA];exact congrArg (fun es=>some (⟨380,4,es⟩:Row)) (aqA ao _)
   clear U;simp only[go_sem,h2,h3,h4,h5,Z,O,J,w,Rt,X,E];refine hK _ _ ⟨by simp only[go_sem,h2],by simp only[go_sem,h4],by simp only[go_sem,Z],by simp only[go_sem,O],by simp only[go_sem,J],by simp only[go_sem],X,E,?_⟩;rw[Rt,List.set_set];simp only[cO,eg]
 clear X E Rt h2 h3 h4 h5 Z O J;rintro ρ H ⟨h2,h4,Z,O,J,Y,X,E,Rt⟩;generalize hD:gI t l b=D at *;have U:=YI x t r st k hk ap;rcases Xbk k st.length with am|aq
 . obtain⟨s,hs⟩:=aN am
   have b1:=inB am;have ad:((k:Int) == (st.length:Int))=false:=by simp;omega
   have eS:lW x t st k l b=nS x t (qR t st k) s k l b:=by unfold lW;rw[hs]
   rw[eS];unfold nS lJ iL goL;simp only[hD];generalize hg:eU x.net t.profile (qR t st k) s.place D=g;simp only[go_sem,h2,h4,Z,O,J,Y,ad];refine aB (fun _=>?_) (fun hb=>by simp at hb);simp only[go_sem,h2,h4,Z,O,J,Y,aC hs,b1];refine cN (by rfl) (by kernel_rfl) ?_;simp only[go_sem,h2,h4,Z,O,J,Y];refine⟨_,U.q rfl,?_⟩;simp only[go_sem,h2,h4,Z,O,J,Y];refine⟨_,(adB x.net t.profile (qR t st k) s.place D hn).q rfl,?_⟩;rw[hg];simp only[go_sem,h2,h4,Z,O,J,Y];refine aB (fun he=>?_) (fun he=>?_)
   . simp only[go_sem,Z]
     refine aH X (by simp) ?_;simp only[go_sem,Z];rw[if_pos he];exact .refl _
   rw[if_neg (by rw[he];simp)];simp only[go_sem,h2,h4,Z,O,J,Y,E];refine dM so3 E ⟨by simp,rfl,by simp⟩ ?_;generalize U:aI _ V _=HP;replace X:=(congrFun U.symm i8).trans ((aF _ _ _ _ (by first|exact I|exact ne_i12_i8.symm)).trans X);replace Rt:=(congrFun U.symm jt).trans ((aF _ _ _ _ (by first|exact ne_jt_i12|exact F.symm)).trans Rt);replace E:HP V=some (gQ (jL 0 0 { cO l.sheet k b D with miles:=W ((cO l.sheet k b D).miles+g.2.1) } jt)):=by rw[<-U,aA];rfl
   clear U;simp only[go_sem,h2,h4,Z,O,J,Y,E,X,Rt];refine dM so3 E ⟨by simp,rfl,by simp⟩ ?_;generalize U:aI _ V _=HP;replace X:=(congrFun U.symm i8).trans ((aF _ _ _ _ (by first|exact I|exact ne_i12_i8.symm)).trans X);replace Rt:=(congrFun U.symm jt).trans ((aF _ _ _ _ (by first|exact ne_jt_i12|exact F.symm)).trans Rt);replace E:HP V=some (gQ (jL 0 (W (W (mF l b+g.1)-D)) { cO l.sheet k b D with miles:=W ((cO l.sheet k b D).miles+g.2.1) } jt)):=by rw[<-U,aA];rfl
   clear U;simp only[go_sem,h2,h4,Z,O,J,Y,ad,E,X,Rt];refine aB (fun hb=>by simp at hb) (fun _=>?_);simp only[go_sem,h2,h4,Z,O,J,Y,aC hs,b1];refine PC.use (UN s g.1) ?_;simp only[go_sem,h2,h4,Z,O,J,Y];by_cases hw:fP g.1 s.start>s.close
   . rw[if_pos hw,if_pos hw,if_pos hw]
     refine aB (fun _=>?_) (fun hb=>by simp at hb);simp only[go_sem,Z];refine aH X (by simp) ?_;simp only[go_sem,Z];exact .refl _
   rw[if_neg hw,if_neg hw,if_neg hw];refine aB (fun hb=>by simp at hb) (fun _=>?_);simp only[go_sem,h2,h4,Z,O,J,Y,aC hs,b1];refine dM so3 E ⟨by simp,rfl,by simp⟩ ?_;generalize U:aI _ V _=HP;replace X:=(congrFun U.symm i8).trans ((aF _ _ _ _ (by first|exact I|exact ne_i12_i8.symm)).trans X);replace Rt:=(congrFun U.symm jt).trans ((aF _ _ _ _ (by first|exact ne_jt_i12|exact F.symm)).trans Rt);replace E:HP V=some (gQ (jL (W (fP g.1 s.start+s.service)) (W (W (mF l b+g.1)-D)) { cO l.sheet k b D with miles:=W ((cO l.sheet k b D).miles+g.2.1) } jt)):=by rw[<-U,aA];rfl
   clear U;simp only[go_sem,h2,h4,Z,O,J,Y,ad,E,X,Rt];refine aZ Rt ⟨rfl,rfl⟩ ⟨rfl,trivial⟩ (by simp[(mQ l.sheet k b D).2.2];omega) (fun j' ah=>?_);have ae:i8≠j':=aP X ah;have ac:V≠j':=aP E ah;generalize U:aI (aI _ jt none) j' _=HP;replace X:=(congrFun U.symm i8).trans ((aF _ _ _ _ ae).trans ((aF _ _ _ _ (by first|exact aa|exact ne_jt_i8.symm)).trans X));replace E:=(congrFun U.symm V).trans ((aF _ _ _ _ ac).trans ((aF _ _ _ _ (by first|exact F|exact ne_jt_i12.symm)).trans E));have ag:HP j'=some (wO ((cO l.sheet k b D).times++[⟨g.1,fP g.1 s.start,0,false⟩])):=by rw[<-U,aA];(show some (⟨380,4,_⟩:Row)=some ⟨380,4,_⟩;rw[Xar];rfl)
   clear U ah;simp only[go_sem,h2,h4,Z,O,J,Y,ad,ag,X,E];refine dM U8 E ⟨by simp,rfl,by simp⟩ ?_;generalize U:aI _ V _=HP;replace X:=(congrFun U.symm i8).trans ((aF _ _ _ _ (by first|exact I|exact ne_i12_i8.symm)).trans X);replace ag:=(congrFun U.symm j').trans ((aF _ _ _ _ (by first|exact ne_j'_i12|exact ac.symm)).trans ag);replace E:HP V=some (gQ (jL (W (fP g.1 s.start+s.service)) (W (W (mF l b+g.1)-D)) { cO l.sheet k b D with miles:=W ((cO l.sheet k b D).miles+g.2.1),times:=(cO l.sheet k b D).times++[⟨g.1,fP g.1 s.start,0,false⟩] } j')):=by rw[<-U,aA];rfl
   clear U;simp only[go_sem,h2,h4,Z,O,J,Y,ad,E,X,ag];refine aB (fun hd=>?_) (fun hd=>?_)
   . rw[if_pos (by simpa using hd)]
     simp only[go_sem,Z];refine aH X (by simp) ?_;simp only[go_sem,Z];exact .refl _
   . rw[if_neg (by simpa using hd)]
     simp only[go_sem,Z,Y,E];refine aH X ⟨by simp,rfl,Xah _⟩ ?_;simp only[go_sem,Z];have hm:=(mQ l.sheet k b D).1;have:=fun H=>Qg (H:=H) (j:=j') (l:=⟨W (fP g.1 s.start+s.service),W (W (mF l b+g.1)-D),{ cO l.sheet k b D with miles:=W ((cO l.sheet k b D).miles+g.2.1),times:=(cO l.sheet k b D).times++[⟨g.1,fP g.1 s.start,0,false⟩] }⟩)
     simp only[hm]at this |-;exact .tup [.agg (jL _ _ _ j'),int 0] _ (.cons _ _ _ _ (.agg _ _ (this _ ((aF _ _ _ _ ae.symm).trans ag))) (ConvL.refl _))
 . have ar:k=st.length:=by omega
   have ad:((k:Int) == (st.length:Int))=true:=by simp;omega
   have eS:lW x t st k l b=pW x t (qR t st k) k l b:=by unfold lW;rw[List.getElem?_eq_none aq]
   rw[eS];unfold pW lJ HD goL;simp only[hD];generalize hg:eU x.net t.profile (qR t st k) t.dst D=g;simp only[go_sem,h2,h4,Z,O,J,Y,ad];refine aB (fun hb=>by simp at hb) (fun _=>?_);simp only[go_sem,h2,h4,Z,O,J,Y];refine cN (by rfl) (by kernel_rfl) ?_;simp only[go_sem,h2,h4,Z,O,J,Y];refine⟨_,U.q rfl,?_⟩;simp only[go_sem,h2,h4,Z,O,J,Y];refine⟨_,(adB x.net t.profile (qR t st k) t.dst D hn).q rfl,?_⟩;rw[hg];simp only[go_sem,h2,h4,Z,O,J,Y];refine aB (fun he=>?_) (fun he=>?_)
   . simp only[go_sem,Z]
     refine aH X (by simp) ?_;simp only[go_sem,Z];rw[if_pos he];exact .refl _
   rw[if_neg (by rw[he];simp)];simp only[go_sem,h2,h4,Z,O,J,Y,E];refine dM so3 E ⟨by simp,rfl,by simp⟩ ?_;generalize U:aI _ V _=HP;replace X:=(congrFun U.symm i8).trans ((aF _ _ _ _ (by first|exact I|exact ne_i12_i8.symm)).trans X);replace Rt:=(congrFun U.symm jt).trans ((aF _ _ _ _ (by first|exact ne_jt_i12|exact F.symm)).trans Rt);replace E:HP V=some (gQ (jL 0 0 { cO l.sheet k b D with miles:=W ((cO l.sheet k b D).miles+g.2.1) } jt)):=by rw[<-U,aA];rfl
   clear U;simp only[go_sem,h2,h4,Z,O,J,Y,E,X,Rt];refine dM so3 E ⟨by simp,rfl,by simp⟩ ?_;generalize U:aI _ V _=HP;replace X:=(congrFun U.symm i8).trans ((aF _ _ _ _ (by first|exact I|exact ne_i12_i8.symm)).trans X);replace Rt:=(congrFun U.symm jt).trans ((aF _ _ _ _ (by first|exact ne_jt_i12|exact F.symm)).trans Rt);replace E:HP V=some (gQ (jL 0 (W (W (mF l b+g.1)-D)) { cO l.sheet k b D with miles:=W ((cO l.sheet k b D).miles+g.2.1) } jt)):=by rw[<-U,aA];rfl
   clear U;simp only[go_sem,h2,h4,Z,O,J,Y,ad,E,X,Rt];refine aB (fun _=>?_) (fun hb=>by simp at hb);simp only[go_sem,h2,h4,Z,O,J,Y];refine aB (fun hw=>?_) (fun hw=>?_)
   . rw[if_pos (by simpa using hw)]
     simp only[go_sem,Z];refine aH X (by simp) ?_;simp only[go_sem,Z];exact .refl _
   rw[if_neg (by simpa using hw)];simp only[go_sem,h2,h4,Z,O,J,Y,E];refine dM so3 E ⟨by simp,rfl,by simp⟩ ?_;generalize U:aI _ V _=HP;replace X:=(congrFun U.symm i8).trans ((aF _ _ _ _ (by first|exact I|exact ne_i12_i8.symm)).trans X);replace Rt:=(congrFun U.symm jt).trans ((aF _ _ _ _ (by first|exact ne_jt_i12|exact F.symm)).trans Rt);replace E:HP V=some (gQ (jL 0 (W (W (mF l b+g.1)-D)) { cO l.sheet k b D with miles:=W ((cO l.sheet k b D).miles+g.2.1),end_:=g.1 } jt)):=by rw[<-U,aA];rfl
   clear U;simp only[go_sem,h2,h4,Z,O,J,Y,ad,E,X,Rt];refine dM so3 E ⟨by simp,rfl,by simp⟩ ?_;generalize U:aI _ V _=HP;replace X:=(congrFun U.symm i8).trans ((aF _ _ _ _ (by first|exact I|exact ne_i12_i8.symm)).trans X);replace Rt:=(congrFun U.symm jt).trans ((aF _ _ _ _ (by first|exact ne_jt_i12|exact F.symm)).trans Rt);replace E:HP V=some (gQ (jL g.1 (W (W (mF l b+g.1)-D)) { cO l.sheet k b D with miles:=W ((cO l.sheet k b D).miles+g.2.1),end_:=g.1 } jt)):=by rw[<-U,aA];rfl
   clear U;simp only[go_sem,h2,h4,Z,O,J,Y,ad,E,X,Rt];refine aB (fun hd=>?_) (fun hd=>?_)
   . rw[if_pos (by simpa using hd)]
     simp only[go_sem,Z];refine aH X (by simp) ?_;simp only[go_sem,Z];exact .refl _
   . rw[if_neg (by simpa using hd)]
     simp only[go_sem,Z,Y,E];refine aH X ⟨by simp,rfl,Xah _⟩ ?_;simp only[go_sem,Z];have hm:=(mQ l.sheet k b D).1;have:=fun H=>Qg (H:=H) (j:=jt) (l:=⟨g.1,W (W (mF l b+g.1)-D),{ cO l.sheet k b D with miles:=W ((cO l.sheet k b D).miles+g.2.1),end_:=g.1 }⟩)
     simp only[hm]at this |-;exact .tup [.agg (jL _ _ _ jt),int 0] _ (.cons _ _ _ _ (.agg _ _ (this _ ((aF _ _ _ _ aa.symm).trans Rt))) (ConvL.refl _))
end Sq
namespace Sq
open Go.Proofs.Tryz(prog)
open Mv (bJ bR aM)
def Ay(x:Instance)(t:VType)(st:List Stop):List Bool->Nat->Lab->Except Int Lab
 | [],_,l=>.ok l
 | b::bs,k,l=>match lW x t st k l b with
   | .error e=>.error e
   | .ok l'=>Ay x t st bs (k+1) l'
def FF(e:Except Int Lab):Sheet:=match e with| .ok l=>l.sheet| .error _=>aS
theorem J5{x:Instance}{t:VType}{st:List Stop}{k:Nat}{l:Lab}{b:Bool}{e:Int}(h:lW x t st k l b=.error e):e≠0:=by
 unfold lW at h;split at h
 . exact KO h
 . exact Kh h
theorem Eh{x:Instance}{t:VType}{st:List Stop}{k:Nat}{l l':Lab}{b:Bool}(F:k<st.length)(E:l.sheet.times.length=k)(h:lW x t st k l b=.ok l'):l'.sheet.times.length=k+1:=by
 unfold lW at h;rw[List.getElem?_eq_getElem F]at h;simp only at h;unfold nS at h;split at h
 . cases h
 . split at h
   . cases h
   . split at h
     . cases h
     . injection h with h
       subst h;simp[iL,(mQ _ _ _ _).2.2,E]
theorem apO(x:Instance)(t:VType)(r:Route)(st:List Stop)(bs:List Bool)(hn:NetOk x.net)(aj:st.length<=1048575)(hb:bs.length<=st.length+1):
   PC prog 321 [.agg (dL x t r st),.sl (bs.map cR)] (.tup [.agg (bP (FF (Ay x t st bs 0 (fT t r)))),int (D4 (Ay x t st bs 0 (fT t r)))]):=by
 refine pcd Tryz.func321 ?_;unfold Tryz.f321;simp only[gdS];simp only[go_sem];refine aL fun i4 af=>?_
 generalize ad:aI _ i4 _=HGi4;have J:HGi4 i4=some (cP (bP aS)):=by rw[<-ad,aA];try rfl
 clear ad af;simp only[go_sem,J];refine PC.use (NB x t r st) ?_;simp only[go_sem];refine aL fun i6 ac=>?_
 have E:i4≠i6:=aP J ac;simp only[go_sem,J];refine aH (aA _ _ _) (by simp[lB]) ?_;generalize Z:aI (aI _ i6 _) i6 _=HGi6;replace J:=kpR Z E E J;have Y:HGi6 i6=some (gQ (dK (fT t r))):=by rw[<-Z,aA];try rfl
 clear Z ac;simp only[go_sem,Y,J];refine⟨fun ρ H=>∃(k:Nat) (l:Lab),k<=bs.length/\ρ 2=.rp (dL x t r st) 0/\ρ 4=.op i4 0 0/\ρ 6=.op i6 0 0/\ρ 13=.sl (bs.map cR)/\ρ 14=int bs.length/\ρ 15=int k/\H i4=some (cP (bP aS))/\H i6=some (gQ (dK l))/\(k<=st.length->l.sheet.times.length=k)/\Ay x t st bs 0 (fT t r)=Ay x t st (bs.drop k) k l,fun ρ _=>bs.length-aV (ρ 15),
   ⟨0,fT t r,Xab _,by simp only[go_sem],by simp only[go_sem],by simp only[go_sem],by simp only[go_sem],by simp only[go_sem,Xaa],by simp only[go_sem];rfl,J,Y,fun _=>rfl,rfl⟩,?_⟩
 clear J Y;rintro ρ H ⟨k,l,hk,h2,h4,h6,O,U,V,J,Y,hl,he⟩;simp only[go_sem,h2,h4,h6,O,U,V];refine aB (fun ab=>?_) (fun ae=>?_)
 . have ab:=aQ ab
   obtain⟨b,ag⟩:=aN ab;have b1:=inB ab;rw[OA ag,Ay]at he;simp only[go_sem,h2,h4,h6,O,U,V,aC ag,b1,cR,Y];refine PC.use (Z3 x t r st l k b hn (by omega) (by omega) (hl (by omega))) ?_;simp only[go_sem,h2,h4,h6,O,U,V];refine aL fun i9 aa=>?_
   have F:i4≠i9:=aP J aa;have I:i6≠i9:=aP Y aa;simp only[go_sem,h2,h4,h6,O,U,V,J,Y];refine aH (aA _ _ _) (by simp[lB]) ?_;generalize X:aI (aI _ i9 _) i9 _=HGi9;replace J:=kpR X F F J;replace Y:=kpR X I I Y;have R9:HGi9 i9=some (gQ (dK (aaD (lW x t st k l b)))):=by rw[<-X,aA];try rfl
   clear X aa;simp only[go_sem,h2,h4,h6,O,U,V,R9,J,Y];cases hs:lW x t st k l b with
   | error e=>
     rw[hs]at he;have ah:=J5 hs;refine aB (fun _=>?_) (fun hb=>by simp[D4]at hb;exact absurd hb ah);simp only[go_sem,h4];refine aH J (by simp) ?_;simp only[go_sem,h4];rw[he];exact .refl _
   | ok l'=>
     rw[hs]at he R9;refine aB (fun hb=>by simp[D4]at hb) (fun _=>?_);simp only[go_sem,h2,h4,h6,O,U,V,R9];refine aH Y (by simp[lB]) ?_;generalize hP:aI _ i6 _=HP;replace J:=(congrFun hP.symm i4).trans ((aF _ _ _ _ (by first|exact E|exact ne_i6_i4.symm)).trans J);replace Y:HP i6=some (gQ (dK l')):=by rw[<-hP,aA];rfl
     clear hP;simp only[go_sem,h2,h4,h6,O,U,V,aT (show k<=4611686018427387904 by omega),Y,J];exact⟨⟨k+1,l',ab,rfl,rfl,fun ai=>Eh (by omega) (hl (by omega)) hs,he⟩,by simp only[aE];omega⟩
 . have ae:=aR hk ae
   subst ae;rw[List.drop_length,Ay]at he;simp only[go_sem,h4,h6,Y];refine aH J (by simp[hY]) ?_;simp only[go_sem,h4];rw[he];exact .refl _
theorem aiL(l m:Lab):PC prog 358 [.agg (dK l),.agg (dK m)] (boo (uE l m)):=by
 refine pcd Tryz.func358 ?_;unfold Tryz.f358;simp only[gdS];simp only[go_sem];exact .refl _
theorem ajM(l m:Lab):PC prog 357 [.agg (dK l),.rp (dK m) 0] (boo (uE l m)):=by
 refine pcd Tryz.func357 ?_;unfold Tryz.f357;simp only[gdS];simp only[go_sem];refine PC.use (aiL l m) ?_;simp only[go_sem];exact .refl _
theorem Mi{g:Nat}{cap:List AV}{p:Lab->Bool}(l:List Lab)(hl:l.length<=4000000000000000000)(X:aG prog g=true)(hg:∀v∈l,PC prog g (.agg (dK v)::cap) (boo (p v))):
   PC prog 376 [.sl (l.map dK),.fn g cap] (int (nQ p l 0)):=by
 refine pcd Tryz.func376 ?_;unfold Tryz.f376;simp only[gdS];simp only[go_sem];refine⟨fun ρ _=>∃k:Nat,k<=l.length/\ρ 0=.sl (l.map dK)/\ρ 1=.fn g cap/\ρ 7=int l.length/\ρ 8=int k/\∀u∈l.take k,p u=false,fun ρ _=>l.length-aV (ρ 8),⟨0,Xab _,rfl,rfl,rfl,rfl,by simp⟩,?_⟩;rintro ρ H ⟨k,Z,h0,h1,U,I,J⟩;simp only[go_sem,h0,h1,U,I];refine aB (fun E=>?_) (fun F=>?_)
 . have E:=aQ E
   obtain⟨u,O⟩:=aN E;have Y:=inB E;simp only[go_sem,h0,h1,U,I,aC O,Y,X];refine PC.use (hg u (Xac O)) ?_;simp only[go_sem,h0,h1,U,I];refine aB (fun V=>?_) (fun V=>?_)
   . simp only[go_sem,I]
     exact bJ (by rw[kW J O V];omega)
   . simp only[go_sem,h0,h1,U,I,aT (show k<=4611686018427387904 by omega)]
     exact⟨⟨k+1,E,rfl,aM (p:=fun u=>p u=false) O V J⟩,by simp only[aE];omega⟩
 . have F:=aR Z F
   subst F;rw[Xag]at J;simp only[go_sem];exact bJ (by rw[jP J])
theorem E9{g:Nat}{cap:List AV}{p:Lab->Bool}(l:List Lab)(F:l.length<=4000000000000000000)(E:aG prog g=true)(I:∀v∈l,PC prog g (.agg (dK v)::cap) (boo (p v))):
   PC prog 356 [.sl (l.map dK),.fn g cap] (boo (l.any p)):=by
 refine pcd Tryz.func356 ?_;unfold Tryz.f356;simp only[gdS];simp only[go_sem];refine PC.use (Mi l F E I) ?_;simp only[go_sem];exact bR (pB l 0 (Xbi _))
def oM(x:Instance)(t:VType)(st:List Stop)(k:Nat)(out:List Lab)(l:Lab)(bs:List Bool):List Lab:=(bs.map fun b=>lW x t st k l b).foldl uI out
def GI(x:Instance)(t:VType)(r:Route)(st:List Stop)(ls:List Lab)(k:Nat):List Lab:=ls.foldl (fun out l=>oM x t st k out l (dX r.rests k)) []
theorem YV(out:List Lab)(e:Except Int Lab):(uI out e).length<=out.length+1:=by
 unfold uI;split
 . omega
 . split
   . omega
   . simp
theorem Eu(f:List Bool)(k:Nat):(dX f k).length<=2:=by unfold dX;split <;> simp
theorem DS(x:Instance)(t:VType)(st:List Stop)(k:Nat)(l:Lab):∀(bs:List Bool) (out:List Lab),(oM x t st k out l bs).length<=out.length+bs.length
 | [],out=>by simp[oM]
 | b::bs,out=>by
   have:=DS x t st k l bs (uI out (lW x t st k l b));have E:=YV out (lW x t st k l b);simp only[oM,Xbc,List.foldl_cons,Xad]at this |-;omega
theorem DR(x:Instance)(t:VType)(r:Route)(st:List Stop)(k:Nat):∀(E:List Lab) (out:List Lab),(E.foldl (fun out l=>oM x t st k out l (dX r.rests k)) out).length<=out.length+2*E.length
 | [],out=>by simp
 | l::E,out=>by
   have:=DR x t r st k E (oM x t st k out l (dX r.rests k));have F:=DS x t st k l (dX r.rests k) out;have I:=Eu r.rests k;simp only[List.foldl_cons,Xad]at this |-;omega
abbrev Ux(l:List Lab):Row:=⟨332,7,l.map dK⟩
theorem G2:∀l:List Lab,cZ 7 (l.map dK)
 | []=>trivial
 | _::r=>⟨rfl,G2 r⟩
theorem G0:∀l:List Bool,cZ 1 (l.map cR)
 | []=>trivial
 | _::r=>⟨rfl,G0 r⟩
theorem Ru{x:Instance}{t:VType}{st:List Stop}{k m:Nat}{out:List Lab}{l:Lab}{bs:List Bool}{b:Bool}(h:bs[m]?=some b):oM x t st k out l (bs.take (m+1))=uI (oM x t st k out l (bs.take m)) (lW x t st k l b):=by
 unfold oM;rw[bQ h,Xar,Xbh];rfl
theorem aqD(x:Instance)(t:VType)(r:Route)(st:List Stop)(ls:List Lab)(k:Nat)(hn:NetOk x.net)(a4:st.length<=1048575)(hk:k<=st.length)(a9:ls.length<=4194304)(hl:∀l∈ls,l.sheet.times.length=k):
   PC prog 320 [.agg (dL x t r st),.sl (ls.map dK),int k] (.sl ((GI x t r st ls k).map dK)):=by
 refine pcb (fun t=>t == 8) Tryz.func320 ?_;unfold Tryz.f320;simp only[gdS];simp only[go_sem];refine bK (fun ap H'=>ap 1=.sl (ls.map dK)/\ap 2=int k/\ap 3=.rp (dL x t r st) 0/\ap 7=.sl ((dX r.rests k).map cR)) ?_ fun K hK=>aB (fun hb=>?_) (fun hb=>?_)
 rotate_left
 . have hb:k<r.rests.length:=by simp at hb;omega
   simp only[go_sem,aT (show k<=4611686018427387904 by omega)];refine⟨⟨by omega,G0 _⟩,hK _ _ ⟨by simp only[go_sem],by simp only[go_sem],by simp only[go_sem],?_⟩⟩;simp only[go_sem];have:dX r.rests k=(r.rests.take (k+1)).drop k:=by
     obtain⟨c,hc⟩:=aN hb;unfold dX;rw[if_pos hb,bQ hc,List.drop_append_of_le_length (by simp;omega),List.drop_of_length_le (by simp;omega)];simp[List.getD,hc]
   rw[this,List.map_drop,List.map_take]
 . have hb:¬k<r.rests.length:=by simp at hb;omega
   simp only[go_sem];refine hK _ _ ⟨by simp only[go_sem],by simp only[go_sem],by simp only[go_sem],?_⟩;simp only[go_sem];unfold dX;rw[if_neg hb];rfl
 rintro ρ H ⟨h1,V,Y,Z⟩;simp only[go_sem,h1,V,Y,Z];refine aL fun j0 ay=>?_
 simp only[go_sem,h1,V,Y,Z];have a8:=Eu r.rests k;generalize hC:dX r.rests k=cs at *;refine⟨fun ρ H=>∃(n:Nat) (j:Nat),n<=ls.length/\ρ 2=int k/\ρ 3=.rp (dL x t r st) 0/\ρ 7=.sl (cs.map cR)/\ρ 29=.sl (ls.map dK)/\ρ 30=int ls.length/\ρ 31=int n/\ρ 8=.os j/\H j=some (Ux ((ls.take n).foldl (fun out l=>oM x t st k out l cs) [])),fun ρ _=>ls.length-aV (ρ 31),
   ⟨0,j0,Xab _,by simp only[go_sem,V],by simp only[go_sem,Y],by simp only[go_sem,Z],by simp only[go_sem],by simp only[go_sem,Xaa],by simp only[go_sem];rfl,by simp only[go_sem],aA _ _ _⟩,?_⟩
 clear h1 V Y Z ay j0;rintro ρ H ⟨n,j,a0,V,Y,Z,J,I,F,h8,R⟩;simp only[go_sem,V,Y,Z,J,I,F,h8];refine aB (fun al=>?_) (fun au=>?_)
 . have al:=aQ al
   obtain⟨l,ar⟩:=aN al;have b1:=inB al;have az:=hl l (Xac ar);have a6:((ls.take n).foldl (fun out l=>oM x t st k out l cs) []).length<=2*n:=by
     have:=DR x t r st k (ls.take n) [];rw[hC]at this;simp at this;omega
   have aq:(ls.take (n+1)).foldl (fun out l=>oM x t st k out l cs) []=oM x t st k ((ls.take n).foldl (fun out l=>oM x t st k out l cs) []) l cs:=kF ar;generalize hO:(ls.take n).foldl (fun out l=>oM x t st k out l cs) []=out0 at *;simp only[go_sem,V,Y,Z,J,I,F,h8,aC ar,b1];refine aL fun af ao=>?_
   have E:j≠af:=aP R ao;simp only[go_sem,V,Y,Z,J,I,F,h8,R];refine aH (aA _ _ _) (by simp[lB]) ?_;generalize aj:aI (aI _ af _) af _=HGi10;replace R:=kpR aj E E R;have O:HGi10 af=some (gQ (dK l)):=by rw[<-aj,aA];try rfl
   clear aj ao;simp only[go_sem,V,Y,Z,J,I,F,h8,O,R];refine⟨fun ρ H=>∃(m:Nat) (j:Nat),m<=cs.length/\ρ 2=int k/\ρ 3=.rp (dL x t r st) 0/\ρ 7=.sl (cs.map cR)/\ρ 10=.op af 0 0/\ρ 29=.sl (ls.map dK)/\ρ 30=int ls.length/\ρ 31=int n/\ρ 35=.sl (cs.map cR)/\ρ 36=int cs.length/\ρ 37=int m/\ρ 8=.os j/\j≠af/\H af=some (gQ (dK l))/\H j=some (Ux (oM x t st k out0 l (cs.take m))),fun ρ _=>cs.length-aV (ρ 37),
     ⟨0,j,Xab _,by simp only[go_sem,V],by simp only[go_sem,Y],by simp only[go_sem,Z],by simp only[go_sem],by simp only[go_sem,J],by simp only[go_sem,I],by simp only[go_sem,F],by simp only[go_sem],by simp only[go_sem,Xaa],by simp only[go_sem];rfl,by simp only[go_sem,h8],E,O,R⟩,?_⟩
   clear V Y Z J I F h8 R O E j;rintro ρ H ⟨m,j,hm,V,Y,Z,ac,J,I,F,ad,aa,ab,h8,E,O,R⟩;simp only[go_sem,V,Y,Z,ac,J,I,F,ad,aa,ab,h8];refine aB (fun X=>?_) (fun am=>?_)
   . have X:=aQ X
     obtain⟨b,av⟩:=aN X;have b2:=inB X;have a5:=DS x t st k l (cs.take m) out0;have hf:=Ru (x:=x) (t:=t) (st:=st) (k:=k) (out:=out0) (l:=l) av;have a7:(cs.take m).length<=2:=by simp;omega
     simp only[go_sem,V,Y,Z,ac,J,I,F,ad,aa,ab,h8,aC av,b2,cR,O];refine PC.use (Z3 x t r st l k b hn (by omega) hk az) ?_;simp only[go_sem,V,Y,Z,ac,J,I,F,ad,aa,ab,h8];refine aL fun ak ah=>?_
     have U:af≠ak:=aP O ah;have ae:j≠ak:=aP R ah;simp only[go_sem,V,Y,Z,ac,J,I,F,ad,aa,ab,h8,O,R];refine aH (aA _ _ _) (by simp[lB]) ?_;generalize ag:aI (aI _ ak _) ak _=HGi13;replace O:=kpR ag U U O;replace R:=kpR ag ae ae R;have an:HGi13 ak=some (gQ (dK (aaD (lW x t st k l b)))):=by rw[<-ag,aA];try rfl
     clear ag ah;simp only[go_sem,V,Y,Z,ac,J,I,F,ad,aa,ab,h8,an,O,R];generalize hF:oM x t st k out0 l (cs.take m)=out at *;cases hs:lW x t st k l b with
     | error e=>
       rw[hs]at hf an;have aw:(e == 0)=false:=by simpa using J5 hs
       refine⟨boo false,fun hg=>by simp[gt,D4,aw]at hg,?_⟩;simp only[go_sem,D4,aw];refine aB (fun hb=>by simp at hb) (fun _=>?_);simp only[go_sem,V,Y,Z,ac,J,I,F,ad,aa,ab,h8,aT (show m<=4611686018427387904 by omega)];exact⟨⟨m+1,j,X,rfl,rfl,E,O,by rw[hf];exact R⟩,by simp only[aE];omega⟩
     | ok l'=>
       rw[hs]at hf an;refine⟨_,fun _=>.inl ⟨[.sl (out.map dK),.fn 357 [.rp (dK l') 0]],.cons _ _ _ _ (.row _ _ _ R (ConvE.refl _)) (.cons _ _ _ _ (.fn _ _ _ (.cons _ _ _ _ (.ptr _ _ _ _ _ an (by simp) (ConvL.refl _)) .nil)) .nil),E9 out (by omega) (by simp only[go_sem]) fun v _=>ajM v l',rfl⟩,?_⟩;simp only[go_sem,D4,V,Y,Z,ac,J,I,F,ad,aa,ab,h8];refine aB (fun hb=>?_) (fun hb=>?_)
       . have hb:(out.any fun v=>uE v l')=false:=by simpa using hb
         simp only[go_sem,V,Y,Z,ac,J,I,F,ad,aa,ab,h8,an];refine aZ R ⟨rfl,rfl⟩ ⟨rfl,trivial⟩ (by simp only[Xaa,Xad,List.length_nil];omega) (fun j' ax=>?_);have ai:af≠j':=aP O ax;simp only[go_sem,V,Y,Z,ac,J,I,F,ad,aa,ab,h8,aT (show m<=4611686018427387904 by omega)];refine⟨⟨m+1,j',X,rfl,rfl,ai.symm,dF O E ax,?_⟩,by simp only[aE];omega⟩;have e1:uI out (.ok l')=out++[l']:=by
           show(if(out.any fun v=>uE v l')=true then out else out++[l'])=_;rw[if_neg (by rw[hb];simp)]
         rw[hf,e1];exact pK (l':=[l']) rfl
       . have hb:(out.any fun v=>uE v l')=true:=by simpa using hb
         simp only[go_sem,V,Y,Z,ac,J,I,F,ad,aa,ab,h8,aT (show m<=4611686018427387904 by omega)];refine⟨⟨m+1,j,X,rfl,rfl,E,O,?_⟩,by simp only[aE];omega⟩;have e1:uI out (.ok l')=out:=by
           show(if(out.any fun v=>uE v l')=true then out else out++[l'])=_;rw[if_pos hb]
         rw[hf,e1];exact R
   . have am:=aR hm am
     subst am;rw[Xag]at R;simp only[go_sem,V,Y,Z,J,I,F,h8,aT (show n<=4611686018427387904 by omega)];exact⟨⟨n+1,j,al,rfl,rfl,by rw[aq];exact R⟩,by simp only[aE];omega⟩
 . have au:=aR a0 au
   subst au;rw[Xag]at R;simp only[go_sem,h8];unfold GI;rw[hC];exact .row _ _ _ R (ConvE.refl _)
def dpP(x:Instance)(t:VType)(r:Route)(st:List Stop):Nat->List Lab
 | 0=>[fT t r]
 | k+1=>GI x t r st (dpP x t r st k) k
def lX(b m:Lab):Lab:=if decide (m.sheet.end_<b.sheet.end_)=true then m else b
def CR(x:Instance)(t:VType)(r:Route):Sheet×Int:=match dpP x t r (fB x r.visits) (r.visits.length+1)with
 | []=>(FF (Ay x t (fB x r.visits) (cM r) 0 (fT t r)),D4 (Ay x t (fB x r.visits) (cM r) 0 (fT t r)))
 | l0::ls=>((ls.foldl lX l0).sheet,0)
def jH(x:Instance)(r:Route):Sheet×Int:=
 if(!bX x r||decide ((r.rests.length:Int)>(r.visits.length:Int)+1))=true then(aS,2)else match x.types[r.type.toNat]? with
 | some t=>CR x t r
 | none=>(aS,2)
theorem abF{out:List Lab}{e:Except Int Lab}{m:Lab}(h:m∈uI out e):m∈out\/e=.ok m:=by
 unfold uI at h;split at h
 . exact .inl h
 . rename_i l
   split at h
   . exact .inl h
   . rcases Xau.1 h with h|h
     . exact .inl h
     . simp at h;exact .inr (by rw[h])
theorem JE{x:Instance}{t:VType}{st:List Stop}{k:Nat}{l m:Lab}:∀(bs:List Bool) (out:List Lab),m∈oM x t st k out l bs->m∈out\/∃b,lW x t st k l b=.ok m
 | [],out,h=>.inl h
 | b::bs,out,h=>by
   rcases JE bs (uI out (lW x t st k l b)) h with h|h
   . rcases abF h with h|h
     . exact .inl h
     . exact .inr ⟨b,h⟩
   . exact .inr h
theorem Jt{x:Instance}{t:VType}{r:Route}{st:List Stop}{k:Nat}{m:Lab}:∀(E:List Lab) (out:List Lab),m∈E.foldl (fun out l=>oM x t st k out l (dX r.rests k)) out->m∈out\/∃l∈E,∃b,lW x t st k l b=.ok m
 | [],out,h=>.inl h
 | l::E,out,h=>by
   rcases Jt E _ h with h|⟨l',I,b,F⟩
   . rcases JE _ _ h with h|⟨b,F⟩
     . exact .inl h
     . exact .inr ⟨l,by simp,b,F⟩
   . exact .inr ⟨l',by simp[I],b,F⟩
theorem JD{x:Instance}{t:VType}{r:Route}{st:List Stop}:∀(k:Nat),k<=st.length->∀l∈dpP x t r st k,l.sheet.times.length=k
 | 0,_,l,h=>by simp[dpP]at h;subst h;rfl
 | k+1,hk,l,h=>by
   rcases Jt _ _ h with h|⟨l',E,b,F⟩
   . simp at h
   . exact Eh (by omega) (JD k (by omega) l' E) F
theorem Va(x:Instance)(t:VType)(r:Route)(st:List Stop):∀k:Nat,(dpP x t r st k).length<=2^k
 | 0=>by simp[dpP]
 | k+1=>by
   have h1:=DR x t r st k (dpP x t r st k) [];have E:=Va x t r st k;rw[Xbj];simp only[dpP,GI]at h1 |-;simp at h1;omega
theorem Q4(x:Instance)(r:Route):∃F t' r' E,BE x r=(dL F t' r' E,bX x r)/\(bX x r=true->F=x/\r'=r/\E=fB x r.visits/\x.types[r.type.toNat]?=some t'):=by
 unfold BE;cases J:bX x r with
 | false=>exact⟨_,_,_,_,by rw[if_neg (by simp)],fun h=>by simp at h⟩
 | true=>
   have:=rC J;obtain⟨t,I⟩:=aN (show r.type.toNat<x.types.length by omega);exact⟨x,t,r,fB x r.visits,by rw[if_pos rfl,I],fun _=>⟨rfl,rfl,rfl,I⟩⟩
theorem anS(x:Instance)(r:Route)(hn:NetOk x.net)(hr:r.visits.length<=1048576):PC prog 275 [.agg (aD x),.agg (bT r)] (.tup [.agg (bP (jH x r).1),int (jH x r).2]):=by
 have w:IntKind.i64.wrap ((r.visits.length:Int)+1)=(r.visits.length:Int)+1:=bH (by omega);refine pcb (fun t=>t == 57) Tryz.func275 ?_;unfold Tryz.f275;simp only[gdS];simp only[go_sem];refine aL fun i4 aw=>?_
 generalize ap:aI _ i4 _=HGi4;have E:HGi4 i4=some (cP (bP aS)):=by rw[<-ap,aA];try rfl
 clear ap aw;simp only[go_sem,E];refine PC.use (aoN x r hr) ?_;simp only[go_sem];obtain⟨x',t',r',a4,aq,ax⟩:=Q4 x r;rw[aq];refine aL fun i6 ao=>?_
 have V:i4≠i6:=aP E ao;simp only[go_sem,w,E];refine aH (aA _ _ _) (by simp[EX]) ?_;generalize ah:aI (aI _ i6 _) i6 _=HGi6;replace E:=kpR ah V V E;have R6:HGi6 i6=some (yF (dL x' t' r' a4)):=by rw[<-ah,aA];try rfl
 clear ah ao;simp only[go_sem,w,R6,E];refine aB (fun h1=>?_) (fun h1=>?_)
 . simp only[go_sem]
   refine aH E (by simp) ?_;simp only[go_sem];have e:jH x r=(aS,2):=by unfold jH;rw[if_pos h1]
   rw[e];exact .refl _
 have hp:bX x r=true:=by
   rw[Xaf]at h1;simpa using h1.1
 have au:r.rests.length<=r.visits.length+1:=by
   rw[Xaf]at h1;have:=h1.2;simp at this;omega
 have bc:=rC hp;obtain⟨t,ht⟩:=aN (show r.type.toNat<x.types.length by omega);have a8:r.visits.length<=20:=by
   unfold bX at hp;simp only[Xak,Xbb,Xaf,decide_eq_false_iff_not]at hp;omega
 have eB:jH x r=CR x t r:=by unfold jH;rw[if_neg (by rw[h1];simp),ht]
 obtain⟨ex,er,es,ak⟩:=ax hp;rw[ex,er,es]at R6;rw[ht]at ak;injection ak with ak;rw[<-ak]at R6;clear aq ax ex er es ak;rw[eB];have a7:(fB x r.visits).length=r.visits.length:=by simp[fB]
 have a0:=Va x t r (fB x r.visits);have a5:=JD (x:=x) (t:=t) (r:=r) (st:=fB x r.visits);unfold CR;generalize hS:fB x r.visits=st at *;simp only[go_sem,R6];refine PC.use (NB x t r st) ?_;simp only[go_sem];refine⟨fun ρ H=>∃k:Nat,k<=r.visits.length+1/\ρ 3=.rp (bT r) 0/\ρ 4=.op i4 0 0/\ρ 6=.op i6 0 0/\ρ 8=int ((r.visits.length:Int)+1)/\ρ 38=int ((r.visits.length:Int)+1)/\ρ 39=int k/\ρ 9=.sl ((dpP x t r st k).map dK)/\H i4=some (cP (bP aS))/\H i6=some (yF (dL x t r st)),fun ρ _=>r.visits.length+1-aV (ρ 39),
   ⟨0,Xab _,by simp only[go_sem],by simp only[go_sem],by simp only[go_sem],by simp only[go_sem],by simp only[go_sem],by simp only[go_sem];rfl,by simp only[go_sem];rfl,E,R6⟩,?_⟩
 clear E R6;rintro ρ H ⟨k,hk,h3,O,h6,h8,an,am,h9,E,R6⟩;simp only[go_sem,h3,O,h6,h8,an,am,h9];refine aB (fun Y=>?_) (fun af=>?_)
 . have Y:k<=r.visits.length:=by simp at Y;omega
   simp only[go_sem,h3,O,h6,h8,an,am,h9,R6];have bb:2^k<=2^20:=Xav (by decide) (by omega);have:=a0 k;refine PC.use (aqD x t r st (dpP x t r st k) k hn (by omega) (by omega) (by omega) (a5 k (by omega))) ?_;simp only[go_sem,h3,O,h6,h8,an,am,aT (show k<=4611686018427387904 by omega)];exact⟨⟨k+1,by omega,rfl,rfl,E,R6⟩,by simp only[aE];omega⟩
 have af:k=r.visits.length+1:=by simp at af;omega
 subst af;simp only[go_sem,h3,O,h6,h8,h9];cases hd:dpP x t r st (r.visits.length+1)with
 | nil=>
   rw[hd]at h9;refine aB (fun _=>?_) (fun hb=>by simp at hb);simp only[go_sem,h3,O,h6,h8,h9];refine⟨⟨by omega,by omega⟩,aL fun j hj=>?_⟩;simp only[go_sem,h3,O,h6,h8,h9];have a6:(((r.visits.length:Int)+1)).toNat=r.visits.length+1:=by omega
   refine UU anD (aA _ _ _) (.inl ⟨rfl,rfl,rfl⟩) (.inl rfl) rfl (G0 _) ?_;have ai:=aP E hj;have ar:=aP R6 hj;generalize hG:aI (aI H j _) j _=H1;have Rj:H1 j=some (A5 (cM r)):=by
     rw[<-hG,aA,a6];exact congrArg (fun es=>some (⟨4,1,es⟩:Row)) (G7 au)
   replace E:=(congrFun hG.symm i4).trans (pY E hj);replace R6:=(congrFun hG.symm i6).trans (pY R6 hj);clear hG hj;simp only[go_sem,h3,O,h6,h8,h9,R6];refine Bc (by simp only[go_sem]) Rj fun Hr ba hr=>?_
   replace E:=(hr i4 ai).trans E;simp only[go_sem,h3,O,h6,h8,h9];refine PC.use (apO x t r st (cM r) hn (by omega) (by rw[mJ au,a7];exact Xah _)) ?_;simp only[go_sem,h3,O,h6,h8,h9];refine aH E (by simp[hY]) ?_;simp only[go_sem,O];exact .refl _
 | cons l0 ls=>
   rw[hd]at h9;have a9:=G2 (l0::ls);have az:(l0::ls).length<=2^21:=by
     have:=a0 (r.visits.length+1);rw[hd]at this;exact Xal this (Xav (by decide) (by omega))
   refine aB (fun hb=>by simp at hb;omega) (fun _=>?_);have b1:(0:Int)<=0/\(0:Int)<((l0::ls).length:Int):=⟨Xbi _,by simp⟩;simp only[go_sem,h3,O,h6,h8,h9,aC (l:=l0::ls) (k:=0) (x:=l0) rfl,b1];refine⟨by omega,?_⟩;refine aL fun X al=>?_
   have F:i4≠X:=aP E al;simp only[go_sem,h3,O,h6,h8,h9,E];refine aH (aA _ _ _) (by simp[lB]) ?_;generalize ae:aI (aI _ X _) X _=HGi12;replace E:=kpR ae F F E;have I:HGi12 X=some (gQ (dK l0)):=by rw[<-ae,aA];try rfl
   clear ae al;simp only[go_sem,h3,O,h6,h8,h9,I,E];refine⟨⟨by omega,G2 ls⟩,?_⟩;refine⟨fun ρ H=>∃(m:Nat),m<=ls.length/\ρ 4=.op i4 0 0/\ρ 12=.op X 0 0/\ρ 65=.sl (ls.map dK)/\ρ 66=int ls.length/\ρ 67=int m/\H i4=some (cP (bP aS))/\H X=some (gQ (dK ((ls.take m).foldl lX l0))),fun ρ _=>ls.length-aV (ρ 67),
     ⟨0,Xab _,by simp only[go_sem,O],by simp only[go_sem],by simp only[go_sem],by simp only[go_sem,Xaa],by simp only[go_sem];rfl,E,I⟩,?_⟩
   clear h3 O h6 h8 h9 E I an am R6;rintro ρ H ⟨m,hm,O,aa,ad,ab,ag,E,I⟩;simp only[go_sem,O,aa,ad,ab,ag];refine aB (fun Y=>?_) (fun af=>?_)
   . have Y:=aQ Y
     obtain⟨l,ay⟩:=aN Y;have b2:=inB Y;have hf:(ls.take (m+1)).foldl lX l0=lX ((ls.take m).foldl lX l0) l:=kF ay;generalize (ls.take m).foldl lX l0=bl at *;simp only[go_sem,O,aa,ad,ab,ag,aC ay,b2];refine aL fun aj ac=>?_
     have U:i4≠aj:=aP E ac;have J:X≠aj:=aP I ac;simp only[go_sem,O,aa,ad,ab,ag,E,I];refine aH (aA _ _ _) (by simp[lB]) ?_;generalize Z:aI (aI _ aj _) aj _=HGi14;replace E:=kpR Z U U E;replace I:=kpR Z J J I;have av:HGi14 aj=some (gQ (dK l)):=by rw[<-Z,aA];try rfl
     clear Z ac;simp only[go_sem,O,aa,ad,ab,ag,av,E,I];refine aB (fun hb=>?_) (fun hb=>?_)
     . simp only[go_sem,O,aa,ad,ab,ag,av]
       refine aH I (by simp[lB]) ?_;generalize hP:aI _ X _=HP;replace E:=(congrFun hP.symm i4).trans ((aF _ _ _ _ (by first|exact F|exact ne_i12_i4.symm)).trans E);replace I:HP X=some (gQ (dK l)):=by rw[<-hP,aA];rfl
       clear hP;simp only[go_sem,O,aa,ad,ab,ag,aT (show m<=4611686018427387904 by simp at az;omega),I,E];exact⟨⟨m+1,Y,rfl,by rw[hf];unfold lX;rw[if_pos hb]⟩,by simp only[aE];omega⟩
     . simp only[go_sem,O,aa,ad,ab,ag,aT (show m<=4611686018427387904 by simp at az;omega)]
       exact⟨⟨m+1,Y,rfl,E,by rw[hf];unfold lX;rw[if_neg (by rw[hb];simp)];exact I⟩,by simp only[aE];omega⟩
   . have af:=aR hm af
     subst af;rw[Xag]at I;simp only[go_sem,O,aa,I];refine aH E (by simp[hY]) ?_;simp only[go_sem,O];exact .refl _
def nO(p:Int×Int):List AV:=[int p.1,int p.2]
def wI(m:List (Int×Int))(o:Int):Option Nat:=m.findIdx? fun p=>p.1 == o
def yJ(m:List (Int×Int))(o:Int):Int:=((m.find? fun p=>p.1 == o).map (·.2)).getD 0
def E5(m:List (Int×Int))(o v:Int):List (Int×Int):=match wI m o with
 | some i=>m.set i (o,v)
 | none=>m++[(o,v)]
abbrev Ac(m:List (Int×Int)):Row:=⟨0,2,m.map nO⟩
theorem wE(o:Int):∀(m:List (Int×Int)) (i:Nat),vB (rM prog 3 (int o)) (m.map nO) i=some ((wI m o).map (·+i))
 | [],i=>rfl
 | p::m,i=>by
   have ih:=wE o m (i+1);have F:rM prog 3 (int o) ((nO p).getD 0 .any)=some (o == p.1):=by
     show rM prog 3 (int o) (int p.1)=_;unfold rM;simp only[kk3];simp[vX]
   rw[Xbc,vB,F];unfold wI at *;rw[List.findIdx?_cons];by_cases h:o=p.1
   . subst h;simp
   . have h1:(o == p.1)=false:=by simpa using h
     have E:(p.1 == o)=false:=by simpa using fun e=>h e.symm
     rw[h1,E];simp only[Xax,if_false];rw[ih];cases m.findIdx? (fun p=>p.1 == o)with
     | none=>rfl
     | some j=>simp;omega
theorem oI(o:Int)(m:List (Int×Int)):vB (rM prog 3 (int o)) (m.map nO) 0=some (wI m o):=by
 rw[wE];cases wI m o <;> rfl
theorem qO(o:Int):nI prog 3 (int o)=true:=by
 simp only[nI,kk3];rfl
theorem CM(m:List (Int×Int))(o:Int):Gd false (int 0) (m.map nO) (wI m o)=int (yJ m o):=by
 unfold Gd yJ wI;induction m with
 | nil=>rfl
 | cons p m ih=>
   rw[List.findIdx?_cons,List.find?_cons];cases h:p.1 == o with
   | true=>simp[nO]
   | false=>
     cases hi:m.findIdx? (fun p=>p.1 == o)with
     | none=>
       rw[hi]at ih;simpa using ih
     | some j=>
       rw[hi]at ih;simp at ih |-;exact ih
theorem Dg(m:List (Int×Int))(o v:Int):Xv (m.map nO) (wI m o) (int o) (int v)=(E5 m o v).map nO:=by
 unfold Xv E5;cases wI m o with
 | none=>simp[nO]
 | some i=>simp[List.map_set,nO]
theorem Qc(m:List (Int×Int))(o v q:Int):yJ (E5 m o v) q=if q=o then v else yJ m q:=by
 unfold yJ E5 wI;induction m with
 | nil=>
   by_cases h:q=o
   . subst h;simp
   . have F:(o == q)=false:=by simpa using fun e=>h e.symm
     simp[h,F]
 | cons p m ih=>
   rw[List.findIdx?_cons];cases J:p.1 == o with
   | true=>
     have E:p.1=o:=by simpa using J
     simp only[if_true,List.set_cons_zero,List.find?_cons];by_cases h:q=o
     . subst h;simp
     . have F:(o == q)=false:=by simpa using fun e=>h e.symm
       have O:(p.1 == q)=false:=by rw[E];exact F
       simp[h,F,O]
   | false=>
     have E:p.1≠o:=by simpa using J
     cases hi:m.findIdx? (fun p=>p.1 == o)with
     | none=>
       rw[hi]at ih;simp only[Xax,if_false,Option.map_none,List.cons_append,List.find?_cons];cases I:p.1 == q with
       | true=>
         have:q≠o:=fun e=>E ((by simpa using I:p.1=q).trans e)
         simp[this]
       | false=>simpa using ih
     | some j=>
       rw[hi]at ih;simp only[Xax,if_false,Option.map_some,List.set_cons_succ,List.find?_cons];cases I:p.1 == q with
       | true=>
         have:q≠o:=fun e=>E ((by simpa using I:p.1=q).trans e)
         simp[this]
       | false=>simpa using ih
theorem Jd(a b:Int):PC prog 322 [int a,int b] (boo (a != -1&&a != b)):=by
 refine pcd Tryz.func322 ?_;unfold Tryz.f322;simp only[gdS];simp only[go_sem];exact .refl _
def Oh(l:List Visit)(o:Int):Nat:=l.countP fun v=>v.order == o
theorem WS{l:List Visit}{k:Nat}{v:Visit}(h:l[k]?=some v)(o:Int):Oh (l.take (k+1)) o=Oh (l.take k) o+if v.order=o then 1 else 0:=by
 unfold Oh;rw[bQ h,List.countP_append];by_cases e:v.order=o
 . simp[e]
 . have:(v.order == o)=false:=by simpa using e
   simp[e]
theorem aiJ(l:List Visit)(k:Nat)(o:Int):Oh (l.take k) o<=l.length:=Xal List.countP_le_length (by rw[Xao];omega)
theorem RV{l:List Visit}{k:Nat}{v:Visit}(h:l[k]?=some v):mC l k=decide (Oh (l.take k) v.order=0):=by
 have J:=(List.getElem?_eq_some_iff.1 h).1;rw[Xas];simp only[decide_eq_true_eq];unfold mC Oh;rw[List.countP_eq_zero,Xaj];constructor
 . intro F u O
   obtain⟨i,hi,rfl⟩:=List.getElem_of_mem O;have E:i<k:=by simp at hi;omega
   have:=F i (Xam.2 E);rw[fZ h,fZ (List.getElem?_eq_getElem (show i<l.length by omega))]at this;simpa using this
 . intro F i hi
   have E:=Xam.1 hi;have I:i<l.length:=by omega
   rw[fZ h,fZ (List.getElem?_eq_getElem I)];have:=F l[i] (List.mem_take_iff_getElem.2 ⟨i,by omega,rfl⟩);simpa using this
theorem aiS(x:Instance)(r:Route)(s:Sheet)(hr:r.visits.length<=1048576):PC prog 276 [.agg (aD x),.agg (bT r),.agg (bP s)] (.agg (cD (lG x r s))):=by
 refine pcd Tryz.func276 ?_;unfold Tryz.f276;simp only[gdS];simp only[go_sem];refine aL fun i6 a8=>?_
 generalize az:aI _ i6 _=HGi6;have X:HGi6 i6=some (mG cH):=by rw[<-az,aA];try rfl
 clear az a8;simp only[go_sem,X];refine aB (fun h1=>?_) (fun h1=>?_)
 . have h1:cC r.type x.types.length=true:=h1
   simp only[go_sem];refine aH X (by simp) ?_;simp only[go_sem];have e:lG x r s=cH:=by unfold lG;rw[if_pos h1]
   rw[e];exact .refl _
 have h1:cC r.type x.types.length=false:=h1;have bb:0<=r.type/\r.type<(x.types.length:Int):=by simp only[cC,Xaf,decide_eq_false_iff_not]at h1;omega
 obtain⟨t,ht⟩:=aN (show r.type.toNat<x.types.length by omega);have e:lG x r s=QF x r s t:=by unfold lG;rw[if_neg (by rw[h1];simp),ht]
 rw[e];simp only[go_sem,aC ht,bb];refine aL fun i7 a0=>?_
 have al:i6≠i7:=aP X a0;simp only[go_sem,X];refine aH (aA _ _ _) (by simp[jZ]) ?_;generalize av:aI (aI _ i7 _) i7 _=HGi7;replace X:=kpR av al al X;have R7:HGi7 i7=some (kN t):=by rw[<-av,aA];try rfl
 clear av a0;simp only[go_sem,R7,X];refine⟨by decide,?_⟩;refine aL fun aa ax=>?_
 have Y:i6≠aa:=aP X ax;simp only[go_sem,X];refine aH (aA _ _ _) (by simp) ?_;generalize ar:aI (aI _ aa _) aa _=HGi10;replace X:=kpR ar Y Y X;have E:HGi10 aa=some (mG (tE t s)):=by rw[<-ar,aA];try rfl
 clear ar ax;simp only[go_sem,E,X];refine aL fun jm a5=>?_
 have ak:=aP X a5;have Z:=aP E a5;generalize hG:aI HGi10 jm _=HM;have Rm:HM jm=some (Ac []):=by rw[<-hG,aA];rfl
 replace X:=(congrFun hG.symm i6).trans ((aF _ _ _ _ ak).trans X);replace E:=(congrFun hG.symm aa).trans ((aF _ _ _ _ Z).trans E);clear hG a5 R7;simp only[go_sem];refine ⟨fun ρ H => ∃ (k : Nat) (m : List (Int × Int)), k <= r.visits.length /\ ρ 3 = .rp (aD x) 0 /\ ρ 4 = .rp (bT r) 0 /\ ρ 6 = .op i6 0 0 /\ ρ 10 = .op aa 0 0 /\ ρ 11 = .om jm /\ ρ 59 = .sl (r.visits.map aJ) /\ ρ 60 = int r.visits.length /\ ρ 61 = int k /\ H i6 = some (mG cH) /\
     H aa=some (mG (((List.range r.visits.length).take k).foldl (fG x r) (tE t s)))/\H jm=some (Ac m)/\∀o,yJ m o=(Oh (r.visits.take k) o:Nat),fun ρ _=>r.visits.length-aV (ρ 61),
   ⟨0,[],Xab _,by simp only[go_sem],by simp only[go_sem],by simp only[go_sem],by simp only[go_sem],by simp only[go_sem],by simp only[go_sem],by simp only[go_sem,Xaa],by simp only[go_sem];rfl,X,E,Rm,fun o=>rfl⟩,?_⟩
 clear X E Rm;rintro ρ H ⟨k,m,hk,h3,h4,h6,F,O,J,I,U,X,E,Rm,hm⟩;simp only[go_sem,h3,h4,h6,F,O,J,I,U];refine aB (fun ap=>?_) (fun a6=>?_)
 . have ap:=aQ ap
   obtain⟨v,hv⟩:=aN ap;have b1:=inB ap;have hs:((List.range r.visits.length).take (k+1)).foldl (fG x r) (tE t s)=fG x r (((List.range r.visits.length).take k).foldl (fG x r) (tE t s)) k:=by
     rw[bQ (gL ap),Xbh];rfl
   generalize hA:((List.range r.visits.length).take k).foldl (fG x r) (tE t s)=A at E hs;have ev:dB r.visits k=v.order:=fZ hv;have ba:=RV hv;have bf:=aiJ r.visits k v.order;have a9:=WS hv;have bd:=hm v.order;have wm:IntKind.i64.wrap (yJ m v.order+1)=yJ m v.order+1:=bH (by omega);simp only[go_sem,h3,h4,h6,F,O,J,I,U,aC hv,b1];refine aL fun aq an=>?_
   have ae:i6≠aq:=aP X an;have ac:aa≠aq:=aP E an;have ab:jm≠aq:=aP Rm an;simp only[go_sem,h3,h4,h6,F,O,J,I,U,X,E,Rm];refine aH (aA _ _ _) (by simp[cX]) ?_;generalize ah:aI (aI _ aq _) aq _=HGi13;replace X:=kpR ah ae ae X;replace E:=kpR ah ac ac E;replace Rm:=kpR ah ab ab Rm;have au:HGi13 aq=some (⟨119,2,[aJ v]⟩):=by rw[<-ah,aA];try rfl
   clear ah an;simp only[go_sem,h3,h4,h6,F,O,J,I,U,au,X,E,Rm];refine Dk Rm Ii (qO _) (oI _ _) zv3 ?_;rw[CM];simp only[go_sem,h3,h4,h6,F,O,J,I,U,au,wm];refine LE Rm Ii (qO _) (oI _ _) ?_;rw[Dg];generalize hP:aI _ jm _=HP;replace X:=(congrFun hP.symm i6).trans ((aF _ _ _ _ (by first|exact ak|exact ne_jm_i6.symm)).trans X);replace E:=(congrFun hP.symm aa).trans ((aF _ _ _ _ (by first|exact Z|exact ne_jm_i10.symm)).trans E);replace au:=(congrFun hP.symm aq).trans ((aF _ _ _ _ (by first|exact ne_i13_jm|exact ab.symm)).trans au);replace Rm:HP jm=some (Ac (E5 m v.order (yJ m v.order+1))):=by rw[<-hP,aA];skip
   clear hP;simp only[go_sem,h3,h4,h6,F,O,J,I,U,Rm,X,E,au];have a7:∀o,yJ (E5 m v.order (yJ m v.order+1)) o=(Oh (r.visits.take (k+1)) o:Nat):=fun o=>by
     rw[Qc,a9 o,hm o,hm v.order];by_cases e:o=v.order
     . subst e;simp
     . rw[if_neg e,if_neg (fun h=>e h.symm)];rfl
   refine Dk Rm Ii (qO _) (oI _ _) zv3 ?_;rw[CM,Qc,if_pos rfl];have a4:(cC v.order x.orders.length||decide (yJ m v.order+1>1))=(cC v.order x.orders.length|| !mC r.visits k):=by
     rw[ba,bd]
     congr 1
     rw[Xas];simp;omega
   simp only[go_sem,h3,h4,h6,F,O,J,I,U,au];refine aB (fun hb=>?_) (fun hb=>?_)
   . have ay:(cC v.order x.orders.length|| !mC r.visits k)=true:=a4▸hb
     have e:fG x r A k=A:=by unfold fG;rw[ev,if_pos ay]
     simp only[go_sem,h3,h4,h6,F,O,J,I,U,aT (show k<=4611686018427387904 by omega)];exact⟨⟨k+1,_,ap,rfl,X,by rw[hs,e];exact E,Rm,a7⟩,by simp only[aE];omega⟩
   have ay:(cC v.order x.orders.length|| !mC r.visits k)=false:=a4▸hb;have bc:cC v.order x.orders.length=false:=(Xaf.1 ay).1;have be:0<=v.order/\v.order<(x.orders.length:Int):=by
     simp only[cC,Xaf,decide_eq_false_iff_not]at bc;omega
   obtain⟨o,ho⟩:=aN (show v.order.toNat<x.orders.length by omega);have e:fG x r A k=xI o r.type (zP o r.type A):=by
     unfold fG;rw[ev,if_neg (by rw[ay];simp),ho]
   rw[e]at hs;simp only[go_sem,h3,h4,h6,F,O,J,I,U,au,aC ho,be];refine aL fun aj ao=>?_
   have ag:i6≠aj:=aP X ao;have V:aa≠aj:=aP E ao;have ai:jm≠aj:=aP Rm ao;simp only[go_sem,h3,h4,h6,F,O,J,I,U,X,E,Rm];refine aH (aA _ _ _) (by simp[sM]) ?_;generalize af:aI (aI _ aj _) aj _=HGi14;replace X:=kpR af ag ag X;replace E:=kpR af V V E;replace Rm:=kpR af ai ai Rm;have ad:HGi14 aj=some (mI o):=by rw[<-af,aA];try rfl
   clear af ao;simp only[go_sem,h3,h4,h6,F,O,J,I,U,ad,X,E,Rm];refine PC.use (Jd o.now r.type) ?_;simp only[go_sem,h3,h4,h6,F,O,J,I,U];refine bK (fun am H'=>am 3=.rp (aD x) 0/\am 4=.rp (bT r) 0/\am 6=.op i6 0 0/\am 10=.op aa 0 0/\am 11=.om jm/\am 14=.op aj 0 0/\am 59=.sl (r.visits.map aJ)/\am 60=int r.visits.length/\am 61=int k/\H' i6=some (mG cH)/\H' aj=some (mI o)/\H' jm=some (Ac (E5 m v.order (yJ m v.order+1)))/\H' aa=some (mG (zP o r.type A))) ?_ fun K hK=>aB (fun hb=>?_) (fun hb=>?_)
   rotate_left
   . simp only[go_sem,h3,h4,h6,F,O,J,I,U,E]
     refine dM so3 E ⟨by simp,rfl,by simp⟩ ?_;generalize hP:aI _ aa _=HP;replace X:=(congrFun hP.symm i6).trans ((aF _ _ _ _ (by first|exact Y|exact ne_i10_i6.symm)).trans X);replace ad:=(congrFun hP.symm aj).trans ((aF _ _ _ _ (by first|exact ne_i14_i10|exact V.symm)).trans ad);replace Rm:=(congrFun hP.symm jm).trans ((aF _ _ _ _ (by first|exact ne_jm_i10|exact Z.symm)).trans Rm);replace E:HP aa=some (mG (zP o r.type A)):=by rw[<-hP,aA];(rw[zP,if_pos (show G5 o r.type=true from hb)];rfl)
     clear hP;simp only[go_sem,h3,h4,h6,F,O,J,I,U,E,X,ad,Rm];exact hK _ _ ⟨by simp only[go_sem,h3],by simp only[go_sem,h4],by simp only[go_sem,h6],by simp only[go_sem,F],by simp only[go_sem,O],by simp only[go_sem],by simp only[go_sem,J],by simp only[go_sem,I],by simp only[go_sem,U],X,ad,Rm,E⟩
   . simp only[go_sem]
     refine hK _ _ ⟨by simp only[go_sem,h3],by simp only[go_sem,h4],by simp only[go_sem,h6],by simp only[go_sem,F],by simp only[go_sem,O],by simp only[go_sem],by simp only[go_sem,J],by simp only[go_sem,I],by simp only[go_sem,U],X,ad,Rm,?_⟩;rw[zP,if_neg (by rw[show G5 o r.type=false from hb];simp)];exact E
   clear X E Rm ad h3 h4 h6 F O J I U;rintro ρ H ⟨h3,h4,h6,F,O,aw,J,I,U,X,ad,Rm,E⟩;simp only[go_sem,h3,h4,h6,F,O,aw,J,I,U,ad];refine PC.use (Jd o.last r.type) ?_;simp only[go_sem,h3,h4,h6,F,O,aw,J,I,U];refine aB (fun hb=>?_) (fun hb=>?_)
   . simp only[go_sem,h3,h4,h6,F,O,aw,J,I,U,E]
     refine dM so3 E ⟨by simp,rfl,by simp⟩ ?_;generalize hP:aI _ aa _=HP;replace X:=(congrFun hP.symm i6).trans ((aF _ _ _ _ (by first|exact Y|exact ne_i10_i6.symm)).trans X);replace ad:=(congrFun hP.symm aj).trans ((aF _ _ _ _ (by first|exact ne_i14_i10|exact V.symm)).trans ad);replace Rm:=(congrFun hP.symm jm).trans ((aF _ _ _ _ (by first|exact ne_jm_i10|exact Z.symm)).trans Rm);replace E:HP aa=some (mG (xI o r.type (zP o r.type A))):=by rw[<-hP,aA];(rw[xI,if_pos (show Hi o r.type=true from hb)];rfl)
     clear hP;simp only[go_sem,h3,h4,h6,F,O,aw,J,I,U,aT (show k<=4611686018427387904 by omega),E,X,ad,Rm];exact⟨⟨k+1,E5 m v.order (yJ m v.order+1),ap,rfl,by rw[hs],rfl,a7⟩,by simp only[aE];omega⟩
   . simp only[go_sem,h3,h4,h6,F,O,aw,J,I,U,aT (show k<=4611686018427387904 by omega)]
     exact⟨⟨k+1,_,ap,rfl,X,by rw[hs,xI,if_neg (by rw[show Hi o r.type=false from hb];simp)];exact E,Rm,a7⟩,by simp only[aE];omega⟩
 . have a6:=aR hk a6
   subst a6;rw[Xap (by simp)]at E;simp only[go_sem,h6,F,E];refine aH X (by simp[jX]) ?_;simp only[go_sem,h6];exact .refl _
def B1(x:Instance)(r:Route)(v:Visit):Bool:=match x.types[r.type.toNat]?,x.orders[v.order.toNat]? with
 | some t,some o=>uW t.skills o.skills
 | _,_=>false
def Bw(x:Instance)(r:Route):Int:=if(r.visits.any fun v=> !B1 x r v)=true then 18 else 0
theorem aeS(x:Instance)(r:Route)(hr:r.visits.length<=1048576)(ab:0<=r.type/\r.type<(x.types.length:Int))(ac:∀v∈r.visits,0<=v.order/\v.order<(x.orders.length:Int)):
   PC prog 273 [.agg (aD x),.agg (bT r)] (int (Bw x r)):=by
 obtain⟨t,ht⟩:=aN (show r.type.toNat<x.types.length by omega);refine pcd Tryz.func273 ?_;unfold Tryz.f273;simp only[gdS];simp only[go_sem];refine⟨fun ρ _=>∃k:Nat,k<=r.visits.length/\ρ 2=.rp (aD x) 0/\ρ 3=.rp (bT r) 0/\ρ 8=.sl (r.visits.map aJ)/\ρ 9=int r.visits.length/\ρ 10=int k/\∀v∈r.visits.take k,(!B1 x r v)=false,fun ρ _=>r.visits.length-aV (ρ 10),⟨0,Xab _,rfl,rfl,rfl,by simp only[go_sem,Xaa],rfl,by simp⟩,?_⟩;rintro ρ H ⟨k,hk,U,O,V,J,E,hz⟩;simp only[go_sem,U,O,V,J,E];refine aB (fun F=>?_) (fun X=>?_)
 . have F:=aQ F
   obtain⟨v,hv⟩:=aN F;have b1:=inB F;have aa:=ac v (Xac hv);obtain⟨o,ho⟩:=aN (show v.order.toNat<x.orders.length by omega);have es:B1 x r v=uW t.skills o.skills:=by unfold B1;rw[ht,ho]
   simp only[go_sem,U,O,V,J,E,aC hv,b1];refine aL fun Y Z=>?_
   simp only[go_sem,U,O,V,J,E];refine aH (aA _ _ _) (by simp[cX]) ?_;generalize I:aI (aI _ Y _) Y _=HGi6;have R6:HGi6 Y=some (⟨119,2,[aJ v]⟩):=by rw[<-I,aA];try rfl
   clear I Z;simp only[go_sem,U,O,V,J,E,R6];refine gB [Y] [(0,true),(1,true),(2,true),(3,true),(4,true),(5,true),(6,true),(7,true),(8,true),(9,true),(10,true),(11,true),(12,true),(13,true),(14,true)] (by simp[R6]) (by kernel_rfl) fun Hp Hr hp ae _ ad=>?_
   have P6:=(hp Y (by simp)).trans R6;simp only[go_sem,U,O,V,J,E,P6,aC ht,ab,aC ho,aa];refine⟨_,(apB t o.skills).q rfl,?_⟩;simp only[go_sem,U,O,V,J,E];refine iO fun _ Hm _ _=>?_
   simp only[go_sem,U,O,V,J,E];refine aB (fun hb=>?_) (fun hb=>?_)
   . simp only[go_sem]
     exact bJ (by unfold Bw;rw[if_pos (Xan.2 ⟨v,Xac hv,by rw[es];exact hb⟩)])
   . simp only[go_sem,U,O,V,J,E,aT (show k<=4611686018427387904 by omega)]
     exact⟨⟨k+1,F,rfl,aM (p:=fun v=>(!B1 x r v)=false) hv (by rw[es];exact hb) hz⟩,by simp only[aE];omega⟩
 . have X:=aR hk X
   subst X;rw[Xag]at hz;simp only[go_sem];exact bJ (by unfold Bw;rw[if_neg (by rw[pF hz];simp)])
def jJ(x:Instance)(r:Route):Sheet×Score×Int:=
 if cC r.type x.types.length=true then(aS,cH,2)
 else if(pU x r.visits != 0)=true then(aS,cH,pU x r.visits)
 else if(Bw x r != 0)=true then(aS,cH,Bw x r)
 else if(wL x r != 0)=true then(aS,cH,wL x r)
 else if((jH x r).2 != 0)=true then(aS,cH,(jH x r).2)
 else((jH x r).1,lG x r (jH x r).1,0)
structure EvalB(x:Instance):Prop where
 net:NetOk x.net
 load:LoadB x
 apart:x.apart.length<=1048576
 before:x.before.length<=1048576
abbrev fnsL:List (List AV):=[[.v (.func (.func 272) #[] #[])],[.v (.func (.func 273) #[] #[])],[.v (.func (.func 274) #[] #[])]]
theorem QE(x:Instance)(r:Route)(hx:EvalB x)(hr:r.visits.length<=1048575):PC prog 240 [.agg (aD x),.agg (bT r)] (.tup [.agg (bP (jJ x r).1),.agg (cD (jJ x r).2.1),int (jJ x r).2.2]):=by
 refine pcd Tryz.func240 ?_;unfold Tryz.f240;simp only[gdS];simp only[go_sem];refine aL fun i4 am=>?_
 generalize ae:aI _ i4 _=HGi4;have I:HGi4 i4=some (cP (bP aS)):=by rw[<-ae,aA];try rfl
 clear ae am;simp only[go_sem,I];refine aL fun i5 af=>?_
 have E:i4≠i5:=aP I af;generalize ad:aI _ i5 _=HGi5;replace I:=(congrFun ad.symm i4).trans ((aF _ _ _ _ E).trans I);have J:HGi5 i5=some (mG cH):=by rw[<-ad,aA];try rfl
 clear ad af;simp only[go_sem,J,I];refine aB (fun h1=>?_) (fun h1=>?_)
 . have h1:cC r.type x.types.length=true:=h1
   simp only[go_sem];refine aH I (by simp) ?_;generalize F:aI _ i4 _=HP;replace J:=(congrFun F.symm i5).trans ((aF _ _ _ _ (by first|exact ne_i5_i4|exact E.symm)).trans J);replace I:HP i4=some (cP (bP aS)):=by rw[<-F,aA];rfl
   clear F;simp only[go_sem,I,J];refine aH J (by simp) ?_;generalize F:aI _ i5 _=HP;replace I:=(congrFun F.symm i4).trans ((aF _ _ _ _ (by first|exact E|exact ne_i5_i4.symm)).trans I);replace J:HP i5=some (mG cH):=by rw[<-F,aA];rfl
   clear F;simp only[go_sem,J,I];have e:jJ x r=(aS,cH,2):=by unfold jJ;rw[if_pos h1]
   rw[e];exact .refl _
 have c1:¬cC r.type x.types.length=true:=by rw[show cC r.type x.types.length=false from h1];simp
 have an:0<=r.type/\r.type<(x.types.length:Int):=by
   have h1:cC r.type x.types.length=false:=h1;simp only[cC,Xaf,decide_eq_false_iff_not]at h1;omega
 simp only[go_sem];refine⟨fun ρ H=>∃(k:Nat),k<=3/\ρ 2=.rp (aD x) 0/\ρ 3=.rp (bT r) 0/\ρ 4=.op i4 0 0/\ρ 5=.op i5 0 0/\ρ 25=.sl fnsL/\ρ 26=int 3/\ρ 27=int k/\H i4=some (cP (bP aS))/\H i5=some (mG cH)/\(0<k->pU x r.visits=0)/\(1<k->Bw x r=0)/\(2<k->wL x r=0),fun ρ _=>3-aV (ρ 27),
   ⟨0,Xab _,by simp only[go_sem],by simp only[go_sem],by simp only[go_sem],by simp only[go_sem],by simp only[go_sem],by simp only[go_sem];rfl,by simp only[go_sem];rfl,I,J,fun h=>absurd h (by decide),fun h=>absurd h (by decide),fun h=>absurd h (by decide)⟩,?_⟩
 clear I J;rintro ρ H ⟨k,hk,h2,h3,h4,Z,O,U,Y,I,J,q1,q2,q3⟩;simp only[go_sem,h2,h3,h4,Z,O,U,Y];refine aB (fun aj=>?_) (fun ah=>?_)
 . have aj:k<3:=by simp at aj;omega
   have hc:k=0\/k=1\/k=2:=by omega
   rcases hc with rfl|rfl|rfl
   . simp only[go_sem,h2,h3,h4,Z,O,U,Y]
     refine⟨by decide,PC.use (GC x r (by omega) hx.apart hx.before) ?_⟩;simp only[go_sem,h2,h3,h4,Z,O,U,Y];refine aB (fun hb=>?_) (fun hb=>?_)
     . have e:jJ x r=(aS,cH,pU x r.visits):=by unfold jJ;rw[if_neg c1,if_pos hb]
       simp only[go_sem,h2,h3,h4,Z,O,U,Y];refine aH I (by simp) ?_;generalize F:aI _ i4 _=HP;replace J:=(congrFun F.symm i5).trans ((aF _ _ _ _ (by first|exact ne_i5_i4|exact E.symm)).trans J);replace I:HP i4=some (cP (bP aS)):=by rw[<-F,aA];rfl
       clear F;simp only[go_sem,h2,h3,h4,Z,O,U,Y,I,J];refine aH J (by simp) ?_;generalize F:aI _ i5 _=HP;replace I:=(congrFun F.symm i4).trans ((aF _ _ _ _ (by first|exact E|exact ne_i5_i4.symm)).trans I);replace J:HP i5=some (mG cH):=by rw[<-F,aA];rfl
       clear F;simp only[go_sem,h2,h3,h4,Z,O,U,Y,J,I];rw[e];exact .refl _
     . simp only[go_sem,h2,h3,h4,Z,O,U,Y]
       exact⟨⟨1,by decide,rfl,I,J,fun _=>by simpa using hb,fun h=>absurd h (by decide),fun h=>absurd h (by decide)⟩,by simp only[aE];decide⟩
   . simp only[go_sem,h2,h3,h4,Z,O,U,Y]
     refine⟨by decide,PC.use (aeS x r (by omega) an (Zd (q1 (by decide)))) ?_⟩;simp only[go_sem,h2,h3,h4,Z,O,U,Y];refine aB (fun hb=>?_) (fun hb=>?_)
     . have e:jJ x r=(aS,cH,Bw x r):=by unfold jJ;rw[if_neg c1,q1 (by decide),if_neg (by decide),if_pos hb]
       simp only[go_sem,h2,h3,h4,Z,O,U,Y];refine aH I (by simp) ?_;generalize F:aI _ i4 _=HP;replace J:=(congrFun F.symm i5).trans ((aF _ _ _ _ (by first|exact ne_i5_i4|exact E.symm)).trans J);replace I:HP i4=some (cP (bP aS)):=by rw[<-F,aA];rfl
       clear F;simp only[go_sem,h2,h3,h4,Z,O,U,Y,I,J];refine aH J (by simp) ?_;generalize F:aI _ i5 _=HP;replace I:=(congrFun F.symm i4).trans ((aF _ _ _ _ (by first|exact E|exact ne_i5_i4.symm)).trans I);replace J:HP i5=some (mG cH):=by rw[<-F,aA];rfl
       clear F;simp only[go_sem,h2,h3,h4,Z,O,U,Y,J,I];rw[e];exact .refl _
     . simp only[go_sem,h2,h3,h4,Z,O,U,Y]
       exact⟨⟨2,by decide,rfl,I,J,fun _=>q1 (by decide),fun _=>by simpa using hb,fun h=>absurd h (by decide)⟩,by simp only[aE];decide⟩
   . simp only[go_sem,h2,h3,h4,Z,O,U,Y]
     refine⟨by decide,PC.use (akZ x r hx.load hr hx.apart hx.before) ?_⟩;simp only[go_sem,h2,h3,h4,Z,O,U,Y];refine aB (fun hb=>?_) (fun hb=>?_)
     . have e:jJ x r=(aS,cH,wL x r):=by unfold jJ;rw[if_neg c1,q1 (by decide),if_neg (by decide),q2 (by decide),if_neg (by decide),if_pos hb]
       simp only[go_sem,h2,h3,h4,Z,O,U,Y];refine aH I (by simp) ?_;generalize F:aI _ i4 _=HP;replace J:=(congrFun F.symm i5).trans ((aF _ _ _ _ (by first|exact ne_i5_i4|exact E.symm)).trans J);replace I:HP i4=some (cP (bP aS)):=by rw[<-F,aA];rfl
       clear F;simp only[go_sem,h2,h3,h4,Z,O,U,Y,I,J];refine aH J (by simp) ?_;generalize F:aI _ i5 _=HP;replace I:=(congrFun F.symm i4).trans ((aF _ _ _ _ (by first|exact E|exact ne_i5_i4.symm)).trans I);replace J:HP i5=some (mG cH):=by rw[<-F,aA];rfl
       clear F;simp only[go_sem,h2,h3,h4,Z,O,U,Y,J,I];rw[e];exact .refl _
     . simp only[go_sem,h2,h3,h4,Z,O,U,Y]
       exact⟨⟨3,by decide,rfl,I,J,fun _=>q1 (by decide),fun _=>q2 (by decide),fun _=>by simpa using hb⟩,by simp only[aE];decide⟩
 have ah:k=3:=by simp at ah;omega
 subst ah;have e1:=q1 (by decide);have e2:=q2 (by decide);have e3:=q3 (by decide);have eE:jJ x r=if((jH x r).2 != 0)=true then(aS,cH,(jH x r).2)else((jH x r).1,lG x r (jH x r).1,0):=by
   unfold jJ;rw[if_neg c1,e1,e2,e3];rfl
 rw[eE];simp only[go_sem,h2,h3,h4,Z];refine PC.use (anS x r hx.net (by omega)) ?_;simp only[go_sem,h2,h3,h4,Z];refine aL fun ab ac=>?_
 have X:i4≠ab:=aP I ac;have V:i5≠ab:=aP J ac;simp only[go_sem,h2,h3,h4,Z,I,J];refine aH (aA _ _ _) (by simp[hY]) ?_;generalize aa:aI (aI _ ab _) ab _=HGi10;replace I:=kpR aa X X I;replace J:=kpR aa V V J;have ag:HGi10 ab=some (cP (bP (jH x r).1)):=by rw[<-aa,aA];try rfl
 clear aa ac;simp only[go_sem,h2,h3,h4,Z,ag,I,J];refine aB (fun hb=>?_) (fun hb=>?_)
 . rw[if_pos hb]
   simp only[go_sem,h2,h3,h4,Z];refine aH I (by simp) ?_;generalize F:aI _ i4 _=HP;replace J:=(congrFun F.symm i5).trans ((aF _ _ _ _ (by first|exact ne_i5_i4|exact E.symm)).trans J);replace I:HP i4=some (cP (bP aS)):=by rw[<-F,aA];rfl
   clear F;simp only[go_sem,h2,h3,h4,Z,I,J];refine aH J (by simp) ?_;generalize F:aI _ i5 _=HP;replace I:=(congrFun F.symm i4).trans ((aF _ _ _ _ (by first|exact E|exact ne_i5_i4.symm)).trans I);replace J:HP i5=some (mG cH):=by rw[<-F,aA];rfl
   clear F;simp only[go_sem,h2,h3,h4,Z,J,I];exact .refl _
 . rw[if_neg (by rw[hb];simp)]
   simp only[go_sem,h2,h3,h4,Z];refine gB [ab] [(0,true),(1,true),(2,true),(3,true),(4,true),(5,false),(6,false),(7,false)] (by simp[ag]) (by kernel_rfl) fun Hp Hr hp al _ ao=>?_
   have ai:=(hp ab (by simp)).trans ag;have P4:=(al i4 (by simp[X])).trans I;have P5:=(al i5 (by simp[V])).trans J;simp only[go_sem,h2,h3,h4,Z,ai];refine⟨_,(aiS x r (jH x r).1 (by omega)).q rfl,?_⟩;simp only[go_sem,h2,h3,h4,Z,ai];refine aH P4 (by simp[hY]) ?_;generalize F:aI _ i4 _=HP;replace P5:=(congrFun F.symm i5).trans ((aF _ _ _ _ (by first|exact ne_i5_i4|exact E.symm)).trans P5);replace P4:HP i4=some (cP (bP (jH x r).1)):=by rw[<-F,aA];rfl
   clear F;simp only[go_sem,h2,h3,h4,Z,P4,P5];refine aH P5 (by simp[jX]) ?_;generalize F:aI _ i5 _=HP;replace P4:=(congrFun F.symm i4).trans ((aF _ _ _ _ (by first|exact E|exact ne_i5_i4.symm)).trans P4);replace P5:HP i5=some (mG (lG x r (jH x r).1)):=by rw[<-F,aA];rfl
   clear F;simp only[go_sem,h2,h3,h4,Z,P5,P4];refine iO fun _ Hm _ ak=>?_
   have M4:=(ak i4 (by simp[X])).trans P4;have M5:=(ak i5 (by simp[V])).trans P5;simp only[go_sem,h4,Z,M4,M5];exact .refl _
end Sq
namespace Sq
open Mv (bJ bR aM)
structure PlanS(x:Instance)(p:Plan):Prop where
 routes:p.routes.length<=19
 unserved:p.unserved.length<=19
 orders:x.orders.length<=19
 types:x.types.length<=19
 visits:∀r∈p.routes,r.visits.length<=1048575
structure PlanT(x:Instance)(p:Plan):Prop where
 routes:p.routes.length<=60
 unserved:p.unserved.length<=60
 orders:x.orders.length<=60
 types:x.types.length<=60
 visits:∀r∈p.routes,r.visits.length<=1048576
end Sq
end Go.Proofs.YtohmomanmikphaaGreatDoor
