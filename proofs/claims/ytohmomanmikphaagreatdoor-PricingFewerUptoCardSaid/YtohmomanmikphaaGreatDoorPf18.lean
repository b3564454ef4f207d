import Derived.Test.YtohmomanmikphaaGreatDoorPf14
set_option linter.unusedSimpArgs false
set_option linter.unusedVariables false
set_option maxRecDepth 100000
section
namespace Go.Proofs.YtohmomanmikphaaGreatDoor.Sq
open Go.Proofs.Tryz(prog)
open Go.Aw Go.Aw.D Go.Proofs Ty
open Mv (bW cN NC.pc aT)
def cJ(l:Lab):List AV:=[int l.ready,int l.since,boo l.sheet.rest,int l.sheet.depart,.sl (l.sheet.times.map qB),int l.sheet.end_,int l.sheet.miles]
theorem jC(l:Lab):(cJ l).length=7:=(rfl)
theorem Wl(l:Lab):(cJ l).getD 0 .any=int l.ready:=(rfl)
theorem UO(l:Lab):(cJ l).getD 1 .any=int l.since:=(rfl)
theorem VL(l:Lab):(cJ l).getD 4 .any=.sl (l.sheet.times.map qB):=(rfl)
theorem TX(l:Lab):(cJ l).getD 5 .any=int l.sheet.end_:=(rfl)
theorem V8(l:Lab):((cJ l).drop 2).take 5=cM l.sheet:=(rfl)
theorem MO(l:Lab):(cJ l).take 7=cJ l:=(rfl)
def cK(x:Instance)(t:VType)(r:Route)(st:List Stop):List AV:=aH x++(bB t++(cX r++[.sl (st.map dR)]))
section
variable(x:Instance)(t:VType)(r:Route)(st:List Stop)
theorem Cq:(cK x t r st).length=25:=(rfl)
theorem SV:(cK x t r st).getD 8 .any=int t.src:=(rfl)
theorem SF:(cK x t r st).getD 9 .any=int t.dst:=(rfl)
theorem Od:(cK x t r st).getD 12 .any=int t.profile:=(rfl)
theorem NY:(cK x t r st).getD 13 .any=int t.start:=(rfl)
theorem N5:(cK x t r st).getD 14 .any=int t.close:=(rfl)
theorem MQ:(cK x t r st).getD 15 .any=int t.drive:=(rfl)
theorem NQ:(cK x t r st).getD 16 .any=int t.rest:=(rfl)
theorem Pg:(cK x t r st).getD 21 .any=int r.start:=(rfl)
theorem OD:(cK x t r st).getD 22 .any=.sl (r.rests.map eG):=(rfl)
theorem Nr:(cK x t r st).getD 24 .any=.sl (st.map dR):=(rfl)
theorem KK:(cK x t r st).take 2=aU x.net:=(rfl)
theorem Jn:(cK x t r st).take 25=cK x t r st:=(rfl)
end
attribute [go_sem] jC Wl UO VL TX V8 MO Cq SV SF Od NY N5 MQ NQ Pg OD Nr KK Jn
def Ai:Lab:=⟨0,0,cA⟩
abbrev fC(cs:List AV):Row:=⟨332,7,[cs]⟩
def rV(t:VType)(st:List Stop)(k:Nat):Int:=match k with
 | 0=>t.src
 | j+1=>(st.getD j jH).place
theorem Ly(x:Instance)(t:VType)(r:Route)(st:List Stop):PC prog 319 [.agg (cK x t r st)] (.agg (cJ (FJ t r))):=by
 refine pcd Tryz.func319 ?_;unfold Tryz.f319;simp only[gdS];simp only[go_sem];refine aM fun I E=>?_
 generalize u:aI _ I _=HGi2;have F:HGi2 I=some (fC (cJ Ai)):=by rw[<-u,aA];try rfl
 clear u E;simp only[go_sem,F];refine aJ F (by simp) ?_;simp only[go_sem];exact .refl _
theorem UB(x:Instance)(t:VType)(r:Route)(st:List Stop)(k:Nat)(J:k<=st.length)(I:st.length<=1048576):PC prog 375 [.agg (cK x t r st),int k] (int (rV t st k)):=by
 refine pcd Tryz.func375 ?_;unfold Tryz.f375;simp only[gdS];simp only[go_sem];refine aB (fun u=>?_) (fun u=>?_)
 . have:k=0:=by simp at u;exact u
   subst this;simp only[go_sem];exact .refl _
 . obtain⟨j,rfl⟩:∃j,k=j+1:=⟨k-1,by simp at u;omega⟩
   obtain⟨s,E⟩:=aN (show j<st.length by omega);have w:IntKind.i64.wrap (((j+1:Nat):Int)-1)=(j:Int):=by rw[bA (by omega)];omega
   have F:=inB (show j<st.length by omega);simp only[go_sem,w,aE E,F];exact bW (by unfold rV;simp[List.getD,E])
theorem QR:∀l:List Tm,cP 4 (l.map qB)
 | []=>trivial
 | _::r=>⟨rfl,QR r⟩
theorem TY(l:List Tm)(O:l.length<=1048576):NC prog 374 [.sl (l.map qB)] (Cy l) .os:=by
 refine ncb (fun t=>t == 2||t == 5) Tryz.func374 ?_;unfold Tryz.f374;simp only[gdS];simp only[go_sem];refine aM fun j M=>?_
 have R:=aA bT j (some (Cy []));generalize aI bT j _=H at R |-;simp only[go_sem];refine⟨fun I=>?_,?_⟩
 . refine aB (fun _=>?_) (fun u=>by simp at u)
   simp only[go_sem];refine aM fun i J=>?_
   simp only[go_sem];refine⟨i,rfl,?_⟩;rw[aA,List.map_eq_nil_iff.1 I];rfl
 . refine aB (fun u=>by simp at u) (fun _=>?_)
   simp only[go_sem];refine aM fun i J=>?_
   simp only[go_sem];refine bE (aA _ _ _) ⟨rfl,rfl⟩ (QR _) (by simp only[Xaa,List.length_nil];omega) (fun E F=>?_);simp only[go_sem];refine⟨E,rfl,?_⟩;exact aA _ _ _
def kR(x:Instance)(t:VType)(st:List Stop)(k:Nat)(l:Lab)(b:Bool):Except Int Lab:=match st[k]? with
 | some s=>Ge x t (rV t st k) s k l b
 | none=>JB x t (rV t st k) k l b
def Vl(e:Except Int Lab):Lab:=match e with| .ok l=>l| .error _=>Ai
def pW:Instance:=⟨⟨[],[]⟩,[],[],[],[]⟩
def zH:VType:=⟨ByteArray.empty,0,0,0,[],0,0,0,0,0,0,0,0,0⟩
def zC:Route:=⟨0,0,[],[]⟩
abbrev uL(cs:List AV):Row:=⟨328,25,[cs]⟩
def jA(x:Instance)(l:List Visit):List Stop:=l.map fun v=>(iF x v).1
def yK(x:Instance)(r:Route):List AV×Bool:=if fN x r=true then match x.types[r.type.toNat]? with
 | some t=>(cK x t r (jA x r.visits),true)
 | none=>(cK pW zH zC [],false)
 else(cK pW zH zC [],false)
def CI(x:Instance)(t:VType)(r:Route)(j:Nat):List AV:=aH x++(bB t++(cX r++[.os j]))
theorem tk1{x:Instance}{l:List AV}:(aH x++l).take 6=aH x:=(rfl)
theorem dr1{x:Instance}{l:List AV}:(aH x++l).drop 20=l.drop 14:=(rfl)
theorem tk2{x:Instance}{t:VType}{l:List AV}:(aH x++bB t++l).take 20=aH x++bB t:=(rfl)
theorem dr2{x:Instance}{t:VType}{l:List AV}:(aH x++bB t++l).drop 24=l.drop 4:=(rfl)
abbrev AU(l:List Stop):Row:=⟨109,4,l.map dR⟩
theorem WQ(x:Instance)(t:VType)(r:Route)(j:Nat):(CI x t r j).getD 24 .any=.os j:=(rfl)
theorem TE(x:Instance)(t:VType)(r:Route)(j:Nat):(CI x t r j).take 25=CI x t r j:=(rfl)
theorem Tn(x:Instance)(t:VType)(r:Route)(j:Nat):(CI x t r j).length=25:=(rfl)
attribute [go_sem] WQ TE Tn
theorem xY{H:aG}{l l':List AV}(h:ConvL H l l'):∀p:List AV,ConvL H (p++l) (p++l')
 | []=>h
 | a::p=>.cons a a _ _ (.refl a) (xY h p)
theorem TG{H:aG}{x:Instance}{t:VType}{r:Route}{u:Nat}{st:List Stop}(R:H u=some (AU st)):ConvL H (CI x t r u) (cK x t r st):=
 xY (xY (xY (.cons _ _ _ _ (.row _ _ _ R (ConvE.refl _)) .nil) _) _) _
theorem Si{x:Instance}{v:Visit}(h:(iF x v).2=true):0<=(iF x v).1.place/\eM x v=((iF x v).1,0):=by
 refine⟨?_,by unfold eM;rw[if_pos h]⟩;unfold iF at h |-;split at h
 . cases h
 . rename_i u
   rw[if_neg u];split at h
   . rename_i o E
     simpa using h
   . cases h
theorem Pa{x:Instance}{v:Visit}(h:(iF x v).2=false):((eM x v).2 != 0)=true:=by
 unfold eM;rw[if_neg (by rw[h];simp)];show((if dG v.order x.orders.length=true then(2:Int)else 19) != 0)=true;split <;> rfl
theorem adU(x:Instance)(r:Route)(hl:r.visits.length<=1048576):PC prog 318 [.agg (aH x),.agg (cX r)] (.tup [.agg (yK x r).1,boo (yK x r).2]):=by
 refine pcb (fun t=>t == 47) Tryz.func318 ?_;unfold Tryz.f318;simp only[gdS];simp only[go_sem];refine aM fun i4 ax=>?_
 generalize aq:aI _ i4 _=HGi4;have u:HGi4 i4=some (uL (cK pW zH zC [])):=by rw[<-aq,aA];try rfl
 clear aq ax;simp only[go_sem,u];refine aB (fun h1=>?_) (fun h1=>?_)
 . have hp:fN x r=false:=by unfold fN;rw[show(dG r.type x.types.length||decide (r.start<0)||decide (r.start>4096)||decide ((r.visits.length:Int)>20))=true from h1];rfl
   have e:yK x r=(cK pW zH zC [],false):=by unfold yK;rw[if_neg (by rw[hp];simp)]
   rw[e];simp only[go_sem];refine aJ u (by simp) ?_;simp only[go_sem];exact .refl _
 have hp:fN x r=r.visits.all fun v=>(iF x v).2:=by unfold fN;rw[show(dG r.type x.types.length||decide (r.start<0)||decide (r.start>4096)||decide ((r.visits.length:Int)>20))=false from h1];rfl
 have ay:0<=r.type/\r.type<(x.types.length:Int):=by
   simp only[Xak,decide_eq_false_iff_not]at h1;omega
 have a6:r.visits.length<=20:=by
   simp only[Xak,decide_eq_false_iff_not]at h1;omega
 obtain⟨t,ht⟩:=aN (show r.type.toNat<x.types.length by omega);simp only[go_sem];refine AM [(0,true),(1,true),(2,true),(3,true),(4,true),(5,true),(6,true),(7,true),(8,true),(9,false),(10,false)] (by kernel_rfl) ?_;simp only[go_sem,aE ht,ay,Xab,tk1,dr1,tk2,dr2];refine aM fun i6 ar=>?_
 have E:i4≠i6:=aO u ar;generalize am:aI _ i6 _=HGi6;replace u:=(congrFun am.symm i4).trans ((aD _ _ _ _ E).trans u);have F:HGi6 i6=some (uL (cK pW zH zC [])):=by rw[<-am,aA];try rfl
 clear am ar;simp only[go_sem,F,u];refine SP 24 109 4 ⟨rfl,by decide⟩ F ⟨by simp,rfl,Xaf _⟩ fun js au=>?_
 have O:i6≠js:=aO F au;have ae:i4≠js:=aO u au;generalize hG:aI (aI HGi6 js _) i6 _=HG;replace u:=(congrFun hG.symm i4).trans ((aD _ _ _ _ E).trans ((aD _ _ _ _ ae).trans u));have Rs:HG js=some (AU []):=by rw[<-hG,aD _ _ _ _ O.symm,aA];rfl
 replace F:HG i6=some (uL (CI x t r js)):=by rw[<-hG,aA];rfl
 clear hG au;simp only[go_sem];refine⟨fun ρ H=>∃k:Nat,k<=r.visits.length/\ρ 2=.rp (aH x) 0/\ρ 4=.op i4 0 0/\ρ 6=.op i6 0 0/\ρ 49=.sl (r.visits.map aK)/\ρ 50=int r.visits.length/\ρ 51=int k/\H i4=some (uL (cK pW zH zC []))/\(∃js,H i6=some (uL (CI x t r js))/\H js=some (AU (jA x (r.visits.take k))))/\∀v∈r.visits.take k,(iF x v).2=true,fun ρ _=>r.visits.length-aV (ρ 51),⟨0,Xac _,by simp only[go_sem],by simp only[go_sem],by simp only[go_sem],by simp only[go_sem],by simp only[go_sem,Xaa],by simp only[go_sem];rfl,u,⟨js,F,Rs⟩,by simp⟩,?_⟩;clear u F Rs O ae js;rintro ρ H ⟨k,hk,h2,h4,h6,M,I,J,u,⟨js,F,Rs⟩,hz⟩;have ak:js≠i6:=Ua Rs F (by rfl);have T:js≠i4:=Ua Rs u (by rfl);simp only[go_sem,h2,h4,h6,M,I,J];refine aB (fun an=>?_) (fun av=>?_)
 . have an:=aZ an
   obtain⟨v,hv⟩:=aN an;have b1:=inB an;simp only[go_sem,h2,h4,h6,M,I,J,aE hv,b1];refine aM fun i8 aj=>?_
   have ab:i4≠i8:=aO u aj;have Z:i6≠i8:=aO F aj;have aa:js≠i8:=aO Rs aj;simp only[go_sem,h2,h4,h6,M,I,J,u,F,Rs];refine aJ (aA _ _ _) (by simp[cU]) ?_;generalize ag:aI (aI _ i8 _) i8 _=HGi8;replace u:=(congrFun ag.symm i4).trans ((aD _ _ _ _ ab).trans ((aD _ _ _ _ ab).trans u));replace F:=(congrFun ag.symm i6).trans ((aD _ _ _ _ Z).trans ((aD _ _ _ _ Z).trans F));replace Rs:=(congrFun ag.symm js).trans ((aD _ _ _ _ aa).trans ((aD _ _ _ _ aa).trans Rs));have R8:HGi8 i8=some (⟨119,2,[aK v]⟩):=by rw[<-ag,aA];try rfl
   clear ag aj;simp only[go_sem,h2,h4,h6,M,I,J,R8,u,F,Rs];refine PC.use (Qa x v) ?_;simp only[go_sem,h2,h4,h6,M,I,J];refine aM fun i9 ai=>?_
   have ad:i4≠i9:=aO u ai;have af:i6≠i9:=aO F ai;have ac:js≠i9:=aO Rs ai;simp only[go_sem,h2,h4,h6,M,I,J,u,F,Rs];refine aJ (aA _ _ _) (by simp[kF]) ?_;generalize ah:aI (aI _ i9 _) i9 _=HGi9;replace u:=(congrFun ah.symm i4).trans ((aD _ _ _ _ ad).trans ((aD _ _ _ _ ad).trans u));replace F:=(congrFun ah.symm i6).trans ((aD _ _ _ _ af).trans ((aD _ _ _ _ af).trans F));replace Rs:=(congrFun ah.symm js).trans ((aD _ _ _ _ ac).trans ((aD _ _ _ _ ac).trans Rs));have R9:HGi9 i9=some (xW (eM x v).1):=by rw[<-ah,aA];try rfl
   clear ah ai;simp only[go_sem,h2,h4,h6,M,I,J,R9,u,F,Rs];cases ap:(iF x v).2 with
   | false=>
     have a4:=Pa ap;refine aB (fun _=>?_) (fun hb=>by rw[a4]at hb;simp at hb);simp only[go_sem,h4];refine aJ u (by simp) ?_;simp only[go_sem,h4];have e:yK x r=(cK pW zH zC [],false):=by unfold yK;rw[if_neg (by rw[hp,qU hv ap];simp)]
     rw[e];exact .refl _
   | true=>
     obtain⟨a5,az⟩:=Si ap;rw[az]at R9 |-;refine aB (fun hb=>by simp at hb;omega) (fun _=>?_);simp only[go_sem,h2,h4,h6,M,I,J,F,R9];refine bE Rs ⟨rfl,rfl⟩ ⟨rfl,trivial⟩ (by simp[jA];omega) (fun j' ao=>?_);have al:i6≠j':=aO F ao;have aw:i4≠j':=aO u ao;replace u:=cV (r':=⟨109,4,List.map dR (jA x (r.visits.take k))++[dR (iF x v).1]⟩) u T ao;replace F:=cV (r':=⟨109,4,List.map dR (jA x (r.visits.take k))++[dR (iF x v).1]⟩) F ak ao;have a0:aI (aI HGi9 js none) j' (some (⟨109,4,List.map dR (jA x (r.visits.take k))++[dR (iF x v).1]⟩:Row)) j'=some (AU (jA x (r.visits.take (k+1)))):=by
       rw[bQ hv];unfold jA;rw[Xam];exact oA (l':=[(iF x v).1]) rfl
     simp only[go_sem,h2,h4,h6,M,I,J];refine eF abI F ⟨by simp,rfl,by simp⟩ ?_;simp only[go_sem,h2,h4,h6,M,I,J,aP (show k<=4611686018427387904 by omega)];exact⟨⟨k+1,an,rfl,(aD _ _ _ _ E).trans u,⟨j',rfl,(aD _ _ _ _ al.symm).trans a0⟩,aT (p:=fun v=>(iF x v).2=true) hv ap hz⟩,by simp only[aF];omega⟩
 . have av:=bC hk av
   subst av;rw[Xag]at hz Rs;simp only[go_sem,h4,h6,F];refine aJ u ⟨by simp,rfl,Xaf _⟩ ?_;simp only[go_sem,h4];have e:yK x r=(cK x t r (jA x r.visits),true):=by unfold yK;rw[if_pos (by rw[hp];exact Xao.2 hz),ht]
   rw[e];exact .tup [.agg (CI x t r js),boo true] _ (.cons _ _ _ _ (.agg _ _ (TG ((aD _ _ _ _ T).trans Rs))) (ConvL.refl _))
def gT(rdy sin:Int)(sd:Sheet)(j:Nat):List AV:=[int rdy,int sin,boo sd.rest,int sd.depart,.os j,int sd.end_,int sd.miles]
theorem MR(a b s j):(gT a b s j).length=7:=(rfl)
theorem UA(a b s j):(gT a b s j).getD 0 .any=int a:=(rfl)
theorem Wn(a b s j):(gT a b s j).getD 1 .any=int b:=(rfl)
theorem UQ(a b s j):(gT a b s j).getD 4 .any=.os j:=(rfl)
theorem VH(a b s j):(gT a b s j).getD 6 .any=int s.miles:=(rfl)
theorem OT(a b s j):(gT a b s j).take 7=gT a b s j:=(rfl)
attribute [go_sem] MR UA Wn UQ VH OT
theorem Mq{H:aG}{j:Nat}{l:Lab}(R:H j=some (Cy l.sheet.times)):ConvL H (gT l.ready l.since l.sheet j) (cJ l):=
 .cons _ _ _ _ (.refl _) (.cons _ _ _ _ (.refl _) (.cons _ _ _ _ (.refl _) (.cons _ _ _ _ (.refl _) (.cons _ _ _ _ (.row _ _ _ R (ConvE.refl _)) (ConvL.refl _)))))
theorem XV{l:List Tm}{j:Nat}{u:Tm}(h:l[j]?=some u)(b:Bool):(l.map qB).set j (mX ((l.map qB).getD j []) 3 [boo b])=(l.set j ⟨u.arrive,u.begin_,u.depart,b⟩).map qB:=by
 rw[aE h,List.map_set];rfl
theorem acS{l:List Tm}{j:Nat}{u:Tm}(h:l[j]?=some u)(d:Int):(l.map qB).set j (mX ((l.map qB).getD j []) 2 [int d])=(l.set j ⟨u.arrive,u.begin_,d,u.rest⟩).map qB:=by
 rw[aE h,List.map_set];rfl
theorem TS(x:Instance)(t:VType)(r:Route)(st:List Stop)(l:Lab)(k:Nat)(b:Bool)(hn:NetOk x.net)(aq:st.length<=1048576)(hk:k<=st.length)(hl:l.sheet.times.length=k):
   PC prog 355 [.agg (cK x t r st),.agg (cJ l),int k,boo b] (.tup [.agg (cJ (Vl (kR x t st k l b))),int (Ld (kR x t st k l b))]):=by
 refine pcd Tryz.func355 ?_;unfold Tryz.f355;simp only[gdS];simp only[go_sem];refine aM fun i8 am=>?_
 generalize ak:aI _ i8 _=HGi8;have T:HGi8 i8=some (fC (cJ Ai)):=by rw[<-ak,aA];try rfl
 clear ak am;simp only[go_sem,T];refine dA (by rfl) (by kernel_rfl) ?_;simp only[go_sem];refine bM (fun ac H'=>ac 2=int k/\ac 3=boo b/\ac 4=.rp (cK x t r st) 0/\ac 5=.rp (cJ l) 0/\ac 8=.op i8 0 0/\ac 10=int (A4 t l b)/\ac 11=int (BV l b)/\H' i8=some (fC (cJ Ai))) ?_ fun K hK=>aB (fun hb=>?_) (fun hb=>?_)
 rotate_left
 . simp only[go_sem]
   exact hK _ _ ⟨by simp only[go_sem],by simp only[go_sem],by simp only[go_sem],by simp only[go_sem],by simp only[go_sem],by simp only[go_sem];unfold A4;rw[if_pos hb];rfl,by simp only[go_sem];unfold BV;rw[if_pos hb],T⟩
 . simp only[go_sem]
   exact hK _ _ ⟨by simp only[go_sem],by simp only[go_sem],by simp only[go_sem],by simp only[go_sem],by simp only[go_sem],by simp only[go_sem];unfold A4;rw[if_neg (by rw[hb];simp)],by simp only[go_sem];unfold BV;rw[if_neg (by rw[hb];simp)],T⟩
 clear T;rintro ρ H ⟨h2,h3,h4,h5,Z,I,J,T⟩;simp only[go_sem,h2,h3,h4,h5,Z,I,J];refine aM fun O ah=>?_
 have F:i8≠O:=aO T ah;simp only[go_sem,h2,h3,h4,h5,Z,I,J,T];refine aJ (aA _ _ _) (by simp[gW]) ?_;generalize ag:aI (aI _ O _) O _=HGi12;replace T:=(congrFun ag.symm i8).trans ((aD _ _ _ _ F).trans ((aD _ _ _ _ F).trans T));have E:HGi12 O=some (fC ([int 0,int 0]++cM l.sheet)):=by rw[<-ag,aA];try rfl
 clear ag ah;simp only[go_sem,h2,h3,h4,h5,Z,I,J,E,T];refine NC.use (TY l.sheet.times (by omega)) fun jt al=>?_
 have ab:i8≠jt:=aO T al;have u:O≠jt:=aO E al;generalize hG:aI HGi12 jt _=HG;replace T:=(congrFun hG.symm i8).trans ((aD _ _ _ _ ab).trans T);replace E:=(congrFun hG.symm O).trans ((aD _ _ _ _ u).trans E);have Rt:HG jt=some (Cy l.sheet.times):=by rw[<-hG,aA]
 clear hG al;simp only[go_sem,h2,h3,h4,h5,Z,I,J,E];refine eF UR E ⟨by simp,rfl,by simp⟩ ?_;generalize M:aI _ O _=HP;replace T:=(congrFun M.symm i8).trans ((aD _ _ _ _ (by first|exact F|exact ne_i12_i8.symm)).trans T);replace Rt:=(congrFun M.symm jt).trans ((aD _ _ _ _ (by first|exact ne_jt_i12|exact u.symm)).trans Rt);replace E:HP O=some (fC (gT 0 0 l.sheet jt)):=by rw[<-M,aA];rfl
 clear M;simp only[go_sem,h2,h3,h4,h5,Z,I,J,E,T,Rt];refine bM (fun ac H'=>ac 2=int k/\ac 4=.rp (cK x t r st) 0/\ac 8=.op i8 0 0/\ac 10=int (A4 t l b)/\ac 11=int (BV l b)/\ac 12=.op O 0 0/\H' i8=some (fC (cJ Ai))/\H' O=some (fC (gT 0 0 (dY l.sheet k b (A4 t l b)) jt))/\H' jt=some (Cy (dY l.sheet k b (A4 t l b)).times)) ?_ fun K hK=>aB (fun hb=>?_) (fun hb=>?_)
 rotate_left
 . have h0:k=0:=by simp at hb;exact hb
   subst h0;simp only[go_sem,h2,h3,h4,h5,Z,I,J,E];refine eF so4 E ⟨by simp,rfl,by simp⟩ ?_;generalize M:aI _ O _=HP;replace T:=(congrFun M.symm i8).trans ((aD _ _ _ _ (by first|exact F|exact ne_i12_i8.symm)).trans T);replace Rt:=(congrFun M.symm jt).trans ((aD _ _ _ _ (by first|exact ne_jt_i12|exact u.symm)).trans Rt);replace E:HP O=some (fC (gT 0 0 { l.sheet with rest:=b } jt)):=by rw[<-M,aA];rfl
   clear M;simp only[go_sem,h2,h3,h4,h5,Z,I,J,E,T,Rt];refine eF so3 E ⟨by simp,rfl,by simp⟩ ?_;generalize M:aI _ O _=HP;replace T:=(congrFun M.symm i8).trans ((aD _ _ _ _ (by first|exact F|exact ne_i12_i8.symm)).trans T);replace Rt:=(congrFun M.symm jt).trans ((aD _ _ _ _ (by first|exact ne_jt_i12|exact u.symm)).trans Rt);replace E:HP O=some (fC (gT 0 0 { l.sheet with rest:=b,depart:=A4 t l b } jt)):=by rw[<-M,aA];rfl
   clear M;simp only[go_sem,h2,h3,h4,h5,Z,I,J,E,T,Rt];exact hK _ _ ⟨by simp only[go_sem,h2],by simp only[go_sem,h4],by simp only[go_sem,Z],by simp only[go_sem,I],by simp only[go_sem,J],by simp only[go_sem],T,E,Rt⟩
 . obtain⟨j,rfl⟩:∃j,k=j+1:=⟨k-1,by simp at hb;omega⟩
   have w:IntKind.i64.wrap (((j+1:Nat):Int)-1)=(j:Int):=by rw[bA (by omega)];omega
   obtain⟨tm,an⟩:=aN (show j<l.sheet.times.length by omega);have b1:=inB (show j<l.sheet.times.length by omega);have eg:l.sheet.times.getD j Nk=tm:=by simp[List.getD,an]
   simp only[go_sem,h2,h3,h4,h5,Z,I,J,E,Rt,w];refine⟨⟨b1.1,b1.2⟩,eF so4 Rt ⟨by simpa using b1.2,rfl,by simp⟩ ?_⟩;generalize M:aI _ jt _=HP;replace T:=(congrFun M.symm i8).trans ((aD _ _ _ _ (by first|exact ab|exact ne_jt_i8.symm)).trans T);replace E:=(congrFun M.symm O).trans ((aD _ _ _ _ (by first|exact u|exact ne_jt_i12.symm)).trans E);replace Rt:HP jt=some (Cy (l.sheet.times.set j ⟨tm.arrive,tm.begin_,tm.depart,b⟩)):=by rw[<-M,aA];exact congrArg (fun es=>some (⟨380,4,es⟩:Row)) (XV an b)
   clear M;simp only[go_sem,h2,h3,h4,h5,Z,I,J,w,Rt,T,E];have ap:(l.sheet.times.set j ⟨tm.arrive,tm.begin_,tm.depart,b⟩)[j]?=some ⟨tm.arrive,tm.begin_,tm.depart,b⟩:=by rw[List.getElem?_set_self (by omega)]
   refine⟨⟨b1.1,by rw[Xbd];exact b1.2⟩,eF so3 Rt ⟨by simpa using b1.2,rfl,by simp⟩ ?_⟩;generalize M:aI _ jt _=HP;replace T:=(congrFun M.symm i8).trans ((aD _ _ _ _ (by first|exact ab|exact ne_jt_i8.symm)).trans T);replace E:=(congrFun M.symm O).trans ((aD _ _ _ _ (by first|exact u|exact ne_jt_i12.symm)).trans E);replace Rt:HP jt=some (Cy ((l.sheet.times.set j ⟨tm.arrive,tm.begin_,tm.depart,b⟩).set j ⟨tm.arrive,tm.begin_,A4 t l b,b⟩)):=by rw[<-M,aA];exact congrArg (fun es=>some (⟨380,4,es⟩:Row)) (acS ap _)
   clear M;simp only[go_sem,h2,h3,h4,h5,Z,I,J,w,Rt,T,E];refine hK _ _ ⟨by simp only[go_sem,h2],by simp only[go_sem,h4],by simp only[go_sem,Z],by simp only[go_sem,I],by simp only[go_sem,J],by simp only[go_sem],T,E,?_⟩;rw[Rt,List.set_set];simp only[dY,eg]
 clear T E Rt h2 h3 h4 h5 Z I J;rintro ρ H ⟨h2,h4,Z,I,J,aa,T,E,Rt⟩;generalize hD:A4 t l b=D at *;have M:=UB x t r st k hk aq;rcases Xaw k st.length with ao|ar
 . obtain⟨s,hs⟩:=aN ao
   have b1:=inB ao;have ae:((k:Int) == (st.length:Int))=false:=by simp;omega
   have eS:kR x t st k l b=Ge x t (rV t st k) s k l b:=by unfold kR;rw[hs]
   rw[eS];unfold Ge Rq NO goL;simp only[hD];generalize hg:iM x.net t.profile (rV t st k) s.place D=g;simp only[go_sem,h2,h4,Z,I,J,aa,ae];refine aB (fun _=>?_) (fun hb=>by simp at hb);simp only[go_sem,h2,h4,Z,I,J,aa,aE hs,b1];refine dA (by rfl) (by kernel_rfl) ?_;simp only[go_sem,h2,h4,Z,I,J,aa];refine⟨_,M.q rfl,?_⟩;simp only[go_sem,h2,h4,Z,I,J,aa];refine⟨_,(Vv x.net t.profile (rV t st k) s.place D hn).q rfl,?_⟩;rw[hg];simp only[go_sem,h2,h4,Z,I,J,aa];refine aB (fun he=>?_) (fun he=>?_)
   . simp only[go_sem,Z]
     refine aJ T (by simp) ?_;simp only[go_sem,Z];rw[if_pos he];exact .refl _
   rw[if_neg (by rw[he];simp)];simp only[go_sem,h2,h4,Z,I,J,aa,E];refine eF so3 E ⟨by simp,rfl,by simp⟩ ?_;generalize M:aI _ O _=HP;replace T:=(congrFun M.symm i8).trans ((aD _ _ _ _ (by first|exact F|exact ne_i12_i8.symm)).trans T);replace Rt:=(congrFun M.symm jt).trans ((aD _ _ _ _ (by first|exact ne_jt_i12|exact u.symm)).trans Rt);replace E:HP O=some (fC (gT 0 0 { dY l.sheet k b D with miles:=W ((dY l.sheet k b D).miles+g.2.1) } jt)):=by rw[<-M,aA];rfl
   clear M;simp only[go_sem,h2,h4,Z,I,J,aa,E,T,Rt];refine eF so3 E ⟨by simp,rfl,by simp⟩ ?_;generalize M:aI _ O _=HP;replace T:=(congrFun M.symm i8).trans ((aD _ _ _ _ (by first|exact F|exact ne_i12_i8.symm)).trans T);replace Rt:=(congrFun M.symm jt).trans ((aD _ _ _ _ (by first|exact ne_jt_i12|exact u.symm)).trans Rt);replace E:HP O=some (fC (gT 0 (W (W (BV l b+g.1)-D)) { dY l.sheet k b D with miles:=W ((dY l.sheet k b D).miles+g.2.1) } jt)):=by rw[<-M,aA];rfl
   clear M;simp only[go_sem,h2,h4,Z,I,J,aa,ae,E,T,Rt];refine aB (fun hb=>by simp at hb) (fun _=>?_);simp only[go_sem,h2,h4,Z,I,J,aa,aE hs,b1];refine PC.use (PX s g.1) ?_;simp only[go_sem,h2,h4,Z,I,J,aa];by_cases hw:jW g.1 s.start>s.close
   . rw[if_pos hw,if_pos hw,if_pos hw]
     refine aB (fun _=>?_) (fun hb=>by simp at hb);simp only[go_sem,Z];refine aJ T (by simp) ?_;simp only[go_sem,Z];exact .refl _
   rw[if_neg hw,if_neg hw,if_neg hw];refine aB (fun hb=>by simp at hb) (fun _=>?_);simp only[go_sem,h2,h4,Z,I,J,aa,aE hs,b1];refine eF so3 E ⟨by simp,rfl,by simp⟩ ?_;generalize M:aI _ O _=HP;replace T:=(congrFun M.symm i8).trans ((aD _ _ _ _ (by first|exact F|exact ne_i12_i8.symm)).trans T);replace Rt:=(congrFun M.symm jt).trans ((aD _ _ _ _ (by first|exact ne_jt_i12|exact u.symm)).trans Rt);replace E:HP O=some (fC (gT (W (jW g.1 s.start+s.service)) (W (W (BV l b+g.1)-D)) { dY l.sheet k b D with miles:=W ((dY l.sheet k b D).miles+g.2.1) } jt)):=by rw[<-M,aA];rfl
   clear M;simp only[go_sem,h2,h4,Z,I,J,aa,ae,E,T,Rt];refine bE Rt ⟨rfl,rfl⟩ ⟨rfl,trivial⟩ (by simp[(oO l.sheet k b D).2.2];omega) (fun j' aj=>?_);have af:i8≠j':=aO T aj;have ad:O≠j':=aO E aj;generalize M:aI (aI _ jt none) j' _=HP;replace T:=(congrFun M.symm i8).trans ((aD _ _ _ _ af).trans ((aD _ _ _ _ (by first|exact ab|exact ne_jt_i8.symm)).trans T));replace E:=(congrFun M.symm O).trans ((aD _ _ _ _ ad).trans ((aD _ _ _ _ (by first|exact u|exact ne_jt_i12.symm)).trans E));have ai:HP j'=some (Cy ((dY l.sheet k b D).times++[⟨g.1,jW g.1 s.start,0,false⟩])):=by rw[<-M,aA];(show some (⟨380,4,_⟩:Row)=some ⟨380,4,_⟩;rw[Xam];rfl)
   clear M aj;simp only[go_sem,h2,h4,Z,I,J,aa,ae,ai,T,E];refine eF UR E ⟨by simp,rfl,by simp⟩ ?_;generalize M:aI _ O _=HP;replace T:=(congrFun M.symm i8).trans ((aD _ _ _ _ (by first|exact F|exact ne_i12_i8.symm)).trans T);replace ai:=(congrFun M.symm j').trans ((aD _ _ _ _ (by first|exact ne_j'_i12|exact ad.symm)).trans ai);replace E:HP O=some (fC (gT (W (jW g.1 s.start+s.service)) (W (W (BV l b+g.1)-D)) { dY l.sheet k b D with miles:=W ((dY l.sheet k b D).miles+g.2.1),times:=(dY l.sheet k b D).times++[⟨g.1,jW g.1 s.start,0,false⟩] } j')):=by rw[<-M,aA];rfl
   clear M;simp only[go_sem,h2,h4,Z,I,J,aa,ae,E,T,ai];refine aB (fun hd=>?_) (fun hd=>?_)
   . rw[if_pos (by simpa using hd)]
     simp only[go_sem,Z];refine aJ T (by simp) ?_;simp only[go_sem,Z];exact .refl _
   . rw[if_neg (by simpa using hd)]
     simp only[go_sem,Z,aa,E];refine aJ T ⟨by simp,rfl,Xaf _⟩ ?_;simp only[go_sem,Z];have hm:=(oO l.sheet k b D).1;have:=fun H=>Mq (H:=H) (j:=j') (l:=⟨W (jW g.1 s.start+s.service),W (W (BV l b+g.1)-D),{ dY l.sheet k b D with miles:=W ((dY l.sheet k b D).miles+g.2.1),times:=(dY l.sheet k b D).times++[⟨g.1,jW g.1 s.start,0,false⟩] }⟩)
     simp only[hm]at this |-;exact .tup [.agg (gT _ _ _ j'),int 0] _ (.cons _ _ _ _ (.agg _ _ (this _ ((aD _ _ _ _ af.symm).trans ai))) (ConvL.refl _))
 . have au:k=st.length:=by omega
   have ae:((k:Int) == (st.length:Int))=true:=by simp;omega
   have eS:kR x t st k l b=JB x t (rV t st k) k l b:=by unfold kR;rw[List.getElem?_eq_none ar]
   rw[eS];unfold JB Rq U9 goL;simp only[hD];generalize hg:iM x.net t.profile (rV t st k) t.dst D=g;simp only[go_sem,h2,h4,Z,I,J,aa,ae];refine aB (fun hb=>by simp at hb) (fun _=>?_);simp only[go_sem,h2,h4,Z,I,J,aa];refine dA (by rfl) (by kernel_rfl) ?_;simp only[go_sem,h2,h4,Z,I,J,aa];refine⟨_,M.q rfl,?_⟩;simp only[go_sem,h2,h4,Z,I,J,aa];refine⟨_,(Vv x.net t.profile (rV t st k) t.dst D hn).q rfl,?_⟩;rw[hg];simp only[go_sem,h2,h4,Z,I,J,aa];refine aB (fun he=>?_) (fun he=>?_)
   . simp only[go_sem,Z]
     refine aJ T (by simp) ?_;simp only[go_sem,Z];rw[if_pos he];exact .refl _
   rw[if_neg (by rw[he];simp)];simp only[go_sem,h2,h4,Z,I,J,aa,E];refine eF so3 E ⟨by simp,rfl,by simp⟩ ?_;generalize M:aI _ O _=HP;replace T:=(congrFun M.symm i8).trans ((aD _ _ _ _ (by first|exact F|exact ne_i12_i8.symm)).trans T);replace Rt:=(congrFun M.symm jt).trans ((aD _ _ _ _ (by first|exact ne_jt_i12|exact u.symm)).trans Rt);replace E:HP O=some (fC (gT 0 0 { dY l.sheet k b D with miles:=W ((dY l.sheet k b D).miles+g.2.1) } jt)):=by rw[<-M,aA];rfl
   clear M;simp only[go_sem,h2,h4,Z,I,J,aa,E,T,Rt];refine eF so3 E ⟨by simp,rfl,by simp⟩ ?_;generalize M:aI _ O _=HP;replace T:=(congrFun M.symm i8).trans ((aD _ _ _ _ (by first|exact F|exact ne_i12_i8.symm)).trans T);replace Rt:=(congrFun M.symm jt).trans ((aD _ _ _ _ (by first|exact ne_jt_i12|exact u.symm)).trans Rt);replace E:HP O=some (fC (gT 0 (W (W (BV l b+g.1)-D)) { dY l.sheet k b D with miles:=W ((dY l.sheet k b D).miles+g.2.1) } jt)):=by rw[<-M,aA];rfl
   clear M;simp only[go_sem,h2,h4,Z,I,J,aa,ae,E,T,Rt];refine aB (fun _=>?_) (fun hb=>by simp at hb);simp only[go_sem,h2,h4,Z,I,J,aa];refine aB (fun hw=>?_) (fun hw=>?_)
   . rw[if_pos (by simpa using hw)]
     simp only[go_sem,Z];refine aJ T (by simp) ?_;simp only[go_sem,Z];exact .refl _
   rw[if_neg (by simpa using hw)];simp only[go_sem,h2,h4,Z,I,J,aa,E];refine eF so3 E ⟨by simp,rfl,by simp⟩ ?_;generalize M:aI _ O _=HP;replace T:=(congrFun M.symm i8).trans ((aD _ _ _ _ (by first|exact F|exact ne_i12_i8.symm)).trans T);replace Rt:=(congrFun M.symm jt).trans ((aD _ _ _ _ (by first|exact ne_jt_i12|exact u.symm)).trans Rt);replace E:HP O=some (fC (gT 0 (W (W (BV l b+g.1)-D)) { dY l.sheet k b D with miles:=W ((dY l.sheet k b D).miles+g.2.1),end_:=g.1 } jt)):=by rw[<-M,aA];rfl
   clear M;simp only[go_sem,h2,h4,Z,I,J,aa,ae,E,T,Rt];refine eF so3 E ⟨by simp,rfl,by simp⟩ ?_;generalize M:aI _ O _=HP;replace T:=(congrFun M.symm i8).trans ((aD _ _ _ _ (by first|exact F|exact ne_i12_i8.symm)).trans T);replace Rt:=(congrFun M.symm jt).trans ((aD _ _ _ _ (by first|exact ne_jt_i12|exact u.symm)).trans Rt);replace E:HP O=some (fC (gT g.1 (W (W (BV l b+g.1)-D)) { dY l.sheet k b D with miles:=W ((dY l.sheet k b D).miles+g.2.1),end_:=g.1 } jt)):=by rw[<-M,aA];rfl
   clear M;simp only[go_sem,h2,h4,Z,I,J,aa,ae,E,T,Rt];refine aB (fun hd=>?_) (fun hd=>?_)
   . rw[if_pos (by simpa using hd)]
     simp only[go_sem,Z];refine aJ T (by simp) ?_;simp only[go_sem,Z];exact .refl _
   . rw[if_neg (by simpa using hd)]
     simp only[go_sem,Z,aa,E];refine aJ T ⟨by simp,rfl,Xaf _⟩ ?_;simp only[go_sem,Z];have hm:=(oO l.sheet k b D).1;have:=fun H=>Mq (H:=H) (j:=jt) (l:=⟨g.1,W (W (BV l b+g.1)-D),{ dY l.sheet k b D with miles:=W ((dY l.sheet k b D).miles+g.2.1),end_:=g.1 }⟩)
     simp only[hm]at this |-;exact .tup [.agg (gT _ _ _ jt),int 0] _ (.cons _ _ _ _ (.agg _ _ (this _ ((aD _ _ _ _ ab.symm).trans Rt))) (ConvL.refl _))
end Go.Proofs.YtohmomanmikphaaGreatDoor.Sq
end
section
namespace Go.Proofs.YtohmomanmikphaaGreatDoor.Sq
open Go.Proofs.Tryz(prog)
open Go.Aw Go.Aw.D Go.Proofs Ty
open Mv (bW cN NC.pc aT)
def Ji(x:Instance)(t:VType)(st:List Stop):List Bool->Nat->Lab->Except Int Lab
 | [],_,l=>.ok l
 | b::bs,k,l=>match kR x t st k l b with
   | .error e=>.error e
   | .ok l'=>Ji x t st bs (k+1) l'
def PY(e:Except Int Lab):Sheet:=match e with| .ok l=>l.sheet| .error _=>cA
theorem Hw{x:Instance}{t:VType}{st:List Stop}{k:Nat}{l:Lab}{b:Bool}{e:Int}(h:kR x t st k l b=.error e):e≠0:=by
 unfold kR at h;split at h
 . exact Q5 h
 . exact TJ h
theorem B6{x:Instance}{t:VType}{st:List Stop}{k:Nat}{l l':Lab}{b:Bool}(E:k<st.length)(u:l.sheet.times.length=k)(h:kR x t st k l b=.ok l'):l'.sheet.times.length=k+1:=by
 unfold kR at h;rw[List.getElem?_eq_getElem E]at h;simp only at h;unfold Ge at h;split at h
 . cases h
 . split at h
   . cases h
   . split at h
     . cases h
     . injection h with h
       subst h;simp[NO,(oO _ _ _ _).2.2,u]
theorem aeS(x:Instance)(t:VType)(r:Route)(st:List Stop)(bs:List Bool)(hn:NetOk x.net)(ak:st.length<=1048575)(hb:bs.length<=st.length+1):
   PC prog 321 [.agg (cK x t r st),.sl (bs.map eG)] (.tup [.agg (cM (PY (Ji x t st bs 0 (FJ t r)))),int (Ld (Ji x t st bs 0 (FJ t r)))]):=by
 refine pcd Tryz.func321 ?_;unfold Tryz.f321;simp only[gdS];simp only[go_sem];refine aM fun i4 ah=>?_
 generalize ad:aI _ i4 _=HGi4;have I:HGi4 i4=some (gF (cM cA)):=by rw[<-ad,aA];try rfl
 clear ad ah;simp only[go_sem,I];refine PC.use (Ly x t r st) ?_;simp only[go_sem];refine aM fun i6 ae=>?_
 have u:i4≠i6:=aO I ae;simp only[go_sem,I];refine aJ (aA _ _ _) (by simp[jC]) ?_;generalize ab:aI (aI _ i6 _) i6 _=HGi6;replace I:=(congrFun ab.symm i4).trans ((aD _ _ _ _ u).trans ((aD _ _ _ _ u).trans I));have T:HGi6 i6=some (fC (cJ (FJ t r))):=by rw[<-ab,aA];try rfl
 clear ab ae;simp only[go_sem,T,I];refine⟨fun ρ H=>∃(k:Nat) (l:Lab),k<=bs.length/\ρ 2=.rp (cK x t r st) 0/\ρ 4=.op i4 0 0/\ρ 6=.op i6 0 0/\ρ 13=.sl (bs.map eG)/\ρ 14=int bs.length/\ρ 15=int k/\H i4=some (gF (cM cA))/\H i6=some (fC (cJ l))/\(k<=st.length->l.sheet.times.length=k)/\Ji x t st bs 0 (FJ t r)=Ji x t st (bs.drop k) k l,fun ρ _=>bs.length-aV (ρ 15),
   ⟨0,FJ t r,Xac _,by simp only[go_sem],by simp only[go_sem],by simp only[go_sem],by simp only[go_sem],by simp only[go_sem,Xaa],by simp only[go_sem];rfl,I,T,fun _=>rfl,rfl⟩,?_⟩
 clear I T;rintro ρ H ⟨k,l,hk,h2,h4,h6,O,J,M,I,T,hl,he⟩;simp only[go_sem,h2,h4,h6,O,J,M];refine aB (fun ac=>?_) (fun af=>?_)
 . have ac:=aZ ac
   obtain⟨b,ag⟩:=aN ac;have b1:=inB ac;rw[KX ag,Ji]at he;simp only[go_sem,h2,h4,h6,O,J,M,aE ag,b1,eG,T];refine PC.use (TS x t r st l k b hn (by omega) (by omega) (hl (by omega))) ?_;simp only[go_sem,h2,h4,h6,O,J,M];refine aM fun i9 aa=>?_
   have E:i4≠i9:=aO I aa;have F:i6≠i9:=aO T aa;simp only[go_sem,h2,h4,h6,O,J,M,I,T];refine aJ (aA _ _ _) (by simp[jC]) ?_;generalize Z:aI (aI _ i9 _) i9 _=HGi9;replace I:=(congrFun Z.symm i4).trans ((aD _ _ _ _ E).trans ((aD _ _ _ _ E).trans I));replace T:=(congrFun Z.symm i6).trans ((aD _ _ _ _ F).trans ((aD _ _ _ _ F).trans T));have R9:HGi9 i9=some (fC (cJ (Vl (kR x t st k l b)))):=by rw[<-Z,aA];try rfl
   clear Z aa;simp only[go_sem,h2,h4,h6,O,J,M,R9,I,T];cases hs:kR x t st k l b with
   | error e=>
     rw[hs]at he;have ai:=Hw hs;refine aB (fun _=>?_) (fun hb=>by simp[Ld]at hb;exact absurd hb ai);simp only[go_sem,h4];refine aJ I (by simp) ?_;simp only[go_sem,h4];rw[he];exact .refl _
   | ok l'=>
     rw[hs]at he R9;refine aB (fun hb=>by simp[Ld]at hb) (fun _=>?_);simp only[go_sem,h2,h4,h6,O,J,M,R9];refine aJ T (by simp[jC]) ?_;generalize hP:aI _ i6 _=HP;replace I:=(congrFun hP.symm i4).trans ((aD _ _ _ _ (by first|exact u|exact ne_i6_i4.symm)).trans I);replace T:HP i6=some (fC (cJ l')):=by rw[<-hP,aA];rfl
     clear hP;simp only[go_sem,h2,h4,h6,O,J,M,aP (show k<=4611686018427387904 by omega),T,I];exact⟨⟨k+1,l',ac,rfl,rfl,fun aj=>B6 (by omega) (hl (by omega)) hs,he⟩,by simp only[aF];omega⟩
 . have af:=bC hk af
   subst af;rw[Xbw,Ji]at he;simp only[go_sem,h4,h6,T];refine aJ I (by simp[gW]) ?_;simp only[go_sem,h4];rw[he];exact .refl _
theorem ZA(l m:Lab):PC prog 358 [.agg (cJ l),.agg (cJ m)] (boo (Aa l m)):=by
 refine pcd Tryz.func358 ?_;unfold Tryz.f358;simp only[gdS];simp only[go_sem];exact .refl _
theorem ZN(l m:Lab):PC prog 357 [.agg (cJ l),.rp (cJ m) 0] (boo (Aa l m)):=by
 refine pcd Tryz.func357 ?_;unfold Tryz.f357;simp only[gdS];simp only[go_sem];refine PC.use (ZA l m) ?_;simp only[go_sem];exact .refl _
theorem IW{g:Nat}{cap:List AV}{p:Lab->Bool}(l:List Lab)(hl:l.length<=4000000000000000000)(T:aC prog g=true)(hg:∀v∈l,PC prog g (.agg (cJ v)::cap) (boo (p v))):
   PC prog 376 [.sl (l.map cJ),.fn g cap] (int (lU p l 0)):=by
 refine pcd Tryz.func376 ?_;unfold Tryz.f376;simp only[gdS];simp only[go_sem];refine⟨fun ρ _=>∃k:Nat,k<=l.length/\ρ 0=.sl (l.map cJ)/\ρ 1=.fn g cap/\ρ 7=int l.length/\ρ 8=int k/\∀u∈l.take k,p u=false,fun ρ _=>l.length-aV (ρ 8),⟨0,Xac _,rfl,rfl,rfl,rfl,by simp⟩,?_⟩;rintro ρ H ⟨k,hk,h0,h1,J,I,M⟩;simp only[go_sem,h0,h1,J,I];refine aB (fun E=>?_) (fun F=>?_)
 . have E:=aZ E
   obtain⟨u,O⟩:=aN E;have b1:=inB E;simp only[go_sem,h0,h1,J,I,aE O,b1,T];refine PC.use (hg u (Xae O)) ?_;simp only[go_sem,h0,h1,J,I];refine aB (fun Z=>?_) (fun Z=>?_)
   . simp only[go_sem,I]
     exact bW (by rw[mS M O Z];omega)
   . simp only[go_sem,h0,h1,J,I,aP (show k<=4611686018427387904 by omega)]
     exact⟨⟨k+1,E,rfl,aT (p:=fun u=>p u=false) O Z M⟩,by simp only[aF];omega⟩
 . have F:=bC hk F
   subst F;rw[Xag]at M;simp only[go_sem];exact bW (by rw[kN M])
theorem C9{g:Nat}{cap:List AV}{p:Lab->Bool}(l:List Lab)(F:l.length<=4000000000000000000)(u:aC prog g=true)(E:∀v∈l,PC prog g (.agg (cJ v)::cap) (boo (p v))):
   PC prog 356 [.sl (l.map cJ),.fn g cap] (boo (l.any p)):=by
 refine pcd Tryz.func356 ?_;unfold Tryz.f356;simp only[gdS];simp only[go_sem];refine PC.use (IW l F u E) ?_;simp only[go_sem];exact cN (nX l 0 (Xbx _))
def mT(x:Instance)(t:VType)(st:List Stop)(k:Nat)(out:List Lab)(l:Lab)(bs:List Bool):List Lab:=(bs.map fun b=>kR x t st k l b).foldl FA out
def PV(x:Instance)(t:VType)(r:Route)(st:List Stop)(ls:List Lab)(k:Nat):List Lab:=ls.foldl (fun out l=>mT x t st k out l (jJ r.rests k)) []
theorem Xo(out:List Lab)(e:Except Int Lab):(FA out e).length<=out.length+1:=by
 unfold FA;split
 . omega
 . split
   . omega
   . simp
theorem Ci(f:List Bool)(k:Nat):(jJ f k).length<=2:=by unfold jJ;split <;> simp
theorem Bp(x:Instance)(t:VType)(st:List Stop)(k:Nat)(l:Lab):∀(bs:List Bool) (out:List Lab),(mT x t st k out l bs).length<=out.length+bs.length
 | [],out=>by simp[mT]
 | b::bs,out=>by
   have:=Bp x t st k l bs (FA out (kR x t st k l b));have u:=Xo out (kR x t st k l b);simp only[mT,Xar,List.foldl_cons,Xad]at this |-;omega
theorem Bu(x:Instance)(t:VType)(r:Route)(st:List Stop)(k:Nat):∀(u:List Lab) (out:List Lab),(u.foldl (fun out l=>mT x t st k out l (jJ r.rests k)) out).length<=out.length+2*u.length
 | [],out=>by simp
 | l::u,out=>by
   have:=Bu x t r st k u (mT x t st k out l (jJ r.rests k));have E:=Bp x t st k l (jJ r.rests k) out;have F:=Ci r.rests k;simp only[List.foldl_cons,Xad]at this |-;omega
abbrev PZ(l:List Lab):Row:=⟨332,7,l.map cJ⟩
theorem DA:∀l:List Lab,cP 7 (l.map cJ)
 | []=>trivial
 | _::r=>⟨rfl,DA r⟩
theorem EX:∀l:List Bool,cP 1 (l.map eG)
 | []=>trivial
 | _::r=>⟨rfl,EX r⟩
theorem NS{x:Instance}{t:VType}{st:List Stop}{k m:Nat}{out:List Lab}{l:Lab}{bs:List Bool}{b:Bool}(h:bs[m]?=some b):mT x t st k out l (bs.take (m+1))=FA (mT x t st k out l (bs.take m)) (kR x t st k l b):=by
 unfold mT;rw[bQ h,Xam,List.foldl_append];rfl
theorem acH(x:Instance)(t:VType)(r:Route)(st:List Stop)(ls:List Lab)(k:Nat)(hn:NetOk x.net)(a5:st.length<=1048575)(hk:k<=st.length)(ba:ls.length<=4194304)(hl:∀l∈ls,l.sheet.times.length=k):
   PC prog 320 [.agg (cK x t r st),.sl (ls.map cJ),int k] (.sl ((PV x t r st ls k).map cJ)):=by
 refine pcb (fun t=>t == 8) Tryz.func320 ?_;unfold Tryz.f320;simp only[gdS];simp only[go_sem];refine bM (fun aq H'=>aq 1=.sl (ls.map cJ)/\aq 2=int k/\aq 3=.rp (cK x t r st) 0/\aq 7=.sl ((jJ r.rests k).map eG)) ?_ fun K hK=>aB (fun hb=>?_) (fun hb=>?_)
 rotate_left
 . have hb:k<r.rests.length:=by simp at hb;omega
   simp only[go_sem,aP (show k<=4611686018427387904 by omega)];refine⟨⟨by omega,EX _⟩,hK _ _ ⟨by simp only[go_sem],by simp only[go_sem],by simp only[go_sem],?_⟩⟩;simp only[go_sem];have:jJ r.rests k=(r.rests.take (k+1)).drop k:=by
     obtain⟨c,hc⟩:=aN hb;unfold jJ;rw[if_pos hb,bQ hc,List.drop_append_of_le_length (by simp;omega),List.drop_of_length_le (by simp;omega)];simp[List.getD,hc]
   rw[this,List.map_drop,List.map_take]
 . have hb:¬k<r.rests.length:=by simp at hb;omega
   simp only[go_sem];refine hK _ _ ⟨by simp only[go_sem],by simp only[go_sem],by simp only[go_sem],?_⟩;simp only[go_sem];unfold jJ;rw[if_neg hb];rfl
 rintro ρ H ⟨h1,T,O,Z⟩;simp only[go_sem,h1,T,O,Z];refine aM fun j0 a0=>?_
 simp only[go_sem,h1,T,O,Z];have a8:=Ci r.rests k;generalize hC:jJ r.rests k=cs at *;refine⟨fun ρ H=>∃(n:Nat) (j:Nat),n<=ls.length/\ρ 2=int k/\ρ 3=.rp (cK x t r st) 0/\ρ 7=.sl (cs.map eG)/\ρ 29=.sl (ls.map cJ)/\ρ 30=int ls.length/\ρ 31=int n/\ρ 8=.os j/\H j=some (PZ ((ls.take n).foldl (fun out l=>mT x t st k out l cs) [])),fun ρ _=>ls.length-aV (ρ 31),
   ⟨0,j0,Xac _,by simp only[go_sem,T],by simp only[go_sem,O],by simp only[go_sem,Z],by simp only[go_sem],by simp only[go_sem,Xaa],by simp only[go_sem];rfl,by simp only[go_sem],aA _ _ _⟩,?_⟩
 clear h1 T O Z a0 j0;rintro ρ H ⟨n,j,a4,T,O,Z,E,F,I,h8,R⟩;simp only[go_sem,T,O,Z,E,F,I,h8];refine aB (fun am=>?_) (fun av=>?_)
 . have am:=aZ am
   obtain⟨l,au⟩:=aN am;have b1:=inB am;have az:=hl l (Xae au);have a9:((ls.take n).foldl (fun out l=>mT x t st k out l cs) []).length<=2*n:=by
     have:=Bu x t r st k (ls.take n) [];rw[hC]at this;simp at this;omega
   have ar:(ls.take (n+1)).foldl (fun out l=>mT x t st k out l cs) []=mT x t st k ((ls.take n).foldl (fun out l=>mT x t st k out l cs) []) l cs:=gQ au;generalize hO:(ls.take n).foldl (fun out l=>mT x t st k out l cs) []=out0 at *;simp only[go_sem,T,O,Z,E,F,I,h8,aE au,b1];refine aM fun ab ao=>?_
   have u:j≠ab:=aO R ao;simp only[go_sem,T,O,Z,E,F,I,h8,R];refine aJ (aA _ _ _) (by simp[jC]) ?_;generalize ak:aI (aI _ ab _) ab _=HGi10;replace R:=(congrFun ak.symm j).trans ((aD _ _ _ _ u).trans ((aD _ _ _ _ u).trans R));have J:HGi10 ab=some (fC (cJ l)):=by rw[<-ak,aA];try rfl
   clear ak ao;simp only[go_sem,T,O,Z,E,F,I,h8,J,R];refine⟨fun ρ H=>∃(m:Nat) (j:Nat),m<=cs.length/\ρ 2=int k/\ρ 3=.rp (cK x t r st) 0/\ρ 7=.sl (cs.map eG)/\ρ 10=.op ab 0 0/\ρ 29=.sl (ls.map cJ)/\ρ 30=int ls.length/\ρ 31=int n/\ρ 35=.sl (cs.map eG)/\ρ 36=int cs.length/\ρ 37=int m/\ρ 8=.os j/\j≠ab/\H ab=some (fC (cJ l))/\H j=some (PZ (mT x t st k out0 l (cs.take m))),fun ρ _=>cs.length-aV (ρ 37),
     ⟨0,j,Xac _,by simp only[go_sem,T],by simp only[go_sem,O],by simp only[go_sem,Z],by simp only[go_sem],by simp only[go_sem,E],by simp only[go_sem,F],by simp only[go_sem,I],by simp only[go_sem],by simp only[go_sem,Xaa],by simp only[go_sem];rfl,by simp only[go_sem,h8],u,J,R⟩,?_⟩
   clear T O Z E F I h8 R J u j;rintro ρ H ⟨m,j,hm,T,O,Z,ae,E,F,I,ad,af,ac,h8,u,J,R⟩;simp only[go_sem,T,O,Z,ae,E,F,I,ad,af,ac,h8];refine aB (fun aa=>?_) (fun ap=>?_)
   . have aa:=aZ aa
     obtain⟨b,ax⟩:=aN aa;have b2:=inB aa;have a6:=Bp x t st k l (cs.take m) out0;have hf:=NS (x:=x) (t:=t) (st:=st) (k:=k) (out:=out0) (l:=l) ax;have a7:(cs.take m).length<=2:=by simp;omega
     simp only[go_sem,T,O,Z,ae,E,F,I,ad,af,ac,h8,aE ax,b2,eG,J];refine PC.use (TS x t r st l k b hn (by omega) hk az) ?_;simp only[go_sem,T,O,Z,ae,E,F,I,ad,af,ac,h8];refine aM fun al aj=>?_
     have M:ab≠al:=aO J aj;have ag:j≠al:=aO R aj;simp only[go_sem,T,O,Z,ae,E,F,I,ad,af,ac,h8,J,R];refine aJ (aA _ _ _) (by simp[jC]) ?_;generalize ah:aI (aI _ al _) al _=HGi13;replace J:=(congrFun ah.symm ab).trans ((aD _ _ _ _ M).trans ((aD _ _ _ _ M).trans J));replace R:=(congrFun ah.symm j).trans ((aD _ _ _ _ ag).trans ((aD _ _ _ _ ag).trans R));have an:HGi13 al=some (fC (cJ (Vl (kR x t st k l b)))):=by rw[<-ah,aA];try rfl
     clear ah aj;simp only[go_sem,T,O,Z,ae,E,F,I,ad,af,ac,h8,an,J,R];generalize hF:mT x t st k out0 l (cs.take m)=out at *;cases hs:kR x t st k l b with
     | error e=>
       rw[hs]at hf an;have ay:(e == 0)=false:=by simpa using Hw hs
       refine⟨boo false,fun hg=>by simp[gt,Ld,ay]at hg,?_⟩;simp only[go_sem,Ld,ay];refine aB (fun hb=>by simp at hb) (fun _=>?_);simp only[go_sem,T,O,Z,ae,E,F,I,ad,af,ac,h8,aP (show m<=4611686018427387904 by omega)];exact⟨⟨m+1,j,aa,rfl,rfl,u,J,by rw[hf];exact R⟩,by simp only[aF];omega⟩
     | ok l'=>
       rw[hs]at hf an;refine⟨_,fun _=>.inl ⟨[.sl (out.map cJ),.fn 357 [.rp (cJ l') 0]],.cons _ _ _ _ (.row _ _ _ R (ConvE.refl _)) (.cons _ _ _ _ (.fn _ _ _ (.cons _ _ _ _ (.ptr _ _ _ _ _ an (by simp) (ConvL.refl _)) .nil)) .nil),C9 out (by omega) (by simp only[go_sem]) fun v _=>ZN v l',rfl⟩,?_⟩;simp only[go_sem,Ld,T,O,Z,ae,E,F,I,ad,af,ac,h8];refine aB (fun hb=>?_) (fun hb=>?_)
       . have hb:(out.any fun v=>Aa v l')=false:=by simpa using hb
         simp only[go_sem,T,O,Z,ae,E,F,I,ad,af,ac,h8,an];refine bE R ⟨rfl,rfl⟩ ⟨rfl,trivial⟩ (by simp only[Xaa,Xad,List.length_nil];omega) (fun j' aw=>?_);have ai:ab≠j':=aO J aw;simp only[go_sem,T,O,Z,ae,E,F,I,ad,af,ac,h8,aP (show m<=4611686018427387904 by omega)];refine⟨⟨m+1,j',aa,rfl,rfl,ai.symm,cV J u aw,?_⟩,by simp only[aF];omega⟩;have e1:FA out (.ok l')=out++[l']:=by
           show(if(out.any fun v=>Aa v l')=true then out else out++[l'])=_;rw[if_neg (by rw[hb];simp)]
         rw[hf,e1];exact oA (l':=[l']) rfl
       . have hb:(out.any fun v=>Aa v l')=true:=by simpa using hb
         simp only[go_sem,T,O,Z,ae,E,F,I,ad,af,ac,h8,aP (show m<=4611686018427387904 by omega)];refine⟨⟨m+1,j,aa,rfl,rfl,u,J,?_⟩,by simp only[aF];omega⟩;have e1:FA out (.ok l')=out:=by
           show(if(out.any fun v=>Aa v l')=true then out else out++[l'])=_;rw[if_pos hb]
         rw[hf,e1];exact R
   . have ap:=bC hm ap
     subst ap;rw[Xag]at R;simp only[go_sem,T,O,Z,E,F,I,h8,aP (show n<=4611686018427387904 by omega)];exact⟨⟨n+1,j,am,rfl,rfl,by rw[ar];exact R⟩,by simp only[aF];omega⟩
 . have av:=bC a4 av
   subst av;rw[Xag]at R;simp only[go_sem,h8];unfold PV;rw[hC];exact .row _ _ _ R (ConvE.refl _)
def dpP(x:Instance)(t:VType)(r:Route)(st:List Stop):Nat->List Lab
 | 0=>[FJ t r]
 | k+1=>PV x t r st (dpP x t r st k) k
def AH(b m:Lab):Lab:=if decide (m.sheet.end_<b.sheet.end_)=true then m else b
def WW(x:Instance)(t:VType)(r:Route):Sheet×Int:=match dpP x t r (jA x r.visits) (r.visits.length+1)with
 | []=>(PY (Ji x t (jA x r.visits) (BH r) 0 (FJ t r)),Ld (Ji x t (jA x r.visits) (BH r) 0 (FJ t r)))
 | l0::ls=>((ls.foldl AH l0).sheet,0)
def nA(x:Instance)(r:Route):Sheet×Int:=
 if(!fN x r||decide ((r.rests.length:Int)>(r.visits.length:Int)+1))=true then(cA,2)else match x.types[r.type.toNat]? with
 | some t=>WW x t r
 | none=>(cA,2)
theorem Um{out:List Lab}{e:Except Int Lab}{m:Lab}(h:m∈FA out e):m∈out\/e=.ok m:=by
 unfold FA at h;split at h
 . exact .inl h
 . rename_i l
   split at h
   . exact .inl h
   . rcases Xba.1 h with h|h
     . exact .inl h
     . simp at h;exact .inr (by rw[h])
theorem FW{x:Instance}{t:VType}{st:List Stop}{k:Nat}{l m:Lab}:∀(bs:List Bool) (out:List Lab),m∈mT x t st k out l bs->m∈out\/∃b,kR x t st k l b=.ok m
 | [],out,h=>.inl h
 | b::bs,out,h=>by
   rcases FW bs (FA out (kR x t st k l b)) h with h|h
   . rcases Um h with h|h
     . exact .inl h
     . exact .inr ⟨b,h⟩
   . exact .inr h
theorem G3{x:Instance}{t:VType}{r:Route}{st:List Stop}{k:Nat}{m:Lab}:∀(u:List Lab) (out:List Lab),m∈u.foldl (fun out l=>mT x t st k out l (jJ r.rests k)) out->m∈out\/∃l∈u,∃b,kR x t st k l b=.ok m
 | [],out,h=>.inl h
 | l::u,out,h=>by
   rcases G3 u _ h with h|⟨l',E,b,F⟩
   . rcases FW _ _ h with h|⟨b,F⟩
     . exact .inl h
     . exact .inr ⟨l,by simp,b,F⟩
   . exact .inr ⟨l',by simp[E],b,F⟩
theorem Ht{x:Instance}{t:VType}{r:Route}{st:List Stop}:∀(k:Nat),k<=st.length->∀l∈dpP x t r st k,l.sheet.times.length=k
 | 0,_,l,h=>by simp[dpP]at h;subst h;rfl
 | k+1,hk,l,h=>by
   rcases G3 _ _ h with h|⟨l',u,b,E⟩
   . simp at h
   . exact B6 (by omega) (Ht k (by omega) l' u) E
theorem Qn(x:Instance)(t:VType)(r:Route)(st:List Stop):∀k:Nat,(dpP x t r st k).length<=2^k
 | 0=>by simp[dpP]
 | k+1=>by
   have h1:=Bu x t r st k (dpP x t r st k) [];have u:=Qn x t r st k;rw[Nat.pow_succ];simp only[dpP,PV]at h1 |-;simp at h1;omega
theorem Pj(x:Instance)(r:Route):∃F t' r' u,yK x r=(cK F t' r' u,fN x r)/\(fN x r=true->F=x/\r'=r/\u=jA x r.visits/\x.types[r.type.toNat]?=some t'):=by
 unfold yK;cases I:fN x r with
 | false=>exact⟨_,_,_,_,by rw[if_neg (by simp)],fun h=>by simp at h⟩
 | true=>
   have:=yN I;obtain⟨t,E⟩:=aN (show r.type.toNat<x.types.length by omega);exact⟨x,t,r,jA x r.visits,by rw[if_pos rfl,E],fun _=>⟨rfl,rfl,rfl,E⟩⟩
theorem aeQ(x:Instance)(r:Route)(hn:NetOk x.net)(hr:r.visits.length<=1048576):PC prog 275 [.agg (aH x),.agg (cX r)] (.tup [.agg (cM (nA x r).1),int (nA x r).2]):=by
 have w:IntKind.i64.wrap ((r.visits.length:Int)+1)=(r.visits.length:Int)+1:=bA (by omega);refine pcb (fun t=>t == 57) Tryz.func275 ?_;unfold Tryz.f275;simp only[gdS];simp only[go_sem];refine aM fun i4 a4=>?_
 generalize aq:aI _ i4 _=HGi4;have u:HGi4 i4=some (gF (cM cA)):=by rw[<-aq,aA];try rfl
 clear aq a4;simp only[go_sem,u];refine PC.use (adU x r hr) ?_;simp only[go_sem];obtain⟨x',t',r',a5,av,ar⟩:=Pj x r;rw[av];refine aM fun i6 ap=>?_
 have T:i4≠i6:=aO u ap;simp only[go_sem,w,u];refine aJ (aA _ _ _) (by simp[Cq]) ?_;generalize am:aI (aI _ i6 _) i6 _=HGi6;replace u:=(congrFun am.symm i4).trans ((aD _ _ _ _ T).trans ((aD _ _ _ _ T).trans u));have R6:HGi6 i6=some (uL (cK x' t' r' a5)):=by rw[<-am,aA];try rfl
 clear am ap;simp only[go_sem,w,R6,u];refine aB (fun h1=>?_) (fun h1=>?_)
 . simp only[go_sem]
   refine aJ u (by simp) ?_;simp only[go_sem];have e:nA x r=(cA,2):=by unfold nA;rw[if_pos h1]
   rw[e];exact .refl _
 have hp:fN x r=true:=by
   rw[Xak]at h1;simpa using h1.1
 have au:r.rests.length<=r.visits.length+1:=by
   rw[Xak]at h1;have:=h1.2;simp at this;omega
 have bb:=yN hp;obtain⟨t,ht⟩:=aN (show r.type.toNat<x.types.length by omega);have a9:r.visits.length<=20:=by
   unfold fN at hp;simp only[Xap,Xbm,Xak,decide_eq_false_iff_not]at hp;omega
 have eB:nA x r=WW x t r:=by unfold nA;rw[if_neg (by rw[h1];simp),ht]
 obtain⟨ex,er,es,aj⟩:=ar hp;rw[ex,er,es]at R6;rw[ht]at aj;injection aj with aj;rw[<-aj]at R6;clear av ar ex er es aj;rw[eB];have a8:(jA x r.visits).length=r.visits.length:=by simp[jA]
 have az:=Qn x t r (jA x r.visits);have a7:=Ht (x:=x) (t:=t) (r:=r) (st:=jA x r.visits);unfold WW;generalize hS:jA x r.visits=st at *;simp only[go_sem,R6];refine PC.use (Ly x t r st) ?_;simp only[go_sem];refine⟨fun ρ H=>∃k:Nat,k<=r.visits.length+1/\ρ 3=.rp (cX r) 0/\ρ 4=.op i4 0 0/\ρ 6=.op i6 0 0/\ρ 8=int ((r.visits.length:Int)+1)/\ρ 38=int ((r.visits.length:Int)+1)/\ρ 39=int k/\ρ 9=.sl ((dpP x t r st k).map cJ)/\H i4=some (gF (cM cA))/\H i6=some (uL (cK x t r st)),fun ρ _=>r.visits.length+1-aV (ρ 39),
   ⟨0,Xac _,by simp only[go_sem],by simp only[go_sem],by simp only[go_sem],by simp only[go_sem],by simp only[go_sem],by simp only[go_sem];rfl,by simp only[go_sem];rfl,u,R6⟩,?_⟩
 clear u R6;rintro ρ H ⟨k,hk,h3,J,h6,h8,an,ao,h9,u,R6⟩;simp only[go_sem,h3,J,h6,h8,an,ao,h9];refine aB (fun aa=>?_) (fun ah=>?_)
 . have aa:k<=r.visits.length:=by simp at aa;omega
   simp only[go_sem,h3,J,h6,h8,an,ao,h9,R6];have bc:2^k<=2^20:=Xav (by decide) (by omega);have:=az k;refine PC.use (acH x t r st (dpP x t r st k) k hn (by omega) (by omega) (by omega) (a7 k (by omega))) ?_;simp only[go_sem,h3,J,h6,h8,an,ao,aP (show k<=4611686018427387904 by omega)];exact⟨⟨k+1,by omega,rfl,rfl,u,R6⟩,by simp only[aF];omega⟩
 have ah:k=r.visits.length+1:=by simp at ah;omega
 subst ah;simp only[go_sem,h3,J,h6,h8,h9];cases hd:dpP x t r st (r.visits.length+1)with
 | nil=>
   rw[hd]at h9;refine aB (fun _=>?_) (fun hb=>by simp at hb);simp only[go_sem,h3,J,h6,h8,h9];refine⟨⟨by omega,by omega⟩,aM fun j hj=>?_⟩;simp only[go_sem,h3,J,h6,h8,h9];have a6:(((r.visits.length:Int)+1)).toNat=r.visits.length+1:=by omega
   refine aaC aiP (aA _ _ _) (.inl ⟨rfl,rfl,rfl⟩) (.inl rfl) rfl (EX _) ?_;have al:=aO u hj;have aw:=aO R6 hj;generalize hG:aI (aI H j _) j _=H1;have Rj:H1 j=some (XQ (BH r)):=by
     rw[<-hG,aA,a6];exact congrArg (fun es=>some (⟨4,1,es⟩:Row)) (M7 au)
   replace u:=(congrFun hG.symm i4).trans (abG u hj);replace R6:=(congrFun hG.symm i6).trans (abG R6 hj);clear hG hj;simp only[go_sem,h3,J,h6,h8,h9,R6];refine Bm (by simp only[go_sem]) Rj fun Hr bd hr=>?_
   replace u:=(hr i4 al).trans u;simp only[go_sem,h3,J,h6,h8,h9];refine PC.use (aeS x t r st (BH r) hn (by omega) (by rw[MW au,a8];exact Xaf _)) ?_;simp only[go_sem,h3,J,h6,h8,h9];refine aJ u (by simp[gW]) ?_;simp only[go_sem,J];exact .refl _
 | cons l0 ls=>
   rw[hd]at h9;have ba:=DA (l0::ls);have ay:(l0::ls).length<=2^21:=by
     have:=az (r.visits.length+1);rw[hd]at this;exact Xaj this (Xav (by decide) (by omega))
   refine aB (fun hb=>by simp at hb;omega) (fun _=>?_);have b1:(0:Int)<=0/\(0:Int)<((l0::ls).length:Int):=⟨Xbx _,by simp⟩;simp only[go_sem,h3,J,h6,h8,h9,aE (l:=l0::ls) (k:=0) (x:=l0) rfl,b1];refine⟨by omega,?_⟩;refine aM fun O ai=>?_
   have E:i4≠O:=aO u ai;simp only[go_sem,h3,J,h6,h8,h9,u];refine aJ (aA _ _ _) (by simp[jC]) ?_;generalize ac:aI (aI _ O _) O _=HGi12;replace u:=(congrFun ac.symm i4).trans ((aD _ _ _ _ E).trans ((aD _ _ _ _ E).trans u));have F:HGi12 O=some (fC (cJ l0)):=by rw[<-ac,aA];try rfl
   clear ac ai;simp only[go_sem,h3,J,h6,h8,h9,F,u];refine⟨⟨by omega,DA ls⟩,?_⟩;refine⟨fun ρ H=>∃(m:Nat),m<=ls.length/\ρ 4=.op i4 0 0/\ρ 12=.op O 0 0/\ρ 65=.sl (ls.map cJ)/\ρ 66=int ls.length/\ρ 67=int m/\H i4=some (gF (cM cA))/\H O=some (fC (cJ ((ls.take m).foldl AH l0))),fun ρ _=>ls.length-aV (ρ 67),
     ⟨0,Xac _,by simp only[go_sem,J],by simp only[go_sem],by simp only[go_sem],by simp only[go_sem,Xaa],by simp only[go_sem];rfl,u,F⟩,?_⟩
   clear h3 J h6 h8 h9 u F an ao R6;rintro ρ H ⟨m,hm,J,ab,ae,ad,af,u,F⟩;simp only[go_sem,J,ab,ae,ad,af];refine aB (fun aa=>?_) (fun ah=>?_)
   . have aa:=aZ aa
     obtain⟨l,a0⟩:=aN aa;have b2:=inB aa;have hf:(ls.take (m+1)).foldl AH l0=AH ((ls.take m).foldl AH l0) l:=gQ a0;generalize (ls.take m).foldl AH l0=bl at *;simp only[go_sem,J,ab,ae,ad,af,aE a0,b2];refine aM fun ak ag=>?_
     have M:i4≠ak:=aO u ag;have I:O≠ak:=aO F ag;simp only[go_sem,J,ab,ae,ad,af,u,F];refine aJ (aA _ _ _) (by simp[jC]) ?_;generalize Z:aI (aI _ ak _) ak _=HGi14;replace u:=(congrFun Z.symm i4).trans ((aD _ _ _ _ M).trans ((aD _ _ _ _ M).trans u));replace F:=(congrFun Z.symm O).trans ((aD _ _ _ _ I).trans ((aD _ _ _ _ I).trans F));have ax:HGi14 ak=some (fC (cJ l)):=by rw[<-Z,aA];try rfl
     clear Z ag;simp only[go_sem,J,ab,ae,ad,af,ax,u,F];refine aB (fun hb=>?_) (fun hb=>?_)
     . simp only[go_sem,J,ab,ae,ad,af,ax]
       refine aJ F (by simp[jC]) ?_;generalize hP:aI _ O _=HP;replace u:=(congrFun hP.symm i4).trans ((aD _ _ _ _ (by first|exact E|exact ne_i12_i4.symm)).trans u);replace F:HP O=some (fC (cJ l)):=by rw[<-hP,aA];rfl
       clear hP;simp only[go_sem,J,ab,ae,ad,af,aP (show m<=4611686018427387904 by simp at ay;omega),F,u];exact⟨⟨m+1,aa,rfl,by rw[hf];unfold AH;rw[if_pos hb]⟩,by simp only[aF];omega⟩
     . simp only[go_sem,J,ab,ae,ad,af,aP (show m<=4611686018427387904 by simp at ay;omega)]
       exact⟨⟨m+1,aa,rfl,u,by rw[hf];unfold AH;rw[if_neg (by rw[hb];simp)];exact F⟩,by simp only[aF];omega⟩
   . have ah:=bC hm ah
     subst ah;rw[Xag]at F;simp only[go_sem,J,ab,F];refine aJ u (by simp[gW]) ?_;simp only[go_sem,J];exact .refl _
def kY(p:Int×Int):List AV:=[int p.1,int p.2]
def sY(m:List (Int×Int))(o:Int):Option Nat:=m.findIdx? fun p=>p.1 == o
def uT(m:List (Int×Int))(o:Int):Int:=((m.find? fun p=>p.1 == o).map (·.2)).getD 0
def C8(m:List (Int×Int))(o v:Int):List (Int×Int):=match sY m o with
 | some i=>m.set i (o,v)
 | none=>m++[(o,v)]
abbrev vV(m:List (Int×Int)):Row:=⟨0,2,m.map kY⟩
theorem tC(o:Int):∀(m:List (Int×Int)) (i:Nat),qP (oB prog 3 (int o)) (m.map kY) i=some ((sY m o).map (·+i))
 | [],i=>rfl
 | p::m,i=>by
   have ih:=tC o m (i+1);have E:oB prog 3 (int o) ((kY p).getD 0 .any)=some (o == p.1):=by
     show oB prog 3 (int o) (int p.1)=_;unfold oB;simp only[kk3];simp[sC]
   rw[Xar,qP,E];unfold sY at *;rw[List.findIdx?_cons];by_cases h:o=p.1
   . subst h;simp
   . have h1:(o == p.1)=false:=by simpa using h
     have u:(p.1 == o)=false:=by simpa using fun e=>h e.symm
     rw[h1,u];simp only[Xay,if_false];rw[ih];cases m.findIdx? (fun p=>p.1 == o)with
     | none=>rfl
     | some j=>simp;omega
theorem lL(o:Int)(m:List (Int×Int)):qP (oB prog 3 (int o)) (m.map kY) 0=some (sY m o):=by
 rw[tC];cases sY m o <;> rfl
theorem nG(o:Int):lD prog 3 (int o)=true:=by
 simp only[lD,kk3];rfl
theorem AF(m:List (Int×Int))(o:Int):Ee false (int 0) (m.map kY) (sY m o)=int (uT m o):=by
 unfold Ee uT sY;induction m with
 | nil=>rfl
 | cons p m ih=>
   rw[List.findIdx?_cons,List.find?_cons];cases h:p.1 == o with
   | true=>simp[kY]
   | false=>
     cases u:m.findIdx? (fun p=>p.1 == o)with
     | none=>
       rw[u]at ih;simpa using ih
     | some j=>
       rw[u]at ih;simp at ih |-;exact ih
theorem Aq(m:List (Int×Int))(o v:Int):RZ (m.map kY) (sY m o) (int o) (int v)=(C8 m o v).map kY:=by
 unfold RZ C8;cases sY m o with
 | none=>simp[kY]
 | some i=>simp[List.map_set,kY]
theorem JF(m:List (Int×Int))(o v q:Int):uT (C8 m o v) q=if q=o then v else uT m q:=by
 unfold uT C8 sY;induction m with
 | nil=>
   by_cases h:q=o
   . subst h;simp
   . have E:(o == q)=false:=by simpa using fun e=>h e.symm
     simp[h,E]
 | cons p m ih=>
   rw[List.findIdx?_cons];cases I:p.1 == o with
   | true=>
     have u:p.1=o:=by simpa using I
     simp only[if_true,List.set_cons_zero,List.find?_cons];by_cases h:q=o
     . subst h;simp
     . have E:(o == q)=false:=by simpa using fun e=>h e.symm
       have M:(p.1 == q)=false:=by rw[u];exact E
       simp[h,E,M]
   | false=>
     have u:p.1≠o:=by simpa using I
     cases J:m.findIdx? (fun p=>p.1 == o)with
     | none=>
       rw[J]at ih;simp only[Xay,if_false,Option.map_none,List.cons_append,List.find?_cons];cases F:p.1 == q with
       | true=>
         have:q≠o:=fun e=>u ((by simpa using F:p.1=q).trans e)
         simp[this]
       | false=>simpa using ih
     | some j=>
       rw[J]at ih;simp only[Xay,if_false,Option.map_some,List.set_cons_succ,List.find?_cons];cases F:p.1 == q with
       | true=>
         have:q≠o:=fun e=>u ((by simpa using F:p.1=q).trans e)
         simp[this]
       | false=>simpa using ih
theorem GM(a b:Int):PC prog 322 [int a,int b] (boo (a != -1&&a != b)):=by
 refine pcd Tryz.func322 ?_;unfold Tryz.f322;simp only[gdS];simp only[go_sem];exact .refl _
def Ky(l:List Visit)(o:Int):Nat:=l.countP fun v=>v.order == o
theorem SL{l:List Visit}{k:Nat}{v:Visit}(h:l[k]?=some v)(o:Int):Ky (l.take (k+1)) o=Ky (l.take k) o+if v.order=o then 1 else 0:=by
 unfold Ky;rw[bQ h,List.countP_append];by_cases e:v.order=o
 . simp[e]
 . have:(v.order == o)=false:=by simpa using e
   simp[e]
theorem Ys(l:List Visit)(k:Nat)(o:Int):Ky (l.take k) o<=l.length:=Xaj List.countP_le_length (by rw[Xal];omega)
theorem ON{l:List Visit}{k:Nat}{v:Visit}(h:l[k]?=some v):sI l k=decide (Ky (l.take k) v.order=0):=by
 have M:=(List.getElem?_eq_some_iff.1 h).1;rw[Xau];simp only[decide_eq_true_eq];unfold sI Ky;rw[List.countP_eq_zero,Xao];constructor
 . intro F u O
   obtain⟨i,I,rfl⟩:=List.getElem_of_mem O;have E:i<k:=by simp at I;omega
   have:=F i (Xaz.2 E);rw[sN h,sN (List.getElem?_eq_getElem (show i<l.length by omega))]at this;simpa using this
 . intro F i I
   have E:=Xaz.1 I;have J:i<l.length:=by omega
   rw[sN h,sN (List.getElem?_eq_getElem J)];have:=F l[i] (List.mem_take_iff_getElem.2 ⟨i,by omega,rfl⟩);simpa using this
theorem Xs(x:Instance)(r:Route)(s:Sheet)(hr:r.visits.length<=1048576):PC prog 276 [.agg (aH x),.agg (cX r),.agg (cM s)] (.agg (eY (rI x r s))):=by
 refine pcd Tryz.func276 ?_;unfold Tryz.f276;simp only[gdS];simp only[go_sem];refine aM fun i6 a9=>?_
 generalize a5:aI _ i6 _=HGi6;have T:HGi6 i6=some (mY cR):=by rw[<-a5,aA];try rfl
 clear a5 a9;simp only[go_sem,T];refine aB (fun h1=>?_) (fun h1=>?_)
 . have h1:dG r.type x.types.length=true:=h1
   simp only[go_sem];refine aJ T (by simp) ?_;simp only[go_sem];have e:rI x r s=cR:=by unfold rI;rw[if_pos h1]
   rw[e];exact .refl _
 have h1:dG r.type x.types.length=false:=h1;have ba:0<=r.type/\r.type<(x.types.length:Int):=by simp only[dG,Xak,decide_eq_false_iff_not]at h1;omega
 obtain⟨t,ht⟩:=aN (show r.type.toNat<x.types.length by omega);have e:rI x r s=Ul x r s t:=by unfold rI;rw[if_neg (by rw[h1];simp),ht]
 rw[e];simp only[go_sem,aE ht,ba];refine aM fun i7 a4=>?_
 have al:i6≠i7:=aO T a4;simp only[go_sem,T];refine aJ (aA _ _ _) (by simp[jB]) ?_;generalize ay:aI (aI _ i7 _) i7 _=HGi7;replace T:=(congrFun ay.symm i6).trans ((aD _ _ _ _ al).trans ((aD _ _ _ _ al).trans T));have R7:HGi7 i7=some (jS t):=by rw[<-ay,aA];try rfl
 clear ay a4;simp only[go_sem,R7,T];refine⟨by decide,?_⟩;refine aM fun ab ax=>?_
 have Z:i6≠ab:=aO T ax;simp only[go_sem,T];refine aJ (aA _ _ _) (by simp) ?_;generalize av:aI (aI _ ab _) ab _=HGi10;replace T:=(congrFun av.symm i6).trans ((aD _ _ _ _ Z).trans ((aD _ _ _ _ Z).trans T));have u:HGi10 ab=some (mY (Bs t s)):=by rw[<-av,aA];try rfl
 clear av ax;simp only[go_sem,u,T];refine aM fun jm a6=>?_
 have am:=aO T a6;have aa:=aO u a6;generalize hG:aI HGi10 jm _=HM;have Rm:HM jm=some (vV []):=by rw[<-hG,aA];rfl
 replace T:=(congrFun hG.symm i6).trans ((aD _ _ _ _ am).trans T);replace u:=(congrFun hG.symm ab).trans ((aD _ _ _ _ aa).trans u);clear hG a6 R7;simp only[go_sem];refine ⟨fun ρ H => ∃ (k : Nat) (m : List (Int × Int)), k <= r.visits.length /\ ρ 3 = .rp (aH x) 0 /\ ρ 4 = .rp (cX r) 0 /\ ρ 6 = .op i6 0 0 /\ ρ 10 = .op ab 0 0 /\ ρ 11 = .om jm /\ ρ 59 = .sl (r.visits.map aK) /\ ρ 60 = int r.visits.length /\ ρ 61 = int k /\ H i6 = some (mY cR) /\
     H ab=some (mY (((List.range r.visits.length).take k).foldl (jM x r) (Bs t s)))/\H jm=some (vV m)/\∀o,uT m o=(Ky (r.visits.take k) o:Nat),fun ρ _=>r.visits.length-aV (ρ 61),
   ⟨0,[],Xac _,by simp only[go_sem],by simp only[go_sem],by simp only[go_sem],by simp only[go_sem],by simp only[go_sem],by simp only[go_sem],by simp only[go_sem,Xaa],by simp only[go_sem];rfl,T,u,Rm,fun o=>rfl⟩,?_⟩
 clear T u Rm;rintro ρ H ⟨k,m,hk,h3,h4,h6,E,J,M,I,F,T,u,Rm,hm⟩;simp only[go_sem,h3,h4,h6,E,J,M,I,F];refine aB (fun aq=>?_) (fun a8=>?_)
 . have aq:=aZ aq
   obtain⟨v,hv⟩:=aN aq;have b1:=inB aq;have hs:((List.range r.visits.length).take (k+1)).foldl (jM x r) (Bs t s)=jM x r (((List.range r.visits.length).take k).foldl (jM x r) (Bs t s)) k:=by
     rw[bQ (nQ aq),List.foldl_append];rfl
   generalize hA:((List.range r.visits.length).take k).foldl (jM x r) (Bs t s)=A at u hs;have ev:fG r.visits k=v.order:=sN hv;have bc:=ON hv;have bg:=Ys r.visits k v.order;have bb:=SL hv;have bf:=hm v.order;have wm:IntKind.i64.wrap (uT m v.order+1)=uT m v.order+1:=bA (by omega);simp only[go_sem,h3,h4,h6,E,J,M,I,F,aE hv,b1];refine aM fun ar ao=>?_
   have af:i6≠ar:=aO T ao;have ad:ab≠ar:=aO u ao;have ac:jm≠ar:=aO Rm ao;simp only[go_sem,h3,h4,h6,E,J,M,I,F,T,u,Rm];refine aJ (aA _ _ _) (by simp[cU]) ?_;generalize ai:aI (aI _ ar _) ar _=HGi13;replace T:=(congrFun ai.symm i6).trans ((aD _ _ _ _ af).trans ((aD _ _ _ _ af).trans T));replace u:=(congrFun ai.symm ab).trans ((aD _ _ _ _ ad).trans ((aD _ _ _ _ ad).trans u));replace Rm:=(congrFun ai.symm jm).trans ((aD _ _ _ _ ac).trans ((aD _ _ _ _ ac).trans Rm));have au:HGi13 ar=some (⟨119,2,[aK v]⟩):=by rw[<-ai,aA];try rfl
   clear ai ao;simp only[go_sem,h3,h4,h6,E,J,M,I,F,au,T,u,Rm];refine Bz Rm Ej (nG _) (lL _ _) zv3 ?_;rw[AF];simp only[go_sem,h3,h4,h6,E,J,M,I,F,au,wm];refine Hz Rm Ej (nG _) (lL _ _) ?_;rw[Aq];generalize hP:aI _ jm _=HP;replace T:=(congrFun hP.symm i6).trans ((aD _ _ _ _ (by first|exact am|exact ne_jm_i6.symm)).trans T);replace u:=(congrFun hP.symm ab).trans ((aD _ _ _ _ (by first|exact aa|exact ne_jm_i10.symm)).trans u);replace au:=(congrFun hP.symm ar).trans ((aD _ _ _ _ (by first|exact ne_i13_jm|exact ac.symm)).trans au);replace Rm:HP jm=some (vV (C8 m v.order (uT m v.order+1))):=by rw[<-hP,aA];skip
   clear hP;simp only[go_sem,h3,h4,h6,E,J,M,I,F,Rm,T,u,au];have a7:∀o,uT (C8 m v.order (uT m v.order+1)) o=(Ky (r.visits.take (k+1)) o:Nat):=fun o=>by
     rw[JF,bb o,hm o,hm v.order];by_cases e:o=v.order
     . subst e;simp
     . rw[if_neg e,if_neg (fun h=>e h.symm)];rfl
   refine Bz Rm Ej (nG _) (lL _ _) zv3 ?_;rw[AF,JF,if_pos rfl];have a0:(dG v.order x.orders.length||decide (uT m v.order+1>1))=(dG v.order x.orders.length|| !sI r.visits k):=by
     rw[bc,bf]
     congr 1
     rw[Xau];simp;omega
   simp only[go_sem,h3,h4,h6,E,J,M,I,F,au];refine aB (fun hb=>?_) (fun hb=>?_)
   . have az:(dG v.order x.orders.length|| !sI r.visits k)=true:=a0▸hb
     have e:jM x r A k=A:=by unfold jM;rw[ev,if_pos az]
     simp only[go_sem,h3,h4,h6,E,J,M,I,F,aP (show k<=4611686018427387904 by omega)];exact⟨⟨k+1,_,aq,rfl,T,by rw[hs,e];exact u,Rm,a7⟩,by simp only[aF];omega⟩
   have az:(dG v.order x.orders.length|| !sI r.visits k)=false:=a0▸hb;have bd:dG v.order x.orders.length=false:=(Xak.1 az).1;have be:0<=v.order/\v.order<(x.orders.length:Int):=by
     simp only[dG,Xak,decide_eq_false_iff_not]at bd;omega
   obtain⟨o,ho⟩:=aN (show v.order.toNat<x.orders.length by omega);have e:jM x r A k=Eg o r.type (EK o r.type A):=by
     unfold jM;rw[ev,if_neg (by rw[az];simp),ho]
   rw[e]at hs;simp only[go_sem,h3,h4,h6,E,J,M,I,F,au,aE ho,be];refine aM fun ak ap=>?_
   have ah:i6≠ak:=aO T ap;have O:ab≠ak:=aO u ap;have aj:jm≠ak:=aO Rm ap;simp only[go_sem,h3,h4,h6,E,J,M,I,F,T,u,Rm];refine aJ (aA _ _ _) (by simp[oP]) ?_;generalize ag:aI (aI _ ak _) ak _=HGi14;replace T:=(congrFun ag.symm i6).trans ((aD _ _ _ _ ah).trans ((aD _ _ _ _ ah).trans T));replace u:=(congrFun ag.symm ab).trans ((aD _ _ _ _ O).trans ((aD _ _ _ _ O).trans u));replace Rm:=(congrFun ag.symm jm).trans ((aD _ _ _ _ aj).trans ((aD _ _ _ _ aj).trans Rm));have ae:HGi14 ak=some (kA o):=by rw[<-ag,aA];try rfl
   clear ag ap;simp only[go_sem,h3,h4,h6,E,J,M,I,F,ae,T,u,Rm];refine PC.use (GM o.now r.type) ?_;simp only[go_sem,h3,h4,h6,E,J,M,I,F];refine bM (fun an H'=>an 3=.rp (aH x) 0/\an 4=.rp (cX r) 0/\an 6=.op i6 0 0/\an 10=.op ab 0 0/\an 11=.om jm/\an 14=.op ak 0 0/\an 59=.sl (r.visits.map aK)/\an 60=int r.visits.length/\an 61=int k/\H' i6=some (mY cR)/\H' ak=some (kA o)/\H' jm=some (vV (C8 m v.order (uT m v.order+1)))/\H' ab=some (mY (EK o r.type A))) ?_ fun K hK=>aB (fun hb=>?_) (fun hb=>?_)
   rotate_left
   . simp only[go_sem,h3,h4,h6,E,J,M,I,F,u]
     refine eF so3 u ⟨by simp,rfl,by simp⟩ ?_;generalize hP:aI _ ab _=HP;replace T:=(congrFun hP.symm i6).trans ((aD _ _ _ _ (by first|exact Z|exact ne_i10_i6.symm)).trans T);replace ae:=(congrFun hP.symm ak).trans ((aD _ _ _ _ (by first|exact ne_i14_i10|exact O.symm)).trans ae);replace Rm:=(congrFun hP.symm jm).trans ((aD _ _ _ _ (by first|exact ne_jm_i10|exact aa.symm)).trans Rm);replace u:HP ab=some (mY (EK o r.type A)):=by rw[<-hP,aA];(rw[EK,if_pos (show Ob o r.type=true from hb)];rfl)
     clear hP;simp only[go_sem,h3,h4,h6,E,J,M,I,F,u,T,ae,Rm];exact hK _ _ ⟨by simp only[go_sem,h3],by simp only[go_sem,h4],by simp only[go_sem,h6],by simp only[go_sem,E],by simp only[go_sem,J],by simp only[go_sem],by simp only[go_sem,M],by simp only[go_sem,I],by simp only[go_sem,F],T,ae,Rm,u⟩
   . simp only[go_sem]
     refine hK _ _ ⟨by simp only[go_sem,h3],by simp only[go_sem,h4],by simp only[go_sem,h6],by simp only[go_sem,E],by simp only[go_sem,J],by simp only[go_sem],by simp only[go_sem,M],by simp only[go_sem,I],by simp only[go_sem,F],T,ae,Rm,?_⟩;rw[EK,if_neg (by rw[show Ob o r.type=false from hb];simp)];exact u
   clear T u Rm ae h3 h4 h6 E J M I F;rintro ρ H ⟨h3,h4,h6,E,J,aw,M,I,F,T,ae,Rm,u⟩;simp only[go_sem,h3,h4,h6,E,J,aw,M,I,F,ae];refine PC.use (GM o.last r.type) ?_;simp only[go_sem,h3,h4,h6,E,J,aw,M,I,F];refine aB (fun hb=>?_) (fun hb=>?_)
   . simp only[go_sem,h3,h4,h6,E,J,aw,M,I,F,u]
     refine eF so3 u ⟨by simp,rfl,by simp⟩ ?_;generalize hP:aI _ ab _=HP;replace T:=(congrFun hP.symm i6).trans ((aD _ _ _ _ (by first|exact Z|exact ne_i10_i6.symm)).trans T);replace ae:=(congrFun hP.symm ak).trans ((aD _ _ _ _ (by first|exact ne_i14_i10|exact O.symm)).trans ae);replace Rm:=(congrFun hP.symm jm).trans ((aD _ _ _ _ (by first|exact ne_jm_i10|exact aa.symm)).trans Rm);replace u:HP ab=some (mY (Eg o r.type (EK o r.type A))):=by rw[<-hP,aA];(rw[Eg,if_pos (show NJ o r.type=true from hb)];rfl)
     clear hP;simp only[go_sem,h3,h4,h6,E,J,aw,M,I,F,aP (show k<=4611686018427387904 by omega),u,T,ae,Rm];exact⟨⟨k+1,C8 m v.order (uT m v.order+1),aq,rfl,by rw[hs],rfl,a7⟩,by simp only[aF];omega⟩
   . simp only[go_sem,h3,h4,h6,E,J,aw,M,I,F,aP (show k<=4611686018427387904 by omega)]
     exact⟨⟨k+1,_,aq,rfl,T,by rw[hs,Eg,if_neg (by rw[show NJ o r.type=false from hb];simp)];exact u,Rm,a7⟩,by simp only[aF];omega⟩
 . have a8:=bC hk a8
   subst a8;rw[Xan (by simp)]at u;simp only[go_sem,h6,E,u];refine aJ T (by simp[mL]) ?_;simp only[go_sem,h6];exact .refl _
def Ea(x:Instance)(r:Route)(v:Visit):Bool:=match x.types[r.type.toNat]?,x.orders[v.order.toNat]? with
 | some t,some o=>sZ t.skills o.skills
 | _,_=>false
def En(x:Instance)(r:Route):Int:=if(r.visits.any fun v=> !Ea x r v)=true then 18 else 0
theorem Z1(x:Instance)(r:Route)(hr:r.visits.length<=1048576)(ab:0<=r.type/\r.type<(x.types.length:Int))(ac:∀v∈r.visits,0<=v.order/\v.order<(x.orders.length:Int)):
   PC prog 273 [.agg (aH x),.agg (cX r)] (int (En x r)):=by
 obtain⟨t,ht⟩:=aN (show r.type.toNat<x.types.length by omega);refine pcd Tryz.func273 ?_;unfold Tryz.f273;simp only[gdS];simp only[go_sem];refine⟨fun ρ _=>∃k:Nat,k<=r.visits.length/\ρ 2=.rp (aH x) 0/\ρ 3=.rp (cX r) 0/\ρ 8=.sl (r.visits.map aK)/\ρ 9=int r.visits.length/\ρ 10=int k/\∀v∈r.visits.take k,(!Ea x r v)=false,fun ρ _=>r.visits.length-aV (ρ 10),⟨0,Xac _,rfl,rfl,rfl,by simp only[go_sem,Xaa],rfl,by simp⟩,?_⟩;rintro ρ H ⟨k,hk,J,I,F,M,u,hz⟩;simp only[go_sem,J,I,F,M,u];refine aB (fun E=>?_) (fun T=>?_)
 . have E:=aZ E
   obtain⟨v,hv⟩:=aN E;have b1:=inB E;have ad:=ac v (Xae hv);obtain⟨o,ho⟩:=aN (show v.order.toNat<x.orders.length by omega);have es:Ea x r v=sZ t.skills o.skills:=by unfold Ea;rw[ht,ho]
   simp only[go_sem,J,I,F,M,u,aE hv,b1];refine aM fun Z aa=>?_
   simp only[go_sem,J,I,F,M,u];refine aJ (aA _ _ _) (by simp[cU]) ?_;generalize O:aI (aI _ Z _) Z _=HGi6;have R6:HGi6 Z=some (⟨119,2,[aK v]⟩):=by rw[<-O,aA];try rfl
   clear O aa;simp only[go_sem,J,I,F,M,u,R6];refine eN [Z] [(0,true),(1,true),(2,true),(3,true),(4,true),(5,true),(6,true),(7,true),(8,true),(9,true),(10,true),(11,true),(12,true),(13,true),(14,true)] (by simp[R6]) (by kernel_rfl) fun Hp Hr hp ae _ af=>?_
   have P6:=(hp Z (by simp)).trans R6;simp only[go_sem,J,I,F,M,u,P6,aE ht,ab,aE ho,ad];refine⟨_,(aeG t o.skills).q rfl,?_⟩;simp only[go_sem,J,I,F,M,u];refine eR fun _ Hm _ _=>?_
   simp only[go_sem,J,I,F,M,u];refine aB (fun hb=>?_) (fun hb=>?_)
   . simp only[go_sem]
     exact bW (by unfold En;rw[if_pos (Xbe.2 ⟨v,Xae hv,by rw[es];exact hb⟩)])
   . simp only[go_sem,J,I,F,M,u,aP (show k<=4611686018427387904 by omega)]
     exact⟨⟨k+1,E,rfl,aT (p:=fun v=>(!Ea x r v)=false) hv (by rw[es];exact hb) hz⟩,by simp only[aF];omega⟩
 . have T:=bC hk T
   subst T;rw[Xag]at hz;simp only[go_sem];exact bW (by unfold En;rw[if_neg (by rw[BA hz];simp)])
def mR(x:Instance)(r:Route):Sheet×Score×Int:=
 if dG r.type x.types.length=true then(cA,cR,2)
 else if(vL x r.visits != 0)=true then(cA,cR,vL x r.visits)
 else if(En x r != 0)=true then(cA,cR,En x r)
 else if(AI x r != 0)=true then(cA,cR,AI x r)
 else if((nA x r).2 != 0)=true then(cA,cR,(nA x r).2)
 else((nA x r).1,rI x r (nA x r).1,0)
structure EvalB(x:Instance):Prop where
 net:NetOk x.net
 load:LoadB x
 apart:x.apart.length<=1048576
 before:x.before.length<=1048576
abbrev fnsL:List (List AV):=[[.v (.func (.func 272) #[] #[])],[.v (.func (.func 273) #[] #[])],[.v (.func (.func 274) #[] #[])]]
theorem O9(x:Instance)(r:Route)(hx:EvalB x)(hr:r.visits.length<=1048575):PC prog 240 [.agg (aH x),.agg (cX r)] (.tup [.agg (cM (mR x r).1),.agg (eY (mR x r).2.1),int (mR x r).2.2]):=by
 refine pcd Tryz.func240 ?_;unfold Tryz.f240;simp only[gdS];simp only[go_sem];refine aM fun i4 am=>?_
 generalize ae:aI _ i4 _=HGi4;have E:HGi4 i4=some (gF (cM cA)):=by rw[<-ae,aA];try rfl
 clear ae am;simp only[go_sem,E];refine aM fun i5 af=>?_
 have u:i4≠i5:=aO E af;generalize ad:aI _ i5 _=HGi5;replace E:=(congrFun ad.symm i4).trans ((aD _ _ _ _ u).trans E);have I:HGi5 i5=some (mY cR):=by rw[<-ad,aA];try rfl
 clear ad af;simp only[go_sem,I,E];refine aB (fun h1=>?_) (fun h1=>?_)
 . have h1:dG r.type x.types.length=true:=h1
   simp only[go_sem];refine aJ E (by simp) ?_;generalize F:aI _ i4 _=HP;replace I:=(congrFun F.symm i5).trans ((aD _ _ _ _ (by first|exact ne_i5_i4|exact u.symm)).trans I);replace E:HP i4=some (gF (cM cA)):=by rw[<-F,aA];rfl
   clear F;simp only[go_sem,E,I];refine aJ I (by simp) ?_;generalize F:aI _ i5 _=HP;replace E:=(congrFun F.symm i4).trans ((aD _ _ _ _ (by first|exact u|exact ne_i5_i4.symm)).trans E);replace I:HP i5=some (mY cR):=by rw[<-F,aA];rfl
   clear F;simp only[go_sem,I,E];have e:mR x r=(cA,cR,2):=by unfold mR;rw[if_pos h1]
   rw[e];exact .refl _
 have c1:¬dG r.type x.types.length=true:=by rw[show dG r.type x.types.length=false from h1];simp
 have an:0<=r.type/\r.type<(x.types.length:Int):=by
   have h1:dG r.type x.types.length=false:=h1;simp only[dG,Xak,decide_eq_false_iff_not]at h1;omega
 simp only[go_sem];refine⟨fun ρ H=>∃(k:Nat),k<=3/\ρ 2=.rp (aH x) 0/\ρ 3=.rp (cX r) 0/\ρ 4=.op i4 0 0/\ρ 5=.op i5 0 0/\ρ 25=.sl fnsL/\ρ 26=int 3/\ρ 27=int k/\H i4=some (gF (cM cA))/\H i5=some (mY cR)/\(0<k->vL x r.visits=0)/\(1<k->En x r=0)/\(2<k->AI x r=0),fun ρ _=>3-aV (ρ 27),
   ⟨0,Xac _,by simp only[go_sem],by simp only[go_sem],by simp only[go_sem],by simp only[go_sem],by simp only[go_sem],by simp only[go_sem];rfl,by simp only[go_sem];rfl,E,I,fun h=>absurd h (by decide),fun h=>absurd h (by decide),fun h=>absurd h (by decide)⟩,?_⟩
 clear E I;rintro ρ H ⟨k,hk,h2,h3,h4,h5,M,J,O,E,I,q1,q2,q3⟩;simp only[go_sem,h2,h3,h4,h5,M,J,O];refine aB (fun al=>?_) (fun ah=>?_)
 . have al:k<3:=by simp at al;omega
   have hc:k=0\/k=1\/k=2:=by omega
   rcases hc with rfl|rfl|rfl
   . simp only[go_sem,h2,h3,h4,h5,M,J,O]
     refine⟨by decide,PC.use (EH x r (by omega) hx.apart hx.before) ?_⟩;simp only[go_sem,h2,h3,h4,h5,M,J,O];refine aB (fun hb=>?_) (fun hb=>?_)
     . have e:mR x r=(cA,cR,vL x r.visits):=by unfold mR;rw[if_neg c1,if_pos hb]
       simp only[go_sem,h2,h3,h4,h5,M,J,O];refine aJ E (by simp) ?_;generalize F:aI _ i4 _=HP;replace I:=(congrFun F.symm i5).trans ((aD _ _ _ _ (by first|exact ne_i5_i4|exact u.symm)).trans I);replace E:HP i4=some (gF (cM cA)):=by rw[<-F,aA];rfl
       clear F;simp only[go_sem,h2,h3,h4,h5,M,J,O,E,I];refine aJ I (by simp) ?_;generalize F:aI _ i5 _=HP;replace E:=(congrFun F.symm i4).trans ((aD _ _ _ _ (by first|exact u|exact ne_i5_i4.symm)).trans E);replace I:HP i5=some (mY cR):=by rw[<-F,aA];rfl
       clear F;simp only[go_sem,h2,h3,h4,h5,M,J,O,I,E];rw[e];exact .refl _
     . simp only[go_sem,h2,h3,h4,h5,M,J,O]
       exact⟨⟨1,by decide,rfl,E,I,fun _=>by simpa using hb,fun h=>absurd h (by decide),fun h=>absurd h (by decide)⟩,by simp only[aF];decide⟩
   . simp only[go_sem,h2,h3,h4,h5,M,J,O]
     refine⟨by decide,PC.use (Z1 x r (by omega) an (WF (q1 (by decide)))) ?_⟩;simp only[go_sem,h2,h3,h4,h5,M,J,O];refine aB (fun hb=>?_) (fun hb=>?_)
     . have e:mR x r=(cA,cR,En x r):=by unfold mR;rw[if_neg c1,q1 (by decide),if_neg (by decide),if_pos hb]
       simp only[go_sem,h2,h3,h4,h5,M,J,O];refine aJ E (by simp) ?_;generalize F:aI _ i4 _=HP;replace I:=(congrFun F.symm i5).trans ((aD _ _ _ _ (by first|exact ne_i5_i4|exact u.symm)).trans I);replace E:HP i4=some (gF (cM cA)):=by rw[<-F,aA];rfl
       clear F;simp only[go_sem,h2,h3,h4,h5,M,J,O,E,I];refine aJ I (by simp) ?_;generalize F:aI _ i5 _=HP;replace E:=(congrFun F.symm i4).trans ((aD _ _ _ _ (by first|exact u|exact ne_i5_i4.symm)).trans E);replace I:HP i5=some (mY cR):=by rw[<-F,aA];rfl
       clear F;simp only[go_sem,h2,h3,h4,h5,M,J,O,I,E];rw[e];exact .refl _
     . simp only[go_sem,h2,h3,h4,h5,M,J,O]
       exact⟨⟨2,by decide,rfl,E,I,fun _=>q1 (by decide),fun _=>by simpa using hb,fun h=>absurd h (by decide)⟩,by simp only[aF];decide⟩
   . simp only[go_sem,h2,h3,h4,h5,M,J,O]
     refine⟨by decide,PC.use (Zc x r hx.load hr hx.apart hx.before) ?_⟩;simp only[go_sem,h2,h3,h4,h5,M,J,O];refine aB (fun hb=>?_) (fun hb=>?_)
     . have e:mR x r=(cA,cR,AI x r):=by unfold mR;rw[if_neg c1,q1 (by decide),if_neg (by decide),q2 (by decide),if_neg (by decide),if_pos hb]
       simp only[go_sem,h2,h3,h4,h5,M,J,O];refine aJ E (by simp) ?_;generalize F:aI _ i4 _=HP;replace I:=(congrFun F.symm i5).trans ((aD _ _ _ _ (by first|exact ne_i5_i4|exact u.symm)).trans I);replace E:HP i4=some (gF (cM cA)):=by rw[<-F,aA];rfl
       clear F;simp only[go_sem,h2,h3,h4,h5,M,J,O,E,I];refine aJ I (by simp) ?_;generalize F:aI _ i5 _=HP;replace E:=(congrFun F.symm i4).trans ((aD _ _ _ _ (by first|exact u|exact ne_i5_i4.symm)).trans E);replace I:HP i5=some (mY cR):=by rw[<-F,aA];rfl
       clear F;simp only[go_sem,h2,h3,h4,h5,M,J,O,I,E];rw[e];exact .refl _
     . simp only[go_sem,h2,h3,h4,h5,M,J,O]
       exact⟨⟨3,by decide,rfl,E,I,fun _=>q1 (by decide),fun _=>q2 (by decide),fun _=>by simpa using hb⟩,by simp only[aF];decide⟩
 have ah:k=3:=by simp at ah;omega
 subst ah;have e1:=q1 (by decide);have e2:=q2 (by decide);have e3:=q3 (by decide);have eE:mR x r=if((nA x r).2 != 0)=true then(cA,cR,(nA x r).2)else((nA x r).1,rI x r (nA x r).1,0):=by
   unfold mR;rw[if_neg c1,e1,e2,e3];rfl
 rw[eE];simp only[go_sem,h2,h3,h4,h5];refine PC.use (aeQ x r hx.net (by omega)) ?_;simp only[go_sem,h2,h3,h4,h5];refine aM fun ab ac=>?_
 have T:i4≠ab:=aO E ac;have Z:i5≠ab:=aO I ac;simp only[go_sem,h2,h3,h4,h5,E,I];refine aJ (aA _ _ _) (by simp[gW]) ?_;generalize aa:aI (aI _ ab _) ab _=HGi10;replace E:=(congrFun aa.symm i4).trans ((aD _ _ _ _ T).trans ((aD _ _ _ _ T).trans E));replace I:=(congrFun aa.symm i5).trans ((aD _ _ _ _ Z).trans ((aD _ _ _ _ Z).trans I));have ag:HGi10 ab=some (gF (cM (nA x r).1)):=by rw[<-aa,aA];try rfl
 clear aa ac;simp only[go_sem,h2,h3,h4,h5,ag,E,I];refine aB (fun hb=>?_) (fun hb=>?_)
 . rw[if_pos hb]
   simp only[go_sem,h2,h3,h4,h5];refine aJ E (by simp) ?_;generalize F:aI _ i4 _=HP;replace I:=(congrFun F.symm i5).trans ((aD _ _ _ _ (by first|exact ne_i5_i4|exact u.symm)).trans I);replace E:HP i4=some (gF (cM cA)):=by rw[<-F,aA];rfl
   clear F;simp only[go_sem,h2,h3,h4,h5,E,I];refine aJ I (by simp) ?_;generalize F:aI _ i5 _=HP;replace E:=(congrFun F.symm i4).trans ((aD _ _ _ _ (by first|exact u|exact ne_i5_i4.symm)).trans E);replace I:HP i5=some (mY cR):=by rw[<-F,aA];rfl
   clear F;simp only[go_sem,h2,h3,h4,h5,I,E];exact .refl _
 . rw[if_neg (by rw[hb];simp)]
   simp only[go_sem,h2,h3,h4,h5];refine eN [ab] [(0,true),(1,true),(2,true),(3,true),(4,true),(5,false),(6,false),(7,false)] (by simp[ag]) (by kernel_rfl) fun Hp Hr hp ak _ ao=>?_
   have ai:=(hp ab (by simp)).trans ag;have P4:=(ak i4 (by simp[T])).trans E;have P5:=(ak i5 (by simp[Z])).trans I;simp only[go_sem,h2,h3,h4,h5,ai];refine⟨_,(Xs x r (nA x r).1 (by omega)).q rfl,?_⟩;simp only[go_sem,h2,h3,h4,h5,ai];refine aJ P4 (by simp[gW]) ?_;generalize F:aI _ i4 _=HP;replace P5:=(congrFun F.symm i5).trans ((aD _ _ _ _ (by first|exact ne_i5_i4|exact u.symm)).trans P5);replace P4:HP i4=some (gF (cM (nA x r).1)):=by rw[<-F,aA];rfl
   clear F;simp only[go_sem,h2,h3,h4,h5,P4,P5];refine aJ P5 (by simp[mL]) ?_;generalize F:aI _ i5 _=HP;replace P4:=(congrFun F.symm i4).trans ((aD _ _ _ _ (by first|exact u|exact ne_i5_i4.symm)).trans P4);replace P5:HP i5=some (mY (rI x r (nA x r).1)):=by rw[<-F,aA];rfl
   clear F;simp only[go_sem,h2,h3,h4,h5,P5,P4];refine eR fun _ Hm _ aj=>?_
   have M4:=(aj i4 (by simp[T])).trans P4;have M5:=(aj i5 (by simp[Z])).trans P5;simp only[go_sem,h4,h5,M4,M5];exact .refl _
end Go.Proofs.YtohmomanmikphaaGreatDoor.Sq
end
