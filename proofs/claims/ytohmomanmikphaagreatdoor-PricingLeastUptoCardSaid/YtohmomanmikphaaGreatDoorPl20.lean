import Derived.Test.YtohmomanmikphaaGreatDoorPl18
import Derived.Test.YtohmomanmikphaaGreatDoorPl19
set_option linter.unusedSimpArgs false
set_option linter.unusedVariables false
set_option maxRecDepth 100000
section
namespace Go.Proofs.YtohmomanmikphaaGreatDoor.Sq
open Go.Proofs.Tryz(prog)
open Go.Aw Go.Aw.D Go.Proofs Ty
open Go.Proofs.YtohmomanmikphaaGreatDoor.Nu (ltB geB)
open Mv (cH dK NC.pc aZ)
def aiR(s:Score):Int:=IntKind.i64.wrap (IntKind.i64.wrap (IntKind.i64.wrap (IntKind.i64.wrap (IntKind.i64.wrap (IntKind.i64.wrap (s.cost*16)+s.moved)*16)+s.other)*65536)+s.work)
def vN(s:Score):Int×Int:=if(decide (s.cost<0)||decide (s.moved<0)||decide (s.other<0)||decide (s.work<0))=true then(0,2)
 else if(decide (s.cost>1073741824)||decide (s.moved>=16)||decide (s.other>=16)||decide (s.work>=65536))=true then(0,4)else(aiR s,0)
theorem VX(s:Score):PC prog 277 [.agg (fM s)] (.agg (fM s)):=by
 refine pcd Tryz.func277 ?_;unfold Tryz.f277;simp only[gdS];simp only[go_sem];refine aK fun j u=>?_
 simp only[go_sem];refine aJ (aB _ _ _) (by simp) ?_;simp only[go_sem];exact .refl _
theorem U7(s:Score):PC prog 241 [.agg (fM s)] (.tup [int (vN s).1,int (vN s).2]):=by
 refine pcd Tryz.func241 ?_;unfold Tryz.f241;simp only[gdS];simp only[go_sem];refine PC.use (VX s) ?_;simp only[go_sem];refine aK fun j aa=>?_
 simp only[go_sem];refine aJ (aB _ _ _) (by simp[nG]) ?_;generalize T:aI (aI _ j _) j _=HGj;have R:HGj j=some (⟨293,4,[fM s]⟩):=by rw[<-T,aB];try rfl
 clear T aa;simp only[go_sem,R];refine⟨fun ρ H=>∃(k:Nat),k<=4/\ρ 1=.rp (fM s) 0/\ρ 9=.agg (fM s)/\ρ 10=int k/\(∀e∈[s.cost,s.moved,s.other,s.work].take k,¬e<0),fun ρ _=>4-aT (ρ 10),⟨0,Xab _,by simp only[go_sem],by simp only[go_sem],(by simp only[go_sem];rfl),by simp⟩,?_⟩;rintro ρ H ⟨k,hk,I,J,u,M⟩;simp only[go_sem,I,J,u];refine aA (fun E=>?_) (fun F=>?_)
 . have E:k<4:=by simp at E;omega
   obtain⟨e,Z⟩:=aN (l:=[s.cost,s.moved,s.other,s.work]) (show k<[s.cost,s.moved,s.other,s.work].length from E);have hg:(fM s).getD k .any=int e:=by
     have:fM s=[s.cost,s.moved,s.other,s.work].map fun n=>int n:=rfl
     rw[this,List.getD,List.getElem?_map,Z];rfl
   simp only[go_sem,I,J,u];refine⟨by omega,by omega,?_⟩;rw[Nat.mul_one,hg];simp only[go_sem,I,J,u];refine aA (fun O=>?_) (fun O=>?_)
   . simp only[go_sem]
     have hm:=Xae Z;simp only[Xbn,List.not_mem_nil,or_false]at hm;have e:vN s=(0,2):=if_pos (by simp at O |-;rcases hm with h|h|h|h <;> omega);rw[e];exact .refl _
   . simp only[go_sem,I,J,u,aP (show k<=4611686018427387904 by omega)]
     refine⟨⟨k+1,E,rfl,aZ (p:=fun e:Int=>¬e<0) Z (by simpa using O) M⟩,by simp only[aE];omega⟩
 have F:k=4:=by simp at F;omega
 subst F;have O:¬(decide (s.cost<0)||decide (s.moved<0)||decide (s.other<0)||decide (s.work<0))=true:=by
   have h0:=M s.cost (by simp);have h1:=M s.moved (by simp);have h2:=M s.other (by simp);have h3:=M s.work (by simp);simp;omega
 unfold vN;rw[if_neg O];simp only[go_sem,I,J,u];refine aA (fun hc=>?_) (fun hc=>?_)
 . rw[if_pos hc]
   simp only[go_sem];exact .refl _
 rw[if_neg (by rw[hc];simp)];simp only[go_sem,I,J,u];exact .refl _
def gM(x:Instance)(r:Route):Int×Int:=if((nS x r).2.2 != 0)=true then(0,(nS x r).2.2)else vN (nS x r).2.1
theorem Xg(x:Instance)(r:Route)(hx:EvalB x)(hr:r.visits.length<=1048575):PC prog 187 [.agg (aG x),.agg (dL r)] (.tup [int (gM x r).1,int (gM x r).2]):=by
 have hw:=U7 (nS x r).2.1;refine pcd Tryz.func187 ?_;unfold Tryz.f187;simp only[gdS];simp only[go_sem];refine PC.use (PW x r hx hr) ?_;simp only[go_sem];refine aK fun T aa=>?_
 generalize I:aI _ T _=HGi6;have F:HGi6 T=some (iC (cX cP)):=by rw[<-I,aB];try rfl
 clear I aa;simp only[go_sem,F];refine aK fun Z J=>?_
 have u:T≠Z:=aQ F J;generalize E:aI _ Z _=HGi7;replace F:=(congrFun E.symm T).trans ((aD _ _ _ _ u).trans F);have M:HGi7 Z=some (oG dF):=by rw[<-E,aB];try rfl
 clear E J;simp only[go_sem,M,F];refine aJ F (by simp[iU]) ?_;generalize O:aI _ T _=HP;replace M:=(congrFun O.symm Z).trans ((aD _ _ _ _ (by first|exact ne_i7_i6|exact u.symm)).trans M);replace F:HP T=some (iC (cX (nS x r).1)):=by rw[<-O,aB];rfl
 clear O;simp only[go_sem,F,M];refine aJ M (by simp[nG]) ?_;generalize O:aI _ Z _=HP;replace F:=(congrFun O.symm T).trans ((aD _ _ _ _ (by first|exact u|exact ne_i7_i6.symm)).trans F);replace M:HP Z=some (oG (nS x r).2.1):=by rw[<-O,aB];rfl
 clear O;simp only[go_sem,M,F];unfold gM;refine aA (fun hb=>?_) (fun hb=>?_)
 . rw[if_pos hb]
   simp only[go_sem];exact .refl _
 . rw[if_neg (by rw[hb];simp)]
   simp only[go_sem,M];refine PC.use hw ?_;simp only[go_sem];exact .refl _
structure Sta where
 ready:Int
 driven:Int
def fZ(s:Sta):List AV:=[int s.ready,int s.driven]
theorem FQ(c:Sta):(fZ c).length=2:=(rfl)
theorem Wc(c:Sta):(fZ c).getD 0 .any=int c.ready:=(rfl)
theorem Xf(c:Sta):(fZ c).getD 1 .any=int c.driven:=(rfl)
theorem PX(c:Sta):(fZ c).take 2=fZ c:=(rfl)
attribute [go_sem] FQ Wc Xf PX
abbrev mO(l:List Sta):Row:=⟨232,2,l.map fZ⟩
def Fl(s u:Sta):Bool:=s.ready == u.ready&&(s.driven == u.driven&&true)
theorem VA(l:List Sta)(v:Sta)(hl:l.length<=1048576):PC prog 285 [.sl (l.map fZ),.agg (fZ v)] (int (nA (Fl v) l 0)):=by
 refine pcd Tryz.func285 ?_;unfold Tryz.f285;simp only[gdS];simp only[go_sem];refine⟨fun ρ _=>∃k:Nat,k<=l.length/\ρ 0=.sl (l.map fZ)/\ρ 3=.rp (fZ v) 0/\ρ 7=int l.length/\ρ 8=int k/\∀u∈l.take k,Fl v u=false,fun ρ _=>l.length-aT (ρ 8),⟨0,Xab _,rfl,rfl,rfl,rfl,by simp⟩,?_⟩;rintro ρ H ⟨k,hk,h0,T,M,J,O⟩;simp only[go_sem,h0,T,M,J];refine aA (fun E=>?_) (fun I=>?_)
 . have E:=bD E
   obtain⟨u,Z⟩:=aN E;have b1:=inB E;simp only[go_sem,h0,T,M,J];refine dJ (by rfl) (by kernel_rfl) ?_;simp only[go_sem,h0,T,M,J,aF Z,b1];refine aA (fun F=>?_) (fun F=>?_)
   . have F:Fl v u=true:=F
     simp only[go_sem,J];exact cH (by rw[nQ O Z F];omega)
   . have F:Fl v u=false:=F
     simp only[go_sem,h0,T,M,J,aP (show k<=4611686018427387904 by omega)];exact⟨⟨k+1,E,rfl,aZ (p:=fun u=>Fl v u=false) Z F O⟩,by simp only[aE];omega⟩
 . have I:=bF hk I
   subst I;rw[Xag]at O;simp only[go_sem];exact cH (by rw[lM O])
theorem DP(l:List Sta)(v:Sta)(u:l.length<=1048576):PC prog 246 [.sl (l.map fZ),.agg (fZ v)] (boo (l.any (Fl v))):=by
 refine pcd Tryz.func246 ?_;unfold Tryz.f246;simp only[gdS];simp only[go_sem];refine PC.use (VA l v u) ?_;simp only[go_sem];exact dK (pP l 0 (Xch _))
def zX(l:List Sta)(s:Sta):List Sta:=if l.any (Fl s)=true then l else l++[s]
theorem Ck(l:List Sta)(s:Sta):(zX l s).length<=l.length+1:=by unfold zX;split <;> simp
theorem Yt(l:List Visit)(u:l.length<=1048576):PC prog 193 [.sl (l.map aL)] (.cl (l.map aL)):=by
 refine pcd Tryz.func193 ?_;unfold Tryz.f193;simp only[gdS];simp only[go_sem];exact .refl _
theorem ahZ(s:Sta):NC prog 194 [.v (.slice none 0 0),.agg (fZ s)] (mO [s]) .os:=by
 refine ncb (fun _=>false) Tryz.func194 ?_;unfold Tryz.f194;simp only[gdS];simp only[go_sem];refine bA.nil0 (PC.use (DP [] s (by decide)) ?_);simp only[go_sem];refine aA (fun u=>(by cases u)) (fun _=>?_);simp only[go_sem];refine Y4 afQ (.inl rfl) (by simp) (by simp only[go_sem]) (by simp) fun j E=>?_
 simp only[go_sem];exact⟨j,rfl,aB _ _ _⟩
abbrev afN(j:Nat)(H:aH)(j':Nat)(H':aH):Prop:=∀k row,k≠j->H k=some row->k≠j'/\H' k=some row
theorem PJ(l:List Sta)(s:Sta){H:aH}{j:Nat}(R:H j=some (mO l))(T:l.length<=1000000){K:AV->aH->Prop}(O:∀E H',H' E=some (mO (zX l s))->afN j H E H'->K (.os E) H'):
   bA prog 194 [.os j,.agg (fZ s)] H K:=by
 refine bA.body (c:=Tryz.f194.body.getD .skip) (fun _=>false) mixed Tryz.func194 rfl (by kernel_rfl) ?_;unfold Tryz.f194;simp only[gdS];simp only[go_sem];refine dN.use ⟨[.sl (l.map fZ),.agg (fZ s)],.cons _ _ _ _ (.row _ _ _ R (ConvE.refl _)) (ConvL.refl _),DP l s (by omega),rfl⟩ ?_;simp only[go_sem];refine aA (fun I=>?_) (fun I=>?_)
 . simp only[go_sem]
   refine O j H (by unfold zX;rw[if_pos I];exact R) fun k row F h=>⟨F,h⟩
 . simp only[go_sem]
   refine aX R ⟨rfl,rfl⟩ (by simp only[go_sem]) (by simp only[Xaa,Xad,List.length_nil];omega) (fun M J=>?_);simp only[go_sem];refine O M _ ?_ fun k row F h=>?_
   . rw[aB]
     unfold zX;rw[if_neg (by rw[I];simp)];refine congrArg (fun l=>some (⟨232,2,l⟩:Row)) ?_;rw[Xam];rfl
   . have u:k≠M:=fun e=>by subst e;rw[J]at h;cases h
     exact⟨u,by rw[aD _ _ _ _ u,aD _ _ _ _ F];exact h⟩
structure Sr where
 x:Instance
 kind:Nat
 set:Int
 total:Nat
 best:Column
 found:Bool
def sT(s:Sr):List AV:=aG s.x++([int (s.kind:Nat),int s.set,int (s.total:Nat)]++(aS s.best++[boo s.found]))
section
variable(s:Sr)
theorem oV:(sT s).length=17:=(rfl)
theorem abO:(sT s).getD 2 .any=.sl (s.x.types.map bC):=(rfl)
theorem abX:(sT s).getD 3 .any=.sl (s.x.orders.map bE):=(rfl)
theorem abK:(sT s).getD 6 .any=int (s.kind:Nat):=(rfl)
theorem Zr:(sT s).getD 7 .any=int s.set:=(rfl)
theorem acX:(sT s).getD 8 .any=int (s.total:Nat):=(rfl)
theorem WE:(sT s).getD 16 .any=boo s.found:=(rfl)
theorem aeA:(sT s).take 6=aG s.x:=(rfl)
theorem Us:(sT s).take 2=aY s.x.net:=(rfl)
theorem Pg:((sT s).drop 9).take 7=aS s.best:=(rfl)
theorem Tj:(sT s).take 17=sT s:=(rfl)
end
attribute [go_sem] oV abO abX abK Zr acX WE aeA Us Pg Tj
abbrev jX(s:Sr):Row:=⟨170,17,[sT s]⟩
def nR(t:VType)(l:List Sta)(d dr:Int):List Sta:=zX (zX l ⟨d,dr⟩) ⟨W (d+t.rest),0⟩
theorem FL(t:VType)(l:List Sta)(d u:Int):(nR t l d u).length<=l.length+2:=by
 unfold nR;have h1:=Ck (zX l ⟨d,u⟩) ⟨W (d+t.rest),0⟩;have E:=Ck l ⟨d,u⟩;omega
theorem Vj(s:Sr)(t:VType)(l:List Sta)(d F:Int){H:aH}{u j:Nat}(ht:s.x.types[s.kind]?=some t)(RS:H u=some (jX s))(R:H j=some (mO l))(hl:l.length<=900000){K:AV->aH->Prop}
   (hK:∀j' H',H' j'=some (mO (nR t l d F))->afN j H j' H'->K (.os j') H'):bA prog 120 [.op u 0 0,.os j,int d,int F] H K:=by
 have ac:u≠j:=fun e=>by subst e;rw[RS]at R;cases R
 have hk:=(List.getElem?_eq_some_iff.1 ht).1;have b1:=inB hk;have g1:=aF (f:=bC) ht;have h1:=Ck l ⟨d,F⟩;refine bA.body (c:=Tryz.f120.body.getD .skip) (fun _=>false) mixed Tryz.func120 rfl (by kernel_rfl) ?_;unfold Tryz.f120;simp only[gdS];simp only[go_sem];refine PJ l ⟨d,F⟩ R (by omega) fun j1 H1 R1 T=>?_
 obtain⟨n1,M⟩:=T u _ ac RS;simp only[go_sem];refine fE [u] [(0,true),(1,true),(2,true),(3,true),(4,true),(5,true),(6,true),(7,true),(8,true),(9,true),(10,true),(11,true),(12,true),(13,true),(14,true),(15,true),(16,false),(17,true)] (by simp[M]) (by kernel_rfl) fun Hp Hr hp hr _ ae=>?_
 have E:=(hp u (by simp)).trans M;simp only[go_sem,g1,b1,E];have ab:Hr j1=some (mO (zX l ⟨d,F⟩)):=(hr j1 (by simpa using n1.symm)).trans R1;refine PJ (zX l ⟨d,F⟩) ⟨W (d+t.rest),0⟩ ab (by omega) fun j2 H2 R2 aa=>?_
 simp only[go_sem];refine fun h0 Hm ad I=>?_
 have O:j2≠u:=fun e=>by have:=h0 u (by simp);rw[<-e,R2]at this;cases this
 simp only[go_sem];refine hK j2 Hm ((I j2 (by simpa using O)).trans R2) fun k row Z J=>?_
 obtain⟨m1,m2⟩:=T k row Z J;by_cases e:k=u
 . subst e
   exact⟨O.symm,(ad k (by simp)).trans m2⟩
 . obtain⟨m3,m4⟩:=aa k row m1 ((hr k (by simpa using e)).trans m2)
   exact⟨m3,(I k (by simpa using e)).trans m4⟩
theorem WT(s:Sr)(t:VType)(d E:Int){H:aH}{F:Nat}(ht:s.x.types[s.kind]?=some t)(RS:H F=some (jX s)){K:AV->aH->Prop}
   (hK:∀j' H',H' j'=some (mO (nR t [] d E))->(∀k row,H k=some row->k≠j'/\H' k=some row)->K (.os j') H'):bA prog 120 [.op F 0 0,.v (.slice none 0 0),int d,int E] H K:=by
 have hk:=(List.getElem?_eq_some_iff.1 ht).1;have b1:=inB hk;have g1:=aF (f:=bC) ht;refine bA.body (c:=Tryz.f120.body.getD .skip) (fun _=>false) mixed Tryz.func120 rfl (by kernel_rfl) ?_;unfold Tryz.f120;simp only[gdS];simp only[go_sem];refine NC.use (ahZ ⟨d,E⟩) fun u O=>?_
 have n1:F≠u:=fun e=>by rw[e,O]at RS;cases RS
 have T:aI H u (some (mO [⟨d,E⟩])) F=some (jX s):=(aD _ _ _ _ n1).trans RS;have R1:aI H u (some (mO [⟨d,E⟩])) u=some (mO [⟨d,E⟩]):=aB _ _ _;have ad:∀k row,H k=some row->k≠u/\aI H u (some (mO [⟨d,E⟩])) k=some row:=fun k row h=>by
   have aa:k≠u:=fun e=>by rw[e,O]at h;cases h
   exact⟨aa,(aD _ _ _ _ aa).trans h⟩
 generalize aI H u (some (mO [⟨d,E⟩]))=H1 at *;simp only[go_sem];refine fE [F] [(0,true),(1,true),(2,true),(3,true),(4,true),(5,true),(6,true),(7,true),(8,true),(9,true),(10,true),(11,true),(12,true),(13,true),(14,true),(15,true),(16,false),(17,true)] (by simp[T]) (by kernel_rfl) fun Hp Hr hp hr _ af=>?_
 have I:=(hp F (by simp)).trans T;simp only[go_sem,g1,b1,I];have ac:Hr u=some (mO [⟨d,E⟩]):=(hr u (by simpa using n1.symm)).trans R1;refine PJ [⟨d,E⟩] ⟨W (d+t.rest),0⟩ ac (by simp) fun j2 H2 R2 ab=>?_
 simp only[go_sem];refine fun h0 Hm ae J=>?_
 have Z:j2≠F:=fun e=>by have:=h0 F (by simp);rw[<-e,R2]at this;cases this
 simp only[go_sem];refine hK j2 Hm ((J j2 (by simpa using Z)).trans R2) fun k row M=>?_
 obtain⟨m1,m2⟩:=ad k row M;by_cases e:k=F
 . subst e
   exact⟨Z.symm,(ae k (by simp)).trans m2⟩
 . obtain⟨m3,m4⟩:=ab k row m1 ((hr k (by simpa using e)).trans m2)
   exact⟨m3,(J k (by simpa using e)).trans m4⟩
def La(n:Network)(t:VType)(src:Int)(st:Stop)(out:List Sta)(a:Sta):List Sta:=
 let g:=jN n t.profile src st.place a.ready
 if(g.2.2 != 0||decide (W (W (a.driven+g.1)-a.ready)>t.drive))=true then out
 else if((Rx.lH st g.1).2 != 0)=true then out
 else nR t out (Rx.lH st g.1).1 (W (W (a.driven+g.1)-a.ready))
def AN(n:Network)(t:VType)(src:Int)(st:Stop)(l:List Sta):List Sta:=l.foldl (La n t src st) []
theorem XV(n:Network)(t:VType)(src:Int)(st:Stop)(out:List Sta)(a:Sta):(La n t src st out a).length<=out.length+2:=by
 unfold La;simp only;split
 . omega
 . split
   . omega
   . exact FL _ _ _ _
theorem Aq(n:Network)(t:VType)(src:Int)(st:Stop)(l:List Sta):∀k,((l.take k).foldl (La n t src st) []).length<=2*k
 | 0=>by simp
 | k+1=>by
   have h:=Aq n t src st l k;by_cases E:k<l.length
   . obtain⟨c,u⟩:=aN E
     rw[iJ u];exact Xaj (XV n t src st _ c) (by omega)
   . rw[Xan (by omega)]
     rw[Xan (by omega)]at h;omega
theorem Y6(H0:aH)(js:Nat)(s:Sr)(t:VType)(hj:H0 js=some (jX s))(ht:s.x.types[s.kind]?=some t)(src:Int)(l:List Sta)(st:Stop)(hn:NetOk s.x.net)(hl:l.length<=400000):
   LC prog 192 [.op js 0 0,int src,.sl (l.map fZ),.agg (eI st)] H0 (.sl ((AN s.x.net t src st l).map fZ)):=by
 have hk:=(List.getElem?_eq_some_iff.1 ht).1;have b1:=inB hk;have g1:=aF (f:=bC) ht;refine LC.body (c:=Tryz.f192.body.getD .skip) (fun t=>t == 10) mixed Tryz.func192 rfl (by kernel_rfl) ?_;unfold Tryz.f192;simp only[gdS];simp only[go_sem];have U:=Sup.refl H0;have ae:=U.at hj;refine fE [js] [(0,true),(1,true),(2,true),(3,true),(4,true),(5,true),(6,true),(7,true),(8,true),(9,true),(10,true),(11,false),(12,false)] (by simp[ae]) (by kernel_rfl) fun Hp Hr hp hr _ au=>?_
 have aa:=(hp js (by simp)).trans ae;simp only[go_sem,g1,b1,aa];refine aK fun i9 av=>?_
 simp only[go_sem];refine aJ (aB _ _ _) (by simp[jZ]) ?_;refine wG hr av fun ak=>?_
 have am:=U.none ak;generalize af:aI (aI _ i9 _) i9 _=HGi9;replace U:=Sup.eq ((U.upd am _).upd am _) af;have T:HGi9 i9=some ((⟨113,14,[bC t]⟩:Row)):=by rw[<-af,aB];try rfl
 clear af ak;simp only[go_sem,T];refine aK fun j an=>?_
 have ah:i9≠j:=aQ T an;have ar:=U.none an;generalize aj:aI _ j _=HGj;replace U:=Sup.eq (U.upd ar _) aj;replace T:=(congrFun aj.symm i9).trans ((aD _ _ _ _ ah).trans T);have R:HGj j=some (mO []):=by rw[<-aj,aB];try rfl
 clear aj an;simp only[go_sem,R,T];refine⟨fun ρ H=>∃(k:Nat) (j:Nat),k<=l.length/\ρ 0=.op js 0 0/\ρ 1=int src/\ρ 7=.rp (eI st) 0/\ρ 9=.op i9 0 0/\ρ 28=.sl (l.map fZ)/\ρ 29=int (l.length:Nat)/\ρ 30=int k/\ρ 10=.os j/\Sup H0 H/\H0 j=none/\H i9=some (⟨113,14,[bC t]⟩:Row)/\H j=some (mO ((l.take k).foldl (La s.x.net t src st) [])),fun ρ _=>l.length-aT (ρ 30),⟨0,j,Xab _,by simp only[go_sem],by simp only[go_sem],by simp only[go_sem],by simp only[go_sem],by simp only[go_sem],by simp only[go_sem,Xaa],(by simp only[go_sem];rfl),by simp only[go_sem],U,ar,T,R⟩,?_⟩;rintro ρ H ⟨k,j,hk,e0,e1,e7,e9,F,E,I,u,U,nj,T,R⟩;simp only[go_sem,e0,e1,e7,e9,F,E,I,u];refine aA (fun ac=>?_) (fun ap=>?_)
 . have ac:=ltB (by simpa using ac)
   obtain⟨a,ha⟩:=aN ac;have d1:=inB ac;have hs:=iJ (f:=La s.x.net t src st) (b:=([]:List Sta)) ha;have ax:=Aq s.x.net t src st l k;generalize (l.take k).foldl (La s.x.net t src st) []=out at *;have aw:i9≠j:=fun e=>by subst e;rw[T]at R;cases R
   simp only[go_sem,e0,e1,e7,e9,F,E,I,u,aF ha,d1];refine aK fun ab Z=>?_
   have O:j≠ab:=aQ R Z;have M:i9≠ab:=aQ T Z;simp only[go_sem,e0,e1,e7,e9,F,E,I,u,R,T];refine aJ (aB _ _ _) (by simp[FQ]) ?_;have ad:=U.none Z;generalize J:aI (aI _ ab _) ab _=HGi12;replace U:=Sup.eq ((U.upd ad _).upd ad _) J;replace R:=(congrFun J.symm j).trans ((aD _ _ _ _ O).trans ((aD _ _ _ _ O).trans R));replace T:=(congrFun J.symm i9).trans ((aD _ _ _ _ M).trans ((aD _ _ _ _ M).trans T));have ag:HGi12 ab=some ((⟨232,2,[fZ a]⟩:Row)):=by rw[<-J,aB];try rfl
   clear J Z;simp only[go_sem,e0,e1,e7,e9,F,E,I,u,ag,R,T];have ae:=U.at hj;have ne:js≠ab:=Sup.ne (Sup.refl H0) hj ad;refine fE [js,i9,ab] [(0,true),(1,true),(2,true),(3,true),(4,true),(5,true),(6,true),(7,true),(8,true),(9,true),(10,true),(11,true),(12,false),(13,true),(14,true),(15,true),(16,true),(17,true),(18,true),(19,true)] (by simp[ae,T,ag]) (by kernel_rfl) fun Hp Hr hp hr _ au=>?_
   have aa:=(hp js (by simp)).trans ae;have al:=(hp i9 (by simp)).trans T;have ai:=(hp ab (by simp)).trans ag;simp only[go_sem,e0,e1,e7,e9,F,E,I,u,aa,al,ai];refine PC.use (WS s.x.net t.profile src st.place a.ready hn) ?_;simp only[go_sem,e0,e1,e7,e9,F,E,I,u,aa,al,ai];refine jY hr ?_;have ha:La s.x.net t src st out a=(if((jN s.x.net t.profile src st.place a.ready).2.2 != 0||decide (W (W (a.driven+(jN s.x.net t.profile src st.place a.ready).1)-a.ready)>t.drive))=true then out
     else if((Rx.lH st (jN s.x.net t.profile src st.place a.ready).1).2 != 0)=true then out
     else nR t out (Rx.lH st (jN s.x.net t.profile src st.place a.ready).1).1 (W (W (a.driven+(jN s.x.net t.profile src st.place a.ready).1)-a.ready))):=rfl
   rw[ha]at hs;clear ha;generalize jN s.x.net t.profile src st.place a.ready=g at *;simp only[go_sem,e0,e1,e7,e9,F,E,I,u,T,ag];refine aA (fun c1=>?_) (fun c1=>?_)
   . have c1:(g.2.2 != 0||decide (W (W (a.driven+g.1)-a.ready)>t.drive))=true:=c1
     rw[if_pos c1]at hs;simp only[go_sem,e0,e1,e7,e9,F,E,I,u,aP (show k<=4611686018427387904 by omega)];refine⟨⟨k+1,j,ac,rfl,rfl,U,nj,T,?_⟩,by simp only[aE];omega⟩;rw[hs];exact R
   have c1:(g.2.2 != 0||decide (W (W (a.driven+g.1)-a.ready)>t.drive))=false:=c1;rw[if_neg (fun h=>Bool.noConfusion (c1.symm.trans h))]at hs;simp only[go_sem,e0,e1,e7,e9,F,E,I,u];refine PC.use (Rx.Xu st g.1) ?_;simp only[go_sem,e0,e1,e7,e9,F,E,I,u];generalize Rx.lH st g.1=dp at *;refine aA (fun c2=>?_) (fun c2=>?_)
   . rw[if_pos c2]at hs
     simp only[go_sem,e0,e1,e7,e9,F,E,I,u,aP (show k<=4611686018427387904 by omega)];refine⟨⟨k+1,j,ac,rfl,rfl,U,nj,T,?_⟩,by simp only[aE];omega⟩;rw[hs];exact R
   rw[if_neg (fun h=>Bool.noConfusion (c2.symm.trans h))]at hs;simp only[go_sem,e0,e1,e7,e9,F,E,I,u,ag];refine Vj s t out dp.1 (W (W (a.driven+g.1)-a.ready)) ht ae R (by omega) fun j2 H2 R2 aq=>?_
   simp only[go_sem,e0,e1,e7,e9,F,E,I,u,aP (show k<=4611686018427387904 by omega)];refine⟨⟨k+1,j2,ac,rfl,rfl,fun q row hq=>?_,?_,(aq i9 _ aw T).2,?_⟩,by simp only[aE];omega⟩
   . have ao:q≠j:=fun e=>by subst e;rw[nj]at hq;cases hq
     exact(aq q row ao (U q row hq)).2
   . cases e:H0 j2 with
     | none=>rfl
     | some row=>
       have ao:j2≠j:=fun e2=>by subst e2;rw[nj]at e;cases e
       exact absurd rfl (aq j2 row ao (U j2 row e)).1
   . rw[hs];exact R2
 have ap:=geB hk (by simpa using ap);subst ap;rw[Xag]at R;simp only[go_sem,e0,e1,e7,e9,F,E,I,u];exact⟨U,[j],by simpa using nj,.row _ _ _ (by simp;exact R) (ConvE.refl _)⟩
theorem VG(H0:aH)(I:Nat)(s:Sr)(t:VType)(d E:Int)(J:s.x.types[s.kind]?=some t)(O:H0 I=some (jX s)):
   LC prog 120 [.op I 0 0,.v (.slice none 0 0),int d,int E] H0 (.sl ((nR t [] d E).map fZ)):=fun K T=>
 bA.data (WT s t d E J O fun F H' R u=>⟨fun k row h=>(u k row h).2,[F],fun k M=>by
   have e:k=F:=by simpa using M
   subst e;cases Z:H0 k with
   | none=>rfl
   | some row=>exact absurd rfl (u k row Z).1,.row _ _ _ (by simp;exact R) (ConvE.refl _)⟩) T
end Go.Proofs.YtohmomanmikphaaGreatDoor.Sq
end
section
namespace Go.Proofs.YtohmomanmikphaaGreatDoor.Sq
open Go.Proofs.Tryz(prog)
open Go.Aw Go.Aw.D Go.Proofs Ty
open Go.Proofs.YtohmomanmikphaaGreatDoor.Nu (ltB geB)
open Mv (cH dK NC.pc aZ)
def JA(a b:Column):Bool:=if(a.price != b.price)=true then decide (a.price<b.price)else decide (Ut a.route.visits b.route.visits<0)
theorem XR(a b:Column)(E:a.route.visits.length<=1048576):PC prog 189 [.agg (aS a),.agg (aS b)] (boo (JA a b)):=by
 refine pcd Tryz.func189 ?_;unfold Tryz.f189;simp only[gdS];simp only[go_sem];unfold JA;refine aA (fun u=>?_) (fun u=>?_)
 . rw[if_pos u]
   simp only[go_sem];exact .refl _
 . rw[if_neg (by rw[u];simp)]
   simp only[go_sem];refine PC.use (aaB a.route.visits b.route.visits E) ?_;simp only[go_sem];exact .refl _
def AY(best:Column)(fd:Bool)(next:Column):Column:=if(!fd||JA next best)=true then next else best
abbrev pX(c:Column):Row:=⟨43,7,[aS c]⟩
def cQ:Column:=⟨0,0,0,⟨0,0,[],[]⟩⟩
theorem ZL(best:Column)(T:Bool)(next:Column)(Z:next.route.visits.length<=1048576):PC prog 188 [.agg (aS best),boo T,.agg (aS next),.v (.func (.func 189) #[] #[])] (.agg (aS (AY best T next))):=by
 have O:aC prog 189=true:=by kernel_rfl
 have I:=XR next best Z
 refine pcd Tryz.func188 ?_;unfold Tryz.f188;simp only[gdS];simp only[go_sem];refine aK fun F M=>?_
 generalize u:aI _ F _=HGi8;have E:HGi8 F=some (pX cQ):=by rw[<-u,aB];try rfl
 clear u M;simp only[go_sem,O,E];refine⟨_,fun _=>I.q rfl,?_⟩;simp only[go_sem];unfold AY;refine aA (fun I=>?_) (fun I=>?_)
 . rw[if_pos I]
   simp only[go_sem];refine aJ E (by simp[dA]) ?_;generalize J:aI _ F _=HP;replace E:HP F=some (pX next):=by rw[<-J,aB];rfl
   clear J;simp only[go_sem,E];exact .refl _
 . rw[if_neg (fun h=>Bool.noConfusion (I.symm.trans h))]
   simp only[go_sem];refine aJ E (by simp[dA]) ?_;generalize J:aI _ F _=HP;replace E:HP F=some (pX best):=by rw[<-J,aB];rfl
   clear J;simp only[go_sem,E];exact .refl _
def lX(s:Sr)(l:List Visit):Route:=⟨(s.kind:Nat),0,[],l⟩
def KF(s:Sr)(l:List Visit)(p:Int):Column:=⟨(s.kind:Nat),s.set,p,lX s l⟩
def MW(s:Sr)(l:List Visit):Sr:=if((gM s.x (lX s l)).2 == 0)=true then { s with best:=AY s.best s.found (KF s l (gM s.x (lX s l)).1),found:=true }else s
def Am(t:VType)(rec:Sr->List Visit->Int->List Sta->Sr)(l:List Visit)(src:Int)(st:List Sta)(s:Sr)(v:Visit):Sr:=
 if((fH s.x v).2 != 0)=true then s
 else if(AN s.x.net t src (fH s.x v).1 st).length=0 then s
 else rec s (l++[v]) (fH s.x v).1.place (AN s.x.net t src (fH s.x v).1 st)
def oH(t:VType):Nat->Sr->List Visit->Int->List Sta->Sr
 | 0,s,_,_,_=>s
 | f+1,s,l,src,st=>if((l.length:Int) == (s.total:Int))=true then MW s l else(B5 s.x s.set l).foldl (Am t (oH t f) l src st) s
structure SameB(s s':Sr):Prop where
 x:s'.x=s.x
 kind:s'.kind=s.kind
 set:s'.set=s.set
 total:s'.total=s.total
structure SrB(t:VType)(s:Sr):Prop where
 ty:s.x.types[s.kind]?=some t
 ev:EvalB s.x
 before:s.x.before.length<=1048576
 orders:s.x.orders.length<=60
 total:s.total<=16
theorem SameB.refl(s:Sr):SameB s s:=⟨rfl,rfl,rfl,rfl⟩
theorem SameB.trans{a b c:Sr}(h:SameB a b)(g:SameB b c):SameB a c:=⟨g.x.trans h.x,g.kind.trans h.kind,g.set.trans h.set,g.total.trans h.total⟩
theorem SameB.b{t:VType}{a b:Sr}(h:SameB a b)(g:SrB t a):SrB t b:=⟨by rw[h.x,h.kind];exact g.ty,by rw[h.x];exact g.ev,by rw[h.x];exact g.before,by rw[h.x];exact g.orders,by rw[h.total];exact g.total⟩
theorem UD(s:Sr)(l:List Visit):SameB s (MW s l):=by unfold MW;split <;> exact⟨rfl,rfl,rfl,rfl⟩
theorem EY{α:Type}{g:Sr->α->Sr}(u:∀a v,SameB a (g a v)):∀(l:List α) (a:Sr),SameB a (l.foldl g a)
 | [],a=>.refl a
 | v::l,a=>(u a v).trans (EY u l (g a v))
theorem rJ(t:VType):∀(f:Nat) (s:Sr) (l:List Visit) (src:Int) (st:List Sta),SameB s (oH t f s l src st)
 | 0,s,_,_,_=>.refl s
 | f+1,s,l,src,st=>by
   unfold oH;split
   . exact UD s l
   . refine EY (fun a v=>?_) _ _
     unfold Am;split
     . exact .refl a
     . split
       . exact .refl a
       . exact rJ t f _ _ _ _
theorem ayB{H:aH}{j:Nat}:(fun q=>if q∈[j]then none else H q)=aI H j none:=funext fun q=>by simp only[aI,Xaq]
theorem Dk{l:List Nat}{H0 H T:aH}{K:Env->aH->Prop}{ρ:Env}{I u:Nat}{a b:Row}{r5:Option Row}(hr:∀k,k∉l->T k=H k)(hn:u∉l)(h5:T I=none)(U:Sup (aI H0 u (some a)) H)
   (h:∀F:aH,F u=some b->Sup (aI H0 u (some b)) F->K ρ F):mA l H K ρ (aI (aI (aI T I r5) I none) u (some b)):=fun h0 F h1 O=>by
 refine h F ((O u hn).trans (aB _ _ _)) fun k row J=>?_
 by_cases e:k=u
 . subst e
   rw[aB]at J;rw[O k hn,aB];exact J
 . rw[aD _ _ _ _ e]at J
   have Z:=U k row (by rw[aD _ _ _ _ e];exact J);by_cases M:k∈l
   . rw[h1 k M];exact Z
   . have E:k≠I:=fun e2=>by rw[<-e2,hr k M,Z]at h5;cases h5
     rw[O k M,aD _ _ _ _ e,aD _ _ _ _ E,aD _ _ _ _ E,hr k M];exact Z
abbrev Wl(t:VType)(js f:Nat):Prop:=∀(s:Sr) (_:SrB t s) (H0:aH) (_:H0 js=some (jX s)) (l:List Visit) (src:Int) (st:List Sta) (_:l.length<=s.total) (_:s.total-l.length<f) (_:st.length<=2^(l.length+1)),
 MC prog 119 [.op js 0 0,.sl (l.map aL),int src,.sl (st.map fZ)] H0 (aI H0 js (some (jX (oH t f s l src st)))) (.tup [])
theorem HF(t:VType)(js f:Nat)(a4:∀f',f=f'+1->Wl t js f'):Wl t js f:=by
 intro s a5 H0 az l src st b0 hf bu;obtain⟨f,rfl⟩:∃f',f=f'+1:=⟨f-1,by omega⟩;have a4:=a4 f rfl;have bw:=a5.total;have hj:=az;have eW:oH t (f+1) s l src st=if((l.length:Int) == (s.total:Int))=true then MW s l else(B5 s.x s.set l).foldl (Am t (oH t f) l src st) s:=rfl
 generalize oH t (f+1) s l src st=RW at *;refine MC.body (c:=Tryz.f119.body.getD .skip) (fun _=>false) (Qm az) mixed Tryz.func119 rfl (by kernel_rfl) ?_;unfold Tryz.f119;simp only[gdS];simp only[go_sem,hj,Xaa];have U:=Sup.refl H0;refine aA (fun hb=>?_) (fun hb=>?_)
 . rw[if_pos hb]at eW
   subst eW;have eE:MW s l=if((gM s.x (lX s l)).2 == 0)=true then { s with best:=AY s.best s.found (KF s l (gM s.x (lX s l)).1),found:=true }else s:=rfl
   have hP:=Xg s.x (lX s l) a5.ev (by show l.length<=1048575;omega);simp only[go_sem,hj];refine aK fun j8 a0=>?_
   have ag:js≠j8:=aQ hj a0;simp only[go_sem,hj];refine aJ (aB _ _ _) (by simp[wA]) ?_;have a9:=U.none a0;generalize au:aI (aI _ j8 _) j8 _=HGj8;replace U:=Sup.eq ((U.upd a9 _).upd a9 _) au;replace hj:=(congrFun au.symm js).trans ((aD _ _ _ _ ag).trans ((aD _ _ _ _ ag).trans hj));have R8:HGj8 j8=some ((⟨41,4,[dL (lX s l)]⟩:Row)):=by rw[<-au,aB];try rfl
   clear au a0;simp only[go_sem,R8,hj];refine fE [js,j8] [(0,true),(1,true),(2,true),(3,true),(4,true),(5,false),(6,true),(7,true),(8,true),(9,true),(10,true)] (by simp[hj,R8]) (by kernel_rfl) fun Hp Hr hp hr _ ak=>?_
   have ac:=(hp js (by simp)).trans hj;have al:=(hp j8 (by simp)).trans R8;simp only[go_sem,ac,al];refine PC.use hP ?_;generalize gM s.x (lX s l)=pr at *;simp only[go_sem];refine jY hr ?_;simp only[go_sem];refine aA (fun hc=>?_) (fun hc=>?_)
   case refine_2=>
     rw[if_neg (fun h=>Bool.noConfusion (hc.symm.trans h))]at eE;rw[eE];simp only[go_sem];refine J1.flat ?_ _;rw[L2 az];exact U
   rw[if_pos hc]at eE;simp only[go_sem];clear hp hr ak ac al;refine fE [js,j8] [(0,true),(1,true),(2,true),(3,true),(4,true),(5,true),(6,true),(7,true),(8,true),(9,true),(10,true),(11,false),(12,false)] (by simp[hj,R8]) (by kernel_rfl) fun Hp Hr hp hr _ ak=>?_
   have ac:=(hp js (by simp)).trans hj;have al:=(hp j8 (by simp)).trans R8;simp only[go_sem,ac,al];refine aK fun ao bn=>?_
   simp only[go_sem];refine aJ (aB _ _ _) (by simp[dA,wA]) ?_;refine wG hr bn fun aq=>?_
   have af:js≠ao:=aQ hj aq;have ay:=U.none aq;generalize aj:aI (aI _ ao _) ao _=HGj11;replace U:=Sup.eq ((U.upd ay _).upd ay _) aj;replace hj:=(congrFun aj.symm js).trans ((aD _ _ _ _ af).trans ((aD _ _ _ _ af).trans hj));have av:HGj11 ao=some (pX (KF s l pr.1)):=by rw[<-aj,aB];try rfl
   clear aj aq;simp only[go_sem,av,hj];clear hp hr ak ac al;have hF:=ZL s.best s.found (KF s l pr.1) (by show l.length<=1048576;omega);generalize b3:AY s.best s.found (KF s l pr.1)=fb at *;have bd:js≠ao:=fun e=>by subst e;rw[hj]at av;cases av
   refine BE [ao] (.q 0 (.q 1 (.q 2 (.q 3 (.q 5 (.q 6 (.q 7 (.q 9 (.a2 4 (.a1 8 (.a1 10 (.q 11 (.q 12 (.a1 13 .nil))))) 8 (.a1 4 (.a1 10 (.q 11 (.q 12 (.a1 13 .nil)))))))))))))) (fun aa H'=>aa 0=.op js 0 0/\H' js=some (jX { s with best:=fb })/\Sup (aI H0 js (some (jX { s with best:=fb }))) H') (by simp[av]) (by kernel_rfl) (fun K' am Hp Hr hp hr _ ak=>?_) ?_
   . have ba:=(hp ao (by simp)).trans av
     have ah:=(hr js (by simpa using bd)).trans hj;simp only[go_sem,ba];refine mE ?_ ?_
     . simp only[go_sem,ah]
       refine PC.use hF ?_;simp only[go_sem,ah];refine aJ ah (by simp[oV,dA]) ?_;simp only[go_sem];refine oJ hr (by simpa using bd) (am _ _ ⟨by simp only[go_sem],(aB _ _ _).trans rfl,?_⟩);exact U.set js (some (jX { s with best:=fb }))
     . simp only[go_sem,ah]
       refine PC.use hF ?_;simp only[go_sem,ah];refine aJ ah (by simp[oV,dA]) ?_;simp only[go_sem];refine oJ hr (by simpa using bd) (am _ _ ⟨by simp only[go_sem],(aB _ _ _).trans rfl,?_⟩);exact U.set js (some (jX { s with best:=fb }))
   clear hj U R8 av;rintro ρ H ⟨I,R,U⟩;simp only[go_sem,I,R];refine eM so4 R (by simp[oV]) ?_;simp only[go_sem];rw[eE];refine J1.flat ?_ _;exact Sup.set2 U (some (jX { s with best:=fb,found:=true }))
 rw[if_neg (fun h=>Bool.noConfusion (hb.symm.trans h))]at eW;subst eW;have bv:l.length<s.total:=by simp at hb;omega
 have bz:=a5.orders;have bp:=AI s.x s.set l s.x.orders.length;simp only[go_sem];refine fE [js] [(0,true),(1,true),(2,true),(3,true),(4,true),(5,true),(6,true),(7,true),(8,true),(11,true),(9,false),(10,true)] (by simp[hj]) (by kernel_rfl) fun Hp Hr hp hr _ ak=>?_
 have ac:=(hp js (by simp)).trans hj;simp only[go_sem,ac];refine PC.use (aaT s.x s.set l (by omega) a5.before (by omega)) ?_;have bp:(B5 s.x s.set l).length<=120:=Xaj bp (by omega);generalize B5 s.x s.set l=vs at *;simp only[go_sem,Xaa];refine jY hr ?_;clear hp hr ak ac U;have bx:st.length<=131072:=Xaj bu (Xaj (Xat (by decide) (show l.length+1<=17 by omega)) (by decide));refine⟨fun ρ H=>∃(k:Nat) (a:Sr),k<=vs.length/\ρ 0=.op js 0 0/\ρ 1=.sl (l.map aL)/\ρ 2=int src/\ρ 3=.sl (st.map fZ)/\ρ 77=.sl (vs.map aL)/\ρ 78=int (vs.length:Nat)/\ρ 79=int k/\a=(vs.take k).foldl (Am t (oH t f) l src st) s/\SameB s a/\H js=some (jX a)/\Sup (aI H0 js (some (jX a))) H,fun ρ _=>vs.length-aT (ρ 79),⟨0,s,Xab _,by simp only[go_sem],by simp only[go_sem],by simp only[go_sem],by simp only[go_sem],by simp only[go_sem],by simp only[go_sem,Xaa],(by simp only[go_sem];rfl),rfl,SameB.refl s,az,by rw[L2 az];exact Sup.refl H0⟩,?_⟩;rintro ρ H ⟨k,a,hk,I,e1,J,Z,u,E,F,ha,hS,R,U⟩;simp only[go_sem,I,e1,J,Z,u,E,F];refine aA (fun ap=>?_) (fun bf=>?_)
 . have ap:=ltB (by simpa using ap)
   obtain⟨v,hv⟩:=aN ap;have b1:=inB ap;have hs:=iJ (f:=Am t (oH t f) l src st) (b:=s) hv;rw[<-ha]at hs;have bi:=hS.b a5;have eX:Am t (oH t f) l src st a v=if((fH a.x v).2 != 0)=true then a
     else if(AN a.x.net t src (fH a.x v).1 st).length=0 then a
     else oH t f a (l++[v]) (fH a.x v).1.place (AN a.x.net t src (fH a.x v).1 st):=rfl
   have bq:SameB a (Am t (oH t f) l src st a v):=by
     unfold Am;split
     . exact .refl a
     . split
       . exact .refl a
       . exact rJ t f _ _ _ _
   generalize Am t (oH t f) l src st a v=EV at *;have bo:=SX a.x v;generalize b2:fH a.x v=sv at *;simp only[go_sem,I,e1,J,Z,u,E,F,aF hv,b1];refine aK fun ad ar=>?_
   have ae:js≠ad:=aQ R ar;simp only[go_sem,I,e1,J,Z,u,E,F,R];refine aJ (aB _ _ _) (by simp[dG]) ?_;have a7:=U.none ar;generalize ai:aI (aI _ ad _) ad _=HGi13;replace U:=Sup.eq ((U.upd a7 _).upd a7 _) ai;replace R:=(congrFun ai.symm js).trans ((aD _ _ _ _ ae).trans ((aD _ _ _ _ ae).trans R));have ab:HGi13 ad=some ((⟨119,2,[aL v]⟩:Row)):=by rw[<-ai,aB];try rfl
   clear ai ar;simp only[go_sem,I,e1,J,Z,u,E,F,ab,R];refine BE [js,ad] (.q 0 (.q 1 (.q 2 (.q 3 (.q 4 (.q 5 (.a2 6 (.q 7 (.q 8 (.q 9 (.a1 10 (.a1 11 (.q 12 .nil)))))) 10 (.a1 6 (.q 7 (.q 8 (.q 9 (.a1 11 (.q 12 .nil))))))))))))) (fun aa H'=>aa 0=.op js 0 0/\aa 1=.sl (l.map aL)/\aa 2=int src/\aa 3=.sl (st.map fZ)/\aa 77=.sl (vs.map aL)/\aa 78=int vs.length/\aa 79=int (k:Nat)/\aa 13=.op ad 0 0/\aa 15=int sv.2/\∃aw,aa 14=.op aw 0 0/\H' aw=some (⟨109,4,[eI sv.1]⟩:Row)/\H' ad=some (⟨119,2,[aL v]⟩:Row)/\H' js=some (jX a)/\Sup (aI H0 js (some (jX a))) H') (by simp[R,ab]) (by kernel_rfl) (fun K' am Hp Hr hp hr _ ak=>?_) ?_
   . have bt:=(hp js (by simp)).trans R
     have an:=(hp ad (by simp)).trans ab;simp only[go_sem,I,e1,J,Z,u,E,F,bt,an];refine mE ?_ ?_
     . simp only[go_sem,I,e1,J,Z,u,E,F]
       refine PC.use bo ?_;simp only[go_sem,I,e1,J,Z,u,E,F];refine aK fun j8 bm=>?_
       simp only[go_sem,I,e1,J,Z,u,E,F];refine aJ (aB _ _ _) (by simp[lD]) ?_;simp only[go_sem];refine wG hr bm fun h8=>am _ _ ⟨by simp only[go_sem,I,e1,J,Z,u,E,F],by simp only[go_sem,I,e1,J,Z,u,E,F],by simp only[go_sem,I,e1,J,Z,u,E,F],by simp only[go_sem,I,e1,J,Z,u,E,F],by simp only[go_sem,I,e1,J,Z,u,E,F],by simp only[go_sem,I,e1,J,Z,u,E,F],by simp only[go_sem,I,e1,J,Z,u,E,F],by simp only[go_sem,I,e1,J,Z,u,E,F],by simp only[go_sem],j8,by simp only[go_sem],aB _ _ _,(aD _ _ _ _ (aQ ab h8)).trans ((aD _ _ _ _ (aQ ab h8)).trans ab),(aD _ _ _ _ (aQ R h8)).trans ((aD _ _ _ _ (aQ R h8)).trans R),(U.upd (U.none h8) _).upd (U.none h8) _⟩
     . simp only[go_sem,I,e1,J,Z,u,E,F]
       refine aK fun j8 bm=>?_
       simp only[go_sem,I,e1,J,Z,u,E,F];refine PC.use bo ?_;simp only[go_sem,I,e1,J,Z,u,E,F];refine aJ (aB _ _ _) (by simp[lD]) ?_;simp only[go_sem];refine wG hr bm fun h8=>am _ _ ⟨by simp only[go_sem,I,e1,J,Z,u,E,F],by simp only[go_sem,I,e1,J,Z,u,E,F],by simp only[go_sem,I,e1,J,Z,u,E,F],by simp only[go_sem,I,e1,J,Z,u,E,F],by simp only[go_sem,I,e1,J,Z,u,E,F],by simp only[go_sem,I,e1,J,Z,u,E,F],by simp only[go_sem,I,e1,J,Z,u,E,F],by simp only[go_sem,I,e1,J,Z,u,E,F],by simp only[go_sem],j8,by simp only[go_sem],aB _ _ _,(aD _ _ _ _ (aQ ab h8)).trans ((aD _ _ _ _ (aQ ab h8)).trans ab),(aD _ _ _ _ (aQ R h8)).trans ((aD _ _ _ _ (aQ R h8)).trans R),(U.upd (U.none h8) _).upd (U.none h8) _⟩
   clear ab R U I e1 J Z u E F;rintro ρ H ⟨I,e1,J,Z,u,E,F,O,T,aw,M,ax,ab,R,U⟩;simp only[go_sem,I,e1,J,Z,u,E,F,O,T,M];refine aA (fun c1=>?_) (fun c1=>?_)
   . rw[if_pos c1]at eX
     simp only[go_sem,I,e1,J,Z,u,E,F,O,T,M,aP (show k<=4611686018427387904 by omega)];exact⟨⟨k+1,a,ap,rfl,by rw[hs,eX],hS,R,U⟩,by simp only[aE];omega⟩
   rw[if_neg (fun h=>Bool.noConfusion (c1.symm.trans h))]at eX;have br:=Y6 H js a t R bi.ty src st sv.1 bi.ev.net (by omega);have a6:=Aq a.x.net t src sv.1 st st.length;rw[Xag]at a6;replace a6:(AN a.x.net t src sv.1 st).length<=2*st.length:=a6;generalize AN a.x.net t src sv.1 st=nx at *;simp only[go_sem,I,e1,J,Z,u,E,F,O,T,M,ax];refine LC.use br ?_;simp only[go_sem,I,e1,J,Z,u,E,F,O,T,M,Xaa];refine aA (fun c2=>?_) (fun c2=>?_)
   case refine_2=>
     have hz:nx.length=0:=by simp at c2;simp[c2]
     rw[if_pos hz]at eX;simp only[go_sem,I,e1,J,Z,u,E,F,O,T,M,aP (show k<=4611686018427387904 by omega)];exact⟨⟨k+1,a,ap,rfl,by rw[hs,eX],hS,R,U⟩,by simp only[aE];omega⟩
   have hz:¬nx.length=0:=by simp at c2;omega
   rw[if_neg hz]at eX;have bk:js≠ad:=fun e=>by subst e;rw[R]at ab;cases ab
   have bj:js≠aw:=fun e=>by subst e;rw[R]at ax;cases ax
   simp only[go_sem,I,e1,J,Z,u,E,F,O,T,M];have bg:(l++[v]).length=l.length+1:=by simp
   have be:=fun(Hx:aH) (hx:Hx js=some (jX a))=>a4 a bi Hx hx (l++[v]) sv.1.place nx (by rw[bg,hS.total];omega) (by rw[bg,hS.total];omega) (by rw[bg,Xbu];omega)
   rw[<-eX]at be;refine BE [ad,aw] (.q 0 (.q 1 (.q 3 (.q 6 (.q 7 (.q 8 (.a2 2 (.a1 4 (.a1 5 (.a1 9 .nil))) 4 (.a1 2 (.a1 5 (.a1 9 .nil)))))))))) (fun aa H'=>aa 0=.op js 0 0/\aa 1=.sl (l.map aL)/\aa 2=int src/\aa 3=.sl (st.map fZ)/\aa 77=.sl (vs.map aL)/\aa 78=int vs.length/\aa 79=int (k:Nat)/\H' js=some (jX EV)/\Sup (aI H0 js (some (jX EV))) H') (by simp[ab,ax]) (by kernel_rfl) (fun K' am Hp Hr hp hr _ ak=>?_) ?_
   . have an:=(hp ad (by simp)).trans ab
     have bh:=(hp aw (by simp)).trans ax;have a8:=(hr js (by simp[bk,bj])).trans R;simp only[go_sem,I,e1,J,Z,u,E,F,O,T,M,an,bh];refine mE ?_ ?_
     . simp only[go_sem,I,e1,J,Z,u,E,F,O,T,M]
       refine PC.use (Yt l (by omega)) ?_;simp only[go_sem,I,e1,J,Z,u,E,F,O,T,M];refine RQ ahL (.inl rfl) (by simp) (Av dG l) (by simp only[go_sem]) (by simp;omega) fun j5 h5=>?_
       have n5:js≠j5:=aQ a8 h5;simp only[go_sem,I,e1,J,Z,u,E,F,O,T,M];refine bA.frz [j5] (args':=[.op js 0 0,.sl (l.map aL++[aL v]),int sv.1.place,.sl (nx.map fZ)]) (.cons _ _ _ _ (.refl _) (.cons _ _ _ _ (.row _ _ _ (by simp;exact aB _ _ _) (ConvE.refl _)) (.cons _ _ _ _ (.refl _) (.cons _ _ _ _ (.refl _) .nil)))) ?_;rw[ayB,show l.map aL++[aL v]=(l++[v]).map aL by simp];refine MC.use (be _ ((aD _ _ _ _ n5).trans ((aD _ _ _ _ n5).trans a8))) ?_;simp only[go_sem,I,e1,J,Z,u,E,F,O,T,M];refine Dk hr (by simp[bk,bj]) h5 U fun Hm bc bb=>am _ _ ⟨by simp only[go_sem,I,e1,J,Z,u,E,F,O,T,M],by simp only[go_sem,I,e1,J,Z,u,E,F,O,T,M],by simp only[go_sem,I,e1,J,Z,u,E,F,O,T,M],by simp only[go_sem,I,e1,J,Z,u,E,F,O,T,M],by simp only[go_sem,I,e1,J,Z,u,E,F,O,T,M],by simp only[go_sem,I,e1,J,Z,u,E,F,O,T,M],by simp only[go_sem,I,e1,J,Z,u,E,F,O,T,M],bc,bb⟩
     . simp only[go_sem,I,e1,J,Z,u,E,F,O,T,M]
       refine PC.use (Yt l (by omega)) ?_;simp only[go_sem,I,e1,J,Z,u,E,F,O,T,M];refine RQ ahL (.inl rfl) (by simp) (Av dG l) (by simp only[go_sem]) (by simp;omega) fun j5 h5=>?_
       have n5:js≠j5:=aQ a8 h5;simp only[go_sem,I,e1,J,Z,u,E,F,O,T,M];refine bA.frz [j5] (args':=[.op js 0 0,.sl (l.map aL++[aL v]),int sv.1.place,.sl (nx.map fZ)]) (.cons _ _ _ _ (.refl _) (.cons _ _ _ _ (.row _ _ _ (by simp;exact aB _ _ _) (ConvE.refl _)) (.cons _ _ _ _ (.refl _) (.cons _ _ _ _ (.refl _) .nil)))) ?_;rw[ayB,show l.map aL++[aL v]=(l++[v]).map aL by simp];refine MC.use (be _ ((aD _ _ _ _ n5).trans ((aD _ _ _ _ n5).trans a8))) ?_;simp only[go_sem,I,e1,J,Z,u,E,F,O,T,M];refine Dk hr (by simp[bk,bj]) h5 U fun Hm bc bb=>am _ _ ⟨by simp only[go_sem,I,e1,J,Z,u,E,F,O,T,M],by simp only[go_sem,I,e1,J,Z,u,E,F,O,T,M],by simp only[go_sem,I,e1,J,Z,u,E,F,O,T,M],by simp only[go_sem,I,e1,J,Z,u,E,F,O,T,M],by simp only[go_sem,I,e1,J,Z,u,E,F,O,T,M],by simp only[go_sem,I,e1,J,Z,u,E,F,O,T,M],by simp only[go_sem,I,e1,J,Z,u,E,F,O,T,M],bc,bb⟩
   clear ab ax R U I e1 J Z u E F O T M;rintro ρ H ⟨I,e1,J,Z,u,E,F,R,U⟩;simp only[go_sem,I,e1,J,Z,u,E,F,aP (show k<=4611686018427387904 by omega)];exact⟨⟨k+1,EV,ap,rfl,hs.symm,hS.trans bq,R,U⟩,by simp only[aE];omega⟩
 have bf:=geB hk (by simpa using bf);subst bf;rw[Xag]at ha;rw[<-ha];simp only[go_sem];exact J1.flat U _
end Go.Proofs.YtohmomanmikphaaGreatDoor.Sq
end
section
namespace Go.Proofs.YtohmomanmikphaaGreatDoor.Sq
open Go.Aw Go.Aw.D Go.Proofs Ty
open Go.Proofs.YtohmomanmikphaaGreatDoor.Nu (ltB geB)
open Mv (cH dK NC.pc aZ)
theorem RM(t:VType)(u:Nat):∀f,Wl t u f
 | 0=>HF t u 0 (fun E e=>by omega)
 | f + 1 => HF t u (f + 1) (fun E e => by
     obtain rfl:E=f:=by omega
     exact RM t u E)
def xR(x:Instance)(set:Int)(l:List Visit):Prop:=∀p v q,l=p++v::q->v∈B5 x set p
theorem xR.nil{x:Instance}{set:Int}:xR x set []:=fun p v q h=>by simp at h
theorem xR.snoc{x:Instance}{set:Int}{l:List Visit}(h:xR x set l){v:Visit}(I:v∈B5 x set l):xR x set (l++[v]):=fun p w q e=>by
 rcases List.eq_nil_or_concat q with rfl|⟨E,u,rfl⟩
 . obtain⟨rfl,F⟩:=List.append_inj' e rfl
   cases F;exact I
 . rw[List.concat_eq_append,show p++w::(E++[u])=(p++w::E)++[u]by simp]at e
   obtain⟨rfl,F⟩:=List.append_inj' e rfl;exact h p w E rfl
def xO(s:Sr):Prop:=s.found=true->∃l,s.best=KF s l (gM s.x (lX s l)).1/\(gM s.x (lX s l)).2=0/\xR s.x s.set l/\l.length=s.total
theorem Qb{s:Sr}(h:xO s){l:List Visit}(J:xR s.x s.set l)(F:l.length=s.total):xO (MW s l):=by
 unfold MW;split
 next u=>
   have u:(gM s.x (lX s l)).2=0:=by simpa using u
   intro _;show ∃l',AY s.best s.found (KF s l (gM s.x (lX s l)).1)=KF s l' (gM s.x (lX s l')).1/\(gM s.x (lX s l')).2=0/\xR s.x s.set l'/\l'.length=s.total;unfold AY;split
   . exact⟨l,rfl,u,J,F⟩
   next E=>
     have I:s.found=true:=by
       cases e:s.found with
       | true=>rfl
       | false=>rw[e]at E;simp at E
     exact h I
 . exact h
theorem EB{l:List Visit}{g:Sr->Visit->Sr}{E:Sr}(F:∀a v,SameB E a->xO a->v∈B5 E.x E.set l->SameB E (g a v)/\xO (g a v)):∀(vs:List Visit) (a:Sr),(∀v∈vs,v∈B5 E.x E.set l)->SameB E a->xO a->xO (vs.foldl g a)
 | [],a,_,_,h=>h
 | v::vs,a,hv,hs,h=>by
   obtain⟨h1,I⟩:=F a v hs h (hv v (by simp));exact EB F vs (g a v) (fun u J=>hv u (by simp[J])) h1 I
theorem D2(t:VType):∀(f:Nat) (s:Sr) (l:List Visit) (src:Int) (st:List Sta),xO s->xR s.x s.set l->xO (oH t f s l src st)
 | 0,s,_,_,_,h,_=>h
 | f+1,s,l,src,st,h,hl=>by
   unfold oH;split
   next I=>exact Qb h hl (by simp at I;omega)
   . refine EB (l:=l) (fun a v u F E=>?_) _ s (fun v E=>E) (SameB.refl s) h
     unfold Am;split
     . exact⟨u,F⟩
     . split
       . exact⟨u,F⟩
       . refine⟨u.trans (rJ t f _ _ _ _),D2 t f _ _ _ _ F ?_⟩
         rw[u.x,u.set];exact hl.snoc E
def pK(x:Instance)(l:List Int):Nat:=(l.map fun i=>(jG x.orders i).length).sum
def vW(x:Instance)(set:Int):Nat:=pK x (gE set)
theorem QB(x:Instance){l:List Int}{k:Nat}{i:Int}(h:l[k]?=some i):pK x (l.take (k+1))=pK x (l.take k)+(jG x.orders i).length:=by
 unfold pK;rw[bP h];simp
theorem FX(x:Instance):∀l:List Int,pK x l<=2*l.length
 | []=>Xaf _
 | i::l=>by
   have h1:=FX x l;have u:=rK x.orders i;unfold pK at h1 |-;simp only[Xav,List.sum_cons,Xad];omega
theorem Qc(x:Instance)(l:List Int)(k:Nat):pK x (l.take k)<=2*k:=by
 have h1:=FX x (l.take k);rw[Xal]at h1;omega
theorem Iq{set:Int}{n:Nat}(h:∀i:Nat,n<=i->dT set (i:Int)=false):∀d,rI set (n+d)=rI set n
 | 0=>rfl
 | d+1=>by
   rw[<-Xcb,oY,h (n+d) (by omega),Iq h d];simp
theorem VY{set:Int}{n:Nat}(h0:0<=set)(h1:set<2^n)(i:Nat)(u:n<=i):dT set (i:Int)=false:=by
 obtain⟨m,rfl⟩:=Int.eq_ofNat_of_zero_le h0;by_cases E:i<=62
 . rw[uG (by omega) (by omega),Xbc]
   refine Nat.testBit_lt_two_pow (Xbw (m:=2^n) ?_ (Xat (by decide) u))
   exact_mod_cast h1
 . unfold dT
   rw[decide_eq_false (show ¬(i:Int)<=62 by omega)];simp
theorem Sp{set:Int}{n:Nat}(h0:0<=set)(h1:set<2^n)(u:n<=63):(gE set).length<=n:=by
 have h:=Iq (VY h0 h1) (63-n);unfold gE;rw[show 63=n+(63-n)by omega,h];exact rQ set n
theorem G2{x:Instance}{set:Int}{n:Nat}(h0:0<=set)(h1:set<2^n)(u:n<=63):vW x set<=2*n:=by
 have E:=Sp h0 h1 u;have F:=FX x (gE set);unfold vW;omega
theorem Mt{α:Type}{o:Option α}{f:α->Prop}{a:α}(h:o=some a)(u:f a):bN o f:=by subst h;exact u
abbrev kU(t:VType):Row:=⟨113,14,[bC t]⟩
end Go.Proofs.YtohmomanmikphaaGreatDoor.Sq
end
section
namespace Go.Proofs.YtohmomanmikphaaGreatDoor.Sq
open Go.Proofs.Tryz(prog)
open Go.Aw Go.Aw.D Go.Proofs Ty
open Go.Proofs.YtohmomanmikphaaGreatDoor.Nu (ltB geB)
open Mv (cH dK NC.pc aZ)
def QN(x:Instance)(kind set:Int):Bool:=((decide (kind<0)||decide (kind>=(x.types.length:Int)))||decide (set<=0))||(shV .shr .i64 set (x.orders.length:Nat) != 0)
def Ik(x:Instance)(kind:Nat)(set:Int)(t:VType):Sr:=oH t 17 ⟨x,kind,set,vW x set,cQ,false⟩ [] t.src (nR t [] t.start 0)
def wR(x:Instance)(kind set:Int):Column×Int:=
 if QN x kind set=true then(cQ,2)
 else if(EE x set != 0)=true then(cQ,24)
 else match x.types[kind.toNat]? with
 | none=>(cQ,24)
 | some t=>if(Ik x kind.toNat set t).found=true then((Ik x kind.toNat set t).best,0)else(cQ,24)
theorem acH(x:Instance)(kind set:Int)(hE:EvalB x)(hn:x.orders.length<=8):PC prog 67 [.agg (aG x),int kind,int set] (.tup [.agg (aS (wR x kind set).1),int (wR x kind set).2]):=by
 refine pcb (fun t=>t == 43||t == 75) Tryz.func67 ?_;unfold Tryz.f67;simp only[gdS];simp only[go_sem];have hP:wR x kind set=((if QN x kind set=true then(cQ,2)
   else if(EE x set != 0)=true then(cQ,24)
   else match x.types[kind.toNat]? with
   | none=>(cQ,24)
   | some t=>if(Ik x kind.toNat set t).found=true then((Ik x kind.toNat set t).best,0)else(cQ,24)):Column×Int):=rfl
 generalize wR x kind set=RP at *;refine aK fun j6 au=>?_
 generalize aw:aI _ j6 _=HG6;have R6:HG6 j6=some (pX cQ):=by rw[<-aw,aB];try rfl
 clear aw au;simp only[go_sem,R6,Xaa];refine⟨fun _=>by omega,aA (fun hb=>?_) (fun hb=>?_)⟩
 . simp only[go_sem,R6]
   refine aJ R6 (by simp only[go_sem]) ?_;generalize hP:aI _ j6 _=HP;replace R6:HP j6=some (pX cQ):=by rw[<-hP,aB];rfl
   clear hP;simp only[go_sem,R6];have hb:QN x kind set=true:=hb;rw[if_pos hb]at hP;rw[hP];exact .refl _
 have ar:QN x kind set=false:=hb;rw[if_neg (by rw[ar];simp)]at hP;obtain⟨⟨⟨hk0,hk1⟩,hs0⟩,hs1⟩:((0<=kind/\kind<x.types.length)/\0<set)/\shV .shr .i64 set (x.orders.length:Nat)=0:=by
   simpa using hb
 rw[rH (by omega)]at hs1;obtain⟨k0,rfl⟩:=Int.eq_ofNat_of_zero_le hk0;have hk:k0<x.types.length:=by omega
 obtain⟨t,ht⟩:=aN hk;have bk:=inB hk;have ao:set<2^x.orders.length:=by
   have hp:(0:Int)<2^x.orders.length:=Int.pow_pos (by decide);rcases Xbq set (2^x.orders.length)with h|h
   . exact h
   . have:=Int.le_ediv_of_mul_le hp (show 1*2^x.orders.length<=set by omega)
     omega
 have hM:=G2 (x:=x) (by omega) ao (by omega);have ax:=Sp (by omega) ao (by omega);rw[show vW x set=pK x (gE set)from rfl]at *;simp only[go_sem,R6,Xaa];refine PC.use (TN x set (by omega) hE.apart hE.before) ?_;rw[Xbc,ht]at hP;unfold Ik at hP;simp only at hP;rw[show vW x set=pK x (gE set)from rfl]at hP;simp only[go_sem,R6];refine aA (fun al=>?_) (fun al=>?_)
 . simp only[go_sem,R6]
   refine aJ R6 (by simp only[go_sem]) ?_;generalize hP:aI _ j6 _=HP;replace R6:HP j6=some (pX cQ):=by rw[<-hP,aB];rfl
   clear hP;simp only[go_sem,R6];rw[if_pos al]at hP;rw[hP];exact .refl _
 rw[if_neg (by rw[al];simp)]at hP;clear hb al ar;simp only[go_sem,R6];refine Mt (a:=sT ⟨x,k0,set,0,cQ,false⟩) rfl ⟨by rw[oV];decide,?_⟩;refine aK fun js am=>?_
 have aj:j6≠js:=aQ R6 am;simp only[go_sem,R6];generalize ap:aI _ js _=HGs;replace R6:=(congrFun ap.symm j6).trans ((aD _ _ _ _ aj).trans R6);have R:HGs js=some (jX ⟨x,k0,set,0,cQ,false⟩):=by rw[<-ap,aB]
 clear ap am;refine PC.use (mX set) ?_;simp only[go_sem,R6,R,Xaa];have ah:=rQ set 63
 change (gE set).length<=63 at ah
 generalize gE set=M at *;clear ax;have a4:M.length<=63:=ah;refine⟨fun ρ H=>∃(k:Nat),k<=M.length/\ρ 1=int (k0:Nat)/\ρ 3=.rp (aG x) 0/\ρ 6=.op j6 0 0/\ρ 8=.op js 0 0/\ρ 45=.sl (M.map bJ)/\ρ 46=int (M.length:Nat)/\ρ 47=int k/\H j6=some (pX cQ)/\H js=some (jX ⟨x,k0,set,pK x (M.take k),cQ,false⟩),fun ρ _=>M.length-aT (ρ 47),⟨0,Xab _,by simp only[go_sem],by simp only[go_sem],by simp only[go_sem],by simp only[go_sem],by simp only[go_sem],by simp only[go_sem,Xaa],(by simp only[go_sem];rfl),R6,R⟩,?_⟩;clear R6 R;rintro ρ H ⟨k,az,O,I,J,Z,F,u,E,R6,R⟩;simp only[go_sem,O,I,J,Z,F,u,E];refine aA (fun ag=>?_) (fun aq=>?_)
 . have ag:=ltB (by simpa using ag)
   obtain⟨i,hi⟩:=aN ag;have b1:=inB ag;have hs:=QB x hi;have hb:=Qc x M k;have hV:=rK x.orders i;generalize pK x (M.take k)=T at *;simp only[go_sem,O,I,J,Z,F,u,E,aF hi,b1];refine BE [] (.q 0 (.q 1 (.q 2 (.q 4 (.q 5 (.q 6 (.a2 3 (.a1 7 (.q 8 (.q 9 (.q 10 (.q 11 (.a1 12 .nil)))))) 7 (.q 8 (.a1 3 (.q 9 (.q 10 (.q 11 (.a1 12 .nil)))))))))))))
     (fun ac H'=>ac 1=int (k0:Nat)/\ac 3=.rp (aG x) 0/\ac 6=.op j6 0 0/\ac 8=.op js 0 0/\ac 45=.sl (M.map bJ)/\ac 46=int (M.length:Nat)/\ac 47=int (k:Nat)/\H' j6=some (pX cQ)/\H' js=some (jX ⟨x,k0,set,pK x (M.take (k+1)),cQ,false⟩)) (by simp) (by kernel_rfl) (fun K' av Hp Hr hp hr _ a0=>?_) ?_
   . have aa:=(hr js (by simp)).trans R
     simp only[go_sem,O,I,J,Z,F,u,E];refine mE ?_ ?_
     . simp only[go_sem,O,I,J,Z,F,u,E,aa]
       refine PC.use (qO x.orders i) ?_;simp only[go_sem,O,I,J,Z,F,u,E,aa,Xaa];refine eM so3 aa (by simp[oV]) ?_;simp only[go_sem];refine oJ hr (by simp) (av _ _ ⟨by simp only[go_sem,O,I,J,Z,F,u,E],by simp only[go_sem,O,I,J,Z,F,u,E],by simp only[go_sem,O,I,J,Z,F,u,E],by simp only[go_sem,O,I,J,Z,F,u,E],by simp only[go_sem,O,I,J,Z,F,u,E],by simp only[go_sem,O,I,J,Z,F,u,E],by simp only[go_sem,O,I,J,Z,F,u,E],?_,?_⟩)
       . rw[aD _ _ _ _ aj];exact R6
       rw[hs,aB];refine congrArg (fun l=>some (⟨170,17,[l]⟩:Row)) ?_;rw[aR (by omega)];rfl
     . simp only[go_sem,O,I,J,Z,F,u,E,aa]
       refine PC.use (qO x.orders i) ?_;simp only[go_sem,O,I,J,Z,F,u,E,aa,Xaa];refine eM so3 aa (by simp[oV]) ?_;simp only[go_sem];refine oJ hr (by simp) (av _ _ ⟨by simp only[go_sem,O,I,J,Z,F,u,E],by simp only[go_sem,O,I,J,Z,F,u,E],by simp only[go_sem,O,I,J,Z,F,u,E],by simp only[go_sem,O,I,J,Z,F,u,E],by simp only[go_sem,O,I,J,Z,F,u,E],by simp only[go_sem,O,I,J,Z,F,u,E],by simp only[go_sem,O,I,J,Z,F,u,E],?_,?_⟩)
       . rw[aD _ _ _ _ aj];exact R6
       rw[hs,aB];refine congrArg (fun l=>some (⟨170,17,[l]⟩:Row)) ?_;rw[aR (by omega)];rfl
   clear R6 R O I J Z F u E;rintro ρ H ⟨O,I,J,Z,F,u,E,R6,R⟩;simp only[go_sem,O,I,J,Z,F,u,E,aP (show k<=4611686018427387904 by omega)];exact⟨⟨k+1,ag,rfl,R6,R⟩,by simp only[aE];omega⟩
 have aq:=geB az (by simpa using aq);subst aq;rw[Xag]at R;simp only[go_sem,O,I,J,Z,F,u,E,aF ht,bk];refine aK fun ad ae=>?_
 have af:js≠ad:=aQ R ae;have an:j6≠ad:=aQ R6 ae;simp only[go_sem,O,I,J,Z,F,u,E];refine aJ (aB _ _ _) (by simp[jZ]) ?_;generalize ak:aI (aI _ ad _) ad _=HGi;replace R6:=(congrFun ak.symm j6).trans ((aD _ _ _ _ an).trans ((aD _ _ _ _ an).trans R6));replace R:=(congrFun ak.symm js).trans ((aD _ _ _ _ af).trans ((aD _ _ _ _ af).trans R));have ai:HGi ad=some (kU t):=by rw[<-ak,aB];try rfl
 clear ak ae;simp only[go_sem,O,I,J,Z,F,u,E,ai];refine fE [ad] [(0,true),(1,true),(2,true),(3,true),(4,true),(5,true),(6,false),(7,false)] (by simp[ai]) (by kernel_rfl) fun Hp Hr hp hr _ a0=>?_
 have ay:=(hp ad (by simp)).trans ai;have aa:=(hr js (by simpa using af)).trans R;simp only[go_sem,O,I,J,Z,F,u,E,ay];refine LC.use (VG Hr js _ t t.start 0 ht aa) ?_;simp only[go_sem,O,I,J,Z,F,u,E];refine MC.use (RM t js 17 ⟨x,k0,set,pK x M,cQ,false⟩ ⟨ht,hE,hE.before,by show x.orders.length<=60;omega,by show pK x M<=16;omega⟩ Hr aa [] t.src (nR t [] t.start 0) (Xab _) (by show pK x M-0<17;omega) (FL t [] t.start 0)) ?_;have hB:=rJ t 17 ⟨x,k0,set,pK x M,cQ,false⟩ [] t.src (nR t [] t.start 0);generalize oH t 17 ⟨x,k0,set,pK x M,cQ,false⟩ [] t.src (nR t [] t.start 0)=s' at *;simp only[go_sem,O,I,J,Z,F,u,E];refine oJ hr (by simpa using af) ?_;have R2:aI HGi js (some (jX s')) js=some (jX s'):=aB _ _ _;have ab:aI HGi js (some (jX s')) j6=some (pX cQ):=(aD _ _ _ _ aj).trans R6;generalize aI HGi js (some (jX s'))=HX at *;clear R6 R ai;simp only[go_sem,O,I,J,Z,F,u,E,R2];refine aA (fun hb=>?_) (fun hb=>?_)
 . simp only[go_sem,O,I,J,Z,F,u,E,ab]
   refine aJ ab (by simp only[go_sem]) ?_;generalize hP:aI _ j6 _=HP;replace ab:HP j6=some (pX cQ):=by rw[<-hP,aB];rfl
   clear hP;simp only[go_sem,O,I,J,Z,F,u,E,ab];rw[if_neg (by simpa using hb)]at hP;rw[hP];exact .refl _
 simp only[go_sem,O,I,J,Z,F,u,E,R2,ab];refine aJ ab (by simp[dA]) ?_;generalize hP:aI _ j6 _=HP;replace ab:HP j6=some (pX s'.best):=by rw[<-hP,aB];rfl
 clear hP;simp only[go_sem,O,I,J,Z,F,u,E,ab];rw[if_pos (by simpa using hb)]at hP;rw[hP];exact .refl _
structure BestQ(x:Instance)(k:Nat)(set:Int)(c:Column):Prop where
 lt:k<x.types.length
 pos:0<set
 top:set<2^x.orders.length
 is:∃l,c=⟨(k:Nat),set,(gM x ⟨(k:Nat),0,[],l⟩).1,⟨(k:Nat),0,[],l⟩⟩/\(gM x ⟨(k:Nat),0,[],l⟩).2=0/\xR x set l/\l.length=vW x set
theorem WJ{x:Instance}{k:Nat}{set:Int}(hn:x.orders.length<=8)(h:(wR x (k:Nat) set).2=0):BestQ x k set (wR x (k:Nat) set).1:=by
 unfold wR at h |-;split at h
 . exact absurd h (by decide)
 split at h
 . exact absurd h (by decide)
 next hb _=>
 rw[Xbc]at *;split at h
 . exact absurd h (by decide)
 next t ht=>
 split at h
 case isFalse=>exact absurd h (by decide)
 next T=>
 have F:QN x (k:Nat) set=false:=by simpa using hb
 unfold QN at F;obtain⟨⟨⟨hk0,hk1⟩,hs0⟩,hs1⟩:((0<=(k:Int)/\(k:Int)<x.types.length)/\0<set)/\shV .shr .i64 set (x.orders.length:Nat)=0:=by
   simpa using F
 rw[rH (by omega)]at hs1;have I:set<2^x.orders.length:=by
   have Z:(0:Int)<2^x.orders.length:=Int.pow_pos (by decide);rcases Xbq set (2^x.orders.length)with h|h
   . exact h
   . have:=Int.le_ediv_of_mul_le Z (show 1*2^x.orders.length<=set by omega)
     omega
 rw[if_neg hb,if_neg (by assumption)];simp only[T,if_true];have u:=rJ t 17 ⟨x,k,set,vW x set,cQ,false⟩ [] t.src (nR t [] t.start 0);obtain⟨l,z1,J,O,M⟩:=D2 t 17 ⟨x,k,set,vW x set,cQ,false⟩ [] t.src (nR t [] t.start 0) (fun h=>Bool.noConfusion h) xR.nil T;unfold Ik;generalize oH t 17 ⟨x,k,set,vW x set,cQ,false⟩ [] t.src (nR t [] t.start 0)=s' at *;have E:lX s' l=⟨(k:Nat),0,[],l⟩:=by unfold lX;rw[u.kind]
 rw[E,u.x]at J;rw[u.x,u.set]at O;rw[u.total]at M;refine⟨by omega,hs0,I,l,?_,J,O,M⟩;rw[z1];unfold KF;rw[E,u.x,u.set,u.kind]
abbrev dQ(l:List Column):Row:=⟨43,7,l.map aS⟩
def E0(x:Instance)(kind set:Nat):List Column:=if((wR x (kind:Nat) (set:Nat)).2 == 0)=true then[(wR x (kind:Nat) (set:Nat)).1]else[]
def tM(x:Instance)(kind m:Nat):List Column:=(List.range m).flatMap fun s=>E0 x kind (s+1)
def Dy(x:Instance)(k:Nat):List Column:=(List.range k).flatMap fun kind=>tM x kind (2^x.orders.length-1)
def rL(x:Instance):List Column:=Dy x x.types.length
theorem Dm(x:Instance)(kind m:Nat):tM x kind (m+1)=tM x kind m++E0 x kind (m+1):=by
 unfold tM;rw[Xbr,List.flatMap_append];simp
theorem EO(x:Instance)(k:Nat):Dy x (k+1)=Dy x k++tM x k (2^x.orders.length-1):=by
 unfold Dy;rw[Xbr,List.flatMap_append];simp
theorem TX(x:Instance)(kind set:Nat):(E0 x kind set).length<=1:=by unfold E0;split <;> simp
theorem AC(x:Instance)(kind:Nat):∀m,(tM x kind m).length<=m
 | 0=>Xaf _
 | m+1=>by
   rw[Dm,Xac];have:=AC x kind m;have:=TX x kind (m+1);omega
theorem uB(x:Instance):∀k,(Dy x k).length<=k*2^x.orders.length
 | 0=>Xab _
 | k+1=>by
   rw[EO,Xac,Nat.succ_mul];have:=uB x k;have:=AC x k (2^x.orders.length-1);have u:0<2^x.orders.length:=Nat.two_pow_pos _;omega
theorem Un{x:Instance}{kind set:Nat}{c:Column}(u:x.orders.length<=8)(h:c∈E0 x kind set):BestQ x kind set c:=by
 unfold E0 at h;split at h
 next E=>
   have:=WJ (x:=x) (k:=kind) (set:=(set:Nat)) u (by simpa using E);rw[Xaq.1 h];exact this
 . cases h
theorem mC{x:Instance}{c:Column}(u:x.orders.length<=8)(h:c∈rL x):∃kind set:Nat,BestQ x kind set c:=by
 unfold rL Dy tM at h;obtain⟨kind,_,h⟩:=List.mem_flatMap.1 h;obtain⟨s,_,h⟩:=List.mem_flatMap.1 h;exact⟨kind,s+1,Un u h⟩
theorem N2(l:List Column)(c:Column):(⟨43,7,l.map aS++[aS c]⟩:Row)=dQ (l++[c]):=by
 show _=(⟨43,7,(l++[c]).map aS⟩:Row);rw[Xam];rfl
theorem SW{s n:Nat}(u:n<=8):shV .shr .i64 ((s:Nat):Int) ((n:Nat):Int)=((s/2^n:Nat):Int):=by
 rw[rH (by omega)];simp
theorem afI(x:Instance)(hE:EvalB x)(hn:x.orders.length<=8)(ht:x.types.length<=1000):NC prog 36 [.agg (aG x)] (dQ (rL x)) (fun j=>.tup [.os j,int 0]):=by
 refine ncb (fun t=>t == 4) Tryz.func36 ?_;unfold Tryz.f36;simp only[gdS];simp only[go_sem];refine aK fun j ah=>?_
 generalize ae:aI _ j _=HGj;have R:HGj j=some (dQ []):=by rw[<-ae,aB];try rfl
 clear ae ah;simp only[go_sem,R];refine⟨fun ρ H=>∃(k:Nat) (j:Nat),k<=x.types.length/\ρ 1=.rp (aG x) 0/\ρ 11=int (x.types.length:Nat)/\ρ 12=int k/\ρ 4=.os j/\H j=some (dQ (Dy x k)),fun ρ _=>x.types.length-aT (ρ 12),⟨0,j,Xab _,by simp only[go_sem],by simp only[go_sem,Xaa],(by simp only[go_sem];rfl),by simp only[go_sem],R⟩,?_⟩;rintro ρ H ⟨k,j,hk,F,u,E,I,R⟩;simp only[go_sem,F,u,E,I];refine aA (fun ac=>?_) (fun aa=>?_)
 . have ac:=ltB (by simpa using ac)
   have hs:=EO x k;have am:=uB x k;have h8:2^x.orders.length<=256:=Xaj (Xat (by decide) hn) (by decide);have hp:0<2^x.orders.length:=Nat.two_pow_pos _;have al:k*2^x.orders.length<=256000:=Xaj (Nat.mul_le_mul (show k<=1000 by omega) h8) (by decide);generalize ap:Dy x k=A at *;simp only[go_sem,F,u,E,I];refine⟨fun ρ H=>∃m j:Nat,m<=2^x.orders.length-1/\ρ 1=.rp (aG x) 0/\ρ 5=int (k:Nat)/\ρ 6=int (m+1:Nat)/\ρ 11=int x.types.length/\ρ 12=int (k:Nat)/\ρ 4=.os j/\H j=some (dQ (A++tM x k m)),fun ρ _=>2^x.orders.length-aT (ρ 6),⟨0,j,Xab _,by simp only[go_sem,F,u,E,I],by simp only[go_sem,F,u,E,I],(by simp only[go_sem,F,u,E,I];rfl),by simp only[go_sem,F,u,E,I],by simp only[go_sem,F,u,E,I],by simp only[go_sem,F,u,E,I],by simpa[tM]using R⟩,?_⟩;clear F I u E R;rintro ρ H ⟨m,j,hm,F,T,e6,u,E,I,R⟩;simp only[go_sem,F,I,T,e6,u,E,Xaa];refine⟨by omega,aA (fun ad=>?_) (fun af=>?_)⟩
   . rw[SW hn]at ad
     have ab:(m+1)/2^x.orders.length=0:=by
       have:(((m+1)/2^x.orders.length:Nat):Int)=0:=by simpa using ad
       omega
     have aj:m+1<2^x.orders.length:=(Nat.div_eq_zero_iff.1 ab).resolve_left (by omega);have O:=Dm x k m;have an:=AC x k m;simp only[go_sem,F,I,T,e6,u,E];refine PC.use (acH x (k:Nat) ((m+1:Nat):Int) hE hn) ?_;have ag:E0 x k (m+1)=if((wR x (k:Nat) ((m+1:Nat):Int)).2 == 0)=true then[(wR x (k:Nat) ((m+1:Nat):Int)).1]else[]:=rfl
     rw[ag]at O;generalize wR x (k:Nat) ((m+1:Nat):Int)=B at *;generalize tM x k m=KM at *;simp only[go_sem,F,I,T,e6,u,E];refine aK fun i7 Z=>?_
     have J:j≠i7:=aQ R Z;simp only[go_sem,F,I,T,e6,u,E,R];refine aJ (aB _ _ _) (by simp[dA]) ?_;generalize M:aI (aI _ i7 _) i7 _=HGi7;replace R:=(congrFun M.symm j).trans ((aD _ _ _ _ J).trans ((aD _ _ _ _ J).trans R));have R7:HGi7 i7=some (dQ [B.1]):=by rw[<-M,aB];try rfl
     clear M Z;simp only[go_sem,F,I,T,e6,u,E,R7,R];refine aA (fun hc=>?_) (fun hc=>?_)
     . rw[if_pos hc]at O
       simp only[go_sem,F,I,T,e6,u,E,R7];refine aX R ⟨rfl,rfl⟩ (by simp only[go_sem]) (by simp only[Xaa,Xac,Xad,List.length_nil];omega) (fun j2 ao=>?_);simp only[go_sem,F,I,T,e6,u,E,aP (show m+1<=4611686018427387904 by omega)];refine⟨⟨m+1,j2,by omega,rfl,rfl,?_⟩,by simp only[aE];omega⟩;rw[O,<-Xai,aB];exact congrArg some (N2 _ _)
     . rw[if_neg (by rw[hc];simp),Xah]at O
       simp only[go_sem,F,I,T,e6,u,E,aP (show m+1<=4611686018427387904 by omega)];refine⟨⟨m+1,j,by omega,rfl,rfl,?_⟩,by simp only[aE];omega⟩;rw[O];exact R
   . rw[SW hn]at af
     have ab:¬(m+1)/2^x.orders.length=0:=by
       have:¬(((m+1)/2^x.orders.length:Nat):Int)=0:=by simpa using af
       omega
     have ak:¬m+1<2^x.orders.length:=fun h=>ab (Nat.div_eq_of_lt h)
     have ai:m=2^x.orders.length-1:=by omega
     subst ai;simp only[go_sem,F,I,u,E,aP (show k<=4611686018427387904 by omega)];refine⟨⟨k+1,j,ac,rfl,rfl,?_⟩,by simp only[aE];omega⟩;rw[hs];exact R
 have aa:=geB hk (by simpa using aa);subst aa;simp only[go_sem,F,u,E,I];exact⟨j,rfl,R⟩
end Go.Proofs.YtohmomanmikphaaGreatDoor.Sq
end
section
namespace Go.Proofs.YtohmomanmikphaaGreatDoor.Sq
open Go.Proofs.Tryz(prog)
open Go.Aw Go.Aw.D Go.Proofs Ty
open Rx (bA.cutO C3 Db Ah)
open Mv (cH dK NC.pc aZ)
theorem Xz{g:Nat}{cap:List AV}{p:Column->Bool}(l:List Column)(hl:l.length<=4000000000000000000)(T:aC prog g=true)(hg:∀v∈l,PC prog g ((.agg (aS v))::cap) (boo (p v))):
   PC prog 68 [.sl (l.map aS),.fn g cap] (int (nA p l 0)):=by
 refine pcd Tryz.func68 ?_;unfold Tryz.f68;simp only[gdS];simp only[go_sem];refine⟨fun ρ _=>∃k:Nat,k<=l.length/\ρ 0=.sl (l.map aS)/\ρ 1=.fn g cap/\ρ 7=int l.length/\ρ 8=int k/\∀u∈l.take k,p u=false,fun ρ _=>l.length-aT (ρ 8),⟨0,Xab _,rfl,rfl,rfl,rfl,by simp⟩,?_⟩;rintro ρ H ⟨k,hk,h0,h1,M,I,O⟩;simp only[go_sem,h0,h1,M,I];refine aA (fun E=>?_) (fun F=>?_)
 . have E:=bD E
   obtain⟨u,J⟩:=aN E;have b1:=inB E;simp only[go_sem,h0,h1,M,I,aF J,b1,T];refine PC.use (hg u (Xae J)) ?_;simp only[go_sem,h0,h1,M,I];refine aA (fun Z=>?_) (fun Z=>?_)
   . simp only[go_sem,I]
     exact cH (by rw[nQ O J Z];omega)
   . simp only[go_sem,h0,h1,M,I,aP (show k<=4611686018427387904 by omega)]
     exact⟨⟨k+1,E,rfl,aZ (p:=fun u=>p u=false) J Z O⟩,by simp only[aE];omega⟩
 . have F:=bF hk F
   subst F;rw[Xag]at O;simp only[go_sem];exact cH (by rw[lM O])
theorem JV(u v:Column):oF (aS u) 0 (aS v)=aS v:=(rfl)
theorem Lo{g:Nat}{cap cap':List AV}{p:Column->Bool}(l:List Column)(H0:aH)(F:Nat)(hj:H0 F=some ⟨43,7,l.map aS⟩)(hl:l.length<=1000000000)(ad:aC prog g=true)(hg:∀v∈l,PC prog g ((.agg (aS v))::cap') (boo (p v)))
   (hc:∀H:aH,(∀k row,k≠F->H0 k=some row->H k=some row)->ConvL H cap cap') {K:AV->aH->Prop}
   (hK:∀(I:Nat) (H':aH),(∀k row,k≠F->H0 k=some row->H' k=some row)->(H0 I=none\/I=F)->H' I=some ⟨43,7,(l.filter fun v=> !p v).map aS⟩->K (.os I) H'):
   bA prog 37 [.os F,.fn g cap] H0 K:=by
 have aa:bA prog 37 [.os F,.fn g cap] H0 fun a H'=>K a H'\/∃j i row,a=.oz j 0 i/\H' j=some row/\i<=row.es.length/\∀I,H' I=none->K (.os I) (aI (aI H' j none) I (some ⟨row.e,row.sz,row.es.take i⟩)):=by
   refine bA.body (c:=Tryz.f37.body.getD .skip) (fun _=>false) mixed Tryz.func37 rfl (by kernel_rfl) ?_;unfold Tryz.f37;simp only[gdS];simp only[go_sem];refine dN.use ⟨[.sl (l.map aS),.fn g cap'],.cons _ _ _ _ (.row _ _ _ hj (ConvE.refl _)) (.cons _ _ _ _ (.fn _ _ _ (hc H0 fun _ _ _ h=>h)) .nil),Xz l (by omega) ad hg,rfl⟩ ?_;simp only[go_sem];refine aA (fun hb=>?_) (fun hb=>?_)
   . have hm:∀y∈l,p y=false:=C3 (Xch 0) (by simpa using hb)
     simp only[go_sem];refine .inl (hK F H0 (fun _ _ _ h=>h) (.inr rfl) ?_);rw[List.filter_eq_self.2 (fun v hv=>by rw[hm v hv];rfl)];exact hj
   obtain⟨i,y,hi,hy,ap,af⟩:=Db (p:=p) (l:=l) (by simpa using hb);have al:=(List.getElem?_eq_some_iff.1 hy).1;rw[Int.zero_add]at hi;rw[hi];simp only[go_sem,aP (show i<=4611686018427387904 by omega)];refine⟨fun ρ H=>∃(k m:Nat) (E:List Column),k<=l.length/\m<k/\ρ 0=.os F/\ρ 1=.fn g cap/\ρ 5=int m/\ρ 6=int k/\H F=some ⟨43,7,E.map aS⟩/\E.length=l.length/\E.take m=(l.take k).filter (fun v=> !p v)/\E.drop k=l.drop k/\∀q row,q≠F->H0 q=some row->H q=some row,fun ρ _=>l.length-aT (ρ 6),⟨i+1,i,l,al,Nat.lt_succ_self _,by simp only[go_sem],by simp only[go_sem],(by simp only[go_sem]),(by simp only[go_sem]),hj,rfl,?_,rfl,fun _ _ _ h=>h⟩,?_⟩
   . rw[bP hy,List.filter_append,List.filter_eq_self.2 (fun v hv=>by rw[af v hv];rfl)]
     simp[ap]
   rintro ρ H ⟨k,m,E,hk,au,h0,h1,J,O,R,hE,ht,hd,hs⟩;simp only[go_sem,h0,h1,J,O,R,Xaa];refine aA (fun T=>?_) (fun ac=>?_)
   . have T:k<l.length:=by simp at T;omega
     obtain⟨v,hv⟩:=aN T;have ao:E[k]?=some v:=by
       have h2:=congrArg (fun L=>L[0]?) hd;simp only[List.getElem?_drop,Nat.add_zero]at h2;rw[h2,hv]
     have b1:((0:Int)<=(k:Nat)/\((k:Nat):Int)<((E.length:Nat):Int)):=by omega
     have b2:((0:Int)<=(m:Nat)/\((m:Nat):Int)<((E.length:Nat):Int)):=by omega
     simp only[go_sem,h0,h1,J,O,R,Xaa,aF ao,b1,ad];refine⟨by omega,aK fun i7 h7=>?_⟩;have ah:F≠i7:=aQ R h7;simp only[go_sem,h0,h1,J,O];refine aJ (aB _ _ _) (by simp[dA]) ?_;generalize hG:aI (aI H i7 _) i7 _=HG;have R':HG F=some ⟨43,7,E.map aS⟩:=by rw[<-hG,aD _ _ _ _ ah,aD _ _ _ _ ah];exact R
     have R7:HG i7=some ⟨43,7,[aS v]⟩:=by rw[<-hG,aB];rfl
     have ab:∀q row,q≠F->H0 q=some row->HG q=some row:=fun q row hq h=>by
       have h2:=hs q row hq h;have:q≠i7:=fun e=>by rw[e,h7]at h2;cases h2
       rw[<-hG,aD _ _ _ _ this,aD _ _ _ _ this];exact h2
     clear hG h7 R hs;simp only[go_sem,h0,h1,J,O,R7,ad];refine dN.use ⟨(.agg (aS v))::cap',.cons _ _ _ _ (.refl _) (hc HG ab),hg v (Xae hv),rfl⟩ ?_;simp only[go_sem,h0,h1,J,O];refine lC (fun Z H'=>Z 0=.os F/\Z 1=.fn g cap/\Z 6=int k/\∃(m':Nat) (E':List Column),m'<k+1/\Z 5=int m'/\H' F=some ⟨43,7,E'.map aS⟩/\E'.length=l.length/\E'.take m'=(l.take (k+1)).filter (fun v=> !p v)/\E'.drop (k+1)=l.drop (k+1)/\∀q row,q≠F->H0 q=some row->H' q=some row) ?_ fun K' ai _ _=>aA (fun hb=>?_) (fun hb=>?_)
     rotate_left
     . have hp:p v=false:=by simpa using hb
       simp only[go_sem,h0,J,R7,R',Xaa,b2];refine aJ R' (by simp[dA];omega) ?_;simp only[go_sem,J,aP (show m<=4611686018427387904 by omega)];refine ai _ _ ⟨by simp only[go_sem,h0],by simp only[go_sem,h1],by simp only[go_sem,O],m+1,E.set m v,by omega,rfl,?_,by rw[Xbh,hE],?_,?_,fun q row hq h=>by rw[aD _ _ _ _ hq];exact ab q row hq h⟩
       . rw[aB,List.map_set]
         obtain⟨u,hu⟩:=aN (l:=E) (k:=m) (by omega);rw[aF hu];exact congrArg (fun x=>some (⟨43,7,(E.map aS).set m x⟩:Row)) (JV u v)
       . rw[Ah E (by omega),ht,bP hv,List.filter_append]
         simp[hp]
       . rw[List.drop_set_of_lt (by omega),<-List.drop_drop,hd,List.drop_drop]
     . have hp:p v=true:=by simpa using hb
       simp only[go_sem];refine ai _ _ ⟨by simp only[go_sem,h0],by simp only[go_sem,h1],by simp only[go_sem,O],m,E,by omega,by simp only[go_sem,J],R',hE,?_,?_,ab⟩
       . rw[ht,bP hv,List.filter_append]
         simp[hp]
       . rw[<-List.drop_drop,hd,List.drop_drop]
     rintro ρ H ⟨h0,h1,O,m',E',aj,J,R,am,ar,an,ak⟩;simp only[go_sem,O,aP (show k<=4611686018427387904 by omega)];exact⟨⟨k+1,m',E',T,aj,h0,h1,J,rfl,R,am,ar,an,ak⟩,by simp only[aE];omega⟩
   . have ac:k=l.length:=by simp at ac;omega
     subst ac;rw[Xag]at ht;have av:m<=E.length:=by omega
     simp only[go_sem,h0,J,R,Xaa];refine⟨by omega,Vx anE asE R (.inr ⟨_,rfl,rfl⟩) rfl ?_⟩;simp only[go_sem,h0,J,aB];refine⟨⟨by omega,by simp;omega⟩,.inr ⟨F,m,_,rfl,aB _ _ _,?_,fun I M=>?_⟩⟩
     . simp;omega
     have ae:I≠F:=fun e=>by rw[e,aB]at M;cases M
     rw[aD _ _ _ _ ae]at M;have ag:H0 I=none:=by
       cases e:H0 I with
       | none=>rfl
       | some row=>rw[hs I row ae e]at M;cases M
     refine hK I _ (fun q row hq h=>?_) (.inl ag) ?_
     . have aq:q≠I:=fun e=>by rw[e,ag]at h;cases h
       rw[aD _ _ _ _ aq,aD _ _ _ _ hq,aD _ _ _ _ hq];exact hs q row hq h
     . rw[aB]
       refine congrArg (fun L=>some (⟨43,7,L⟩:Row)) ?_;rw[List.take_append_of_le_length (by simp;omega),List.take_append_of_le_length (by simp;omega),Xan (by simp;omega),<-List.map_take,ht]
 exact bA.cutO aa
end Go.Proofs.YtohmomanmikphaaGreatDoor.Sq
end
section
namespace Go.Proofs.YtohmomanmikphaaGreatDoor.Nu
open Go.Aw Go.Aw.D Go.Proofs Ty Go.Nu Go.So Go.Sb
structure ColsOk(cols:List Column)(rates:List ByteArray):Prop where
 set:∀c∈cols,0<=c.set/\c.set<=9223372036854775807
 cl:cols.length<=1048576
 rl:rates.length<=1048576
 rs:∀s∈rates,s.size<=1048576
end Go.Proofs.YtohmomanmikphaaGreatDoor.Nu
end
section
namespace Go.Proofs.YtohmomanmikphaaGreatDoor.Nu
open Go.Proofs.Tryz(prog)
open Go.Aw Go.Aw.D Go.Proofs Ty Go.Nu Go.So Go.Sb
theorem RV{l:List Int}{d:Int}(h:xL l d=true):1<=(l.length:Int)/\(l.length:Int)<=3/\(l.length:Int)=d/\∀n∈l,0<=n/\n<=1000:=by
 unfold xL at h;split at h
 . cases h
 . next h1=>
   simp only[Xbt,not_or,Bool.not_eq_true,Xbl,bne_eq_false_iff_eq]at h1;have e:=kR.1 h1.1;exact⟨e.1,e.2,h1.2,fun n u=>kR.1 (Xao.1 h n u)⟩
theorem Uv{l:List Int}{d:Int}(h:eD l d=true):(l.length:Int)=d/\∀n∈l,0<=n/\n<=1000:=by
 unfold eD at h;split at h
 . next h1=>
   refine⟨h1,fun n u=>?_⟩;have:=Xao.1 h n u;simp at this;omega
 . cases h
theorem PV{x:Instance}(h:Acc x):LoadsOk x (jI x.types).toNat/\x.types≠[]:=by
 have u:x.types≠[]:=by
   intro h0;have:=h.types;rw[h0]at this;simp at this
 obtain⟨t,r,E⟩:=List.exists_cons_of_ne_nil u;have J:jI x.types=t.cap.length:=by rw[E];rfl
 have I:=RV (h.type t (by rw[E];exact List.mem_cons_self)).cap;have e:((jI x.types).toNat:Int)=jI x.types:=by omega
 refine⟨⟨by omega,by have:=h.orders;omega,by have:=h.types;omega,fun o F=>?_,fun t E=>?_⟩,u⟩
 . have:=Uv (h.order o F).load
   exact⟨by omega,this.2⟩
 . have:=RV (h.type t E).cap
   exact⟨by omega,this.2.2.2⟩
theorem Zh(c:Cut)(E:Nat)(h:0<=c.set)(u:c.set<9223372036854775808)(F:E<2^63):PC prog 159 [.agg (dS c),int E] (int (wT c.kind (c.set.toNat &&& E))):=by
 obtain⟨k,s,n⟩:=c;obtain⟨m,rfl⟩:=Int.eq_ofNat_of_zero_le h;have u:(m:Int)<9223372036854775808:=u;exact ahW k n m E (by omega) F
theorem aeB(c:Cut)(E:Nat)(h:0<=c.set)(u:c.set<9223372036854775808)(F:E<2^63):PC prog 78 [.agg (dS c),int E] (int (wT c.kind (c.set.toNat &&& E))):=by
 obtain⟨k,s,n⟩:=c;obtain⟨m,rfl⟩:=Int.eq_ofNat_of_zero_le h;have u:(m:Int)<9223372036854775808:=u;exact WO k n m E (by omega) F
end Go.Proofs.YtohmomanmikphaaGreatDoor.Nu
end
section
namespace Go.Proofs.YtohmomanmikphaaGreatDoor.Nu
open Go.Proofs.Tryz(prog)
open Go.Aw Go.Aw.D Go.Proofs Ty Go.Nu
open Dec (pU eL fS)
def aoF(x:Instance):List Nat:=(List.range x.orders.length).filter (DT (fun _=>true) x.orders)
def uE(x:Instance):List Int:=(aoF x).map fun i:Nat=>(i:Int)
def Ib(x:Instance)(k:Nat):List Int:=((List.range k).filter (DT (fun _=>true) x.orders)).map fun i:Nat=>(i:Int)
theorem QD{x:Instance}{k:Nat}{o:Order}(h:x.orders[k]?=some o):Ib x (k+1)=Ib x k++(if o.off=true then[]else[(k:Int)]):=by
 unfold Ib;rw[Xbr,List.filter_append,Xam];have e:=KX (q:=fun _=>true) h;rw[Xco]at e;cases u:o.off <;> simp[List.filter_cons,e,u]
theorem IG(x:Instance)(k:Nat):(Ib x k).length<=k:=by
 unfold Ib;rw[Xaa];exact Xaj (Xbo _ _) (by rw[Xau];exact Xaf _)
theorem FK(x:Instance):(uE x).length<=x.orders.length:=IG x _
theorem E6{p q:Nat->Bool}{n:Nat}(h1:∀i,i<n->p i=q i)(u:∀i,n<=i->p i=false):∀m,(List.range (n+m)).filter p=(List.range n).filter q
 | 0=>List.filter_congr fun i E=>h1 i (Xbi.1 E)
 | m+1=>by
   rw[<-Xcb,Xbr,List.filter_append,E6 h1 u m];simp[u (n+m) (by omega)]
theorem RY(x:Instance)(h:x.orders.length<=62):gE (acZ x:Nat)=uE x:=by
 unfold gE rI uE aoF
 congr 1
 obtain⟨m,hm⟩:∃m,63=x.orders.length+m:=⟨63-x.orders.length,by omega⟩;have F:∀i,(acZ x).testBit i=(decide (i<x.orders.length)&&DT (fun _=>true) x.orders i):=fun i=>Gc _ _ _
 have u:∀i:Nat,dT ((acZ x:Nat):Int) (i:Int)=(decide (i<x.orders.length)&&DT (fun _=>true) x.orders i):=by
   intro i;by_cases E:i<=62
   . rw[uG E,F]
   . unfold dT
     rw[decide_eq_false (show ¬((i:Int)<=62)by omega),decide_eq_false (show ¬i<x.orders.length by omega)];simp
 rw[hm];refine E6 (fun i E=>?_) (fun i E=>?_) m
 . rw[u,decide_eq_true E,Xaz]
 . rw[u,decide_eq_false (by omega),Bool.false_and]
def Bj(b:Bool):Int:=if b=true then 1 else 0
def BN(d:Decision):Bool:=d.kind == 3||d.kind == 4
theorem FJ(l:List Decision)(k:Nat):((l.take k).filter BN).length<=k:=Xaj (Xbo _ _) (by rw[Xal];omega)
theorem Dj{α:Type}{p:α->Bool}{l:List α}{k:Nat}{a:α}(h:l[k]?=some a):(l.take (k+1)).filter p=(l.take k).filter p++(if p a=true then[a]else[]):=by
 rw[bP h,List.filter_append];by_cases u:p a=true
 . simp[u]
 . simp[u]
theorem JT(b:Bool):PC prog 76 [boo b] (int (Bj b)):=by
 refine pcd Tryz.func76 ?_;unfold Tryz.f76;simp only[gdS];simp only[go_sem];refine aA (fun u=>?_) (fun u=>?_)
 . simp only[go_sem]
   subst u;exact .refl _
 . simp only[go_sem]
   subst u;exact .refl _
theorem aeK(s:Nat)(i:Int)(u:s<2^63):PC prog 77 [int s,int i] (boo (dT s i)):=by
 refine pcd Tryz.func77 ?_;unfold Tryz.f77;simp only[gdS];simp only[go_sem];refine⟨fun _=>by decide,?_⟩;refine cB ?_;unfold dT;rw[decide_eq_true (show((s:Nat):Int)>=0 by omega),Xaz];by_cases h:0<=i/\i<=62
 . obtain⟨n,rfl⟩:=Int.eq_ofNat_of_zero_le h.1
   rw[show IntKind.u64.wrap ((n:Nat):Int)=((n:Nat):Int)from by
     show((n:Nat):Int)%18446744073709551616=_;omega,rH (by omega)]
   have e:((2:Int)^n)=((2^n:Nat):Int):=by norm_cast
   rw[e,<-Int.natCast_ediv,Xcp (Int.natCast_nonneg _),Xbc,e,<-Int.natCast_ediv]
 . have:(decide (i>=0)&&decide (i<=62))=false:=by simp;omega
   rw[this];rfl
theorem adN(d:Decision):PC prog 79 [.agg (aW d)] (boo (BN d)):=by
 refine pcd Tryz.func79 ?_;unfold Tryz.f79;simp only[gdS];simp only[go_sem];exact .refl _
abbrev qZ(l:List Int):Row:=⟨3,1,l.map bJ⟩
theorem P2(x:Instance)(h:x.orders.length<=1048576):PC prog 75 [.agg (aG x)] (.sl ((uE x).map bJ)):=by
 refine pcb (fun t=>t == 3) Tryz.func75 ?_;unfold Tryz.f75;simp only[gdS];simp only[go_sem];refine aK fun j hj=>?_
 simp only[go_sem];refine⟨fun ρ H=>∃(k:Nat) (j:Nat),k<=x.orders.length/\ρ 1=.rp (aG x) 0/\ρ 4=int k/\ρ 3=.os j/\H j=some (qZ (Ib x k)),fun ρ _=>x.orders.length-aT (ρ 4),⟨0,j,Xab _,by simp only[go_sem],(by simp only[go_sem];rfl),by simp only[go_sem],aB _ _ _⟩,?_⟩;rintro ρ H ⟨k,j,hk,J,F,I,R⟩;simp only[go_sem,J,F,I];refine aA (fun u=>?_) (fun E=>?_)
 . have u:=ltB (by simpa using u)
   obtain⟨o,T⟩:=aN u;have b1:=inB u;have hl:=IG x k;have M:=QD T;simp only[go_sem,J,F,I,aF T,b1];refine aA (fun O=>?_) (fun O=>?_)
   . rw[if_neg (by simpa using O)]at M
     simp only[go_sem,J,F,I];refine aX R ⟨rfl,rfl⟩ ⟨rfl,trivial⟩ (by simp only[Xaa,Xad,List.length_nil];omega) (fun j' Z=>?_);simp only[go_sem,J,F,I,aP (show k<=4611686018427387904 by omega)];refine⟨⟨k+1,j',u,rfl,rfl,?_⟩,by simp only[aE];omega⟩;rw[M];exact jU rfl
   . rw[if_pos (by simpa using O),Xah]at M
     simp only[go_sem,J,F,I,aP (show k<=4611686018427387904 by omega)];exact⟨⟨k+1,j,u,rfl,rfl,by rw[M];exact R⟩,by simp only[aE];omega⟩
 have E:=geB hk (by simpa using E);subst E;simp only[go_sem,J,F,I];exact .row _ _ _ R (ConvE.refl _)
def SV(x:Instance)(cuts:List Cut)(ds:List Decision):Nat:=(uE x).length+x.types.length+cuts.length+(ds.filter BN).length
structure MIn(x:Instance)(cuts:List Cut)(ds:List Decision):Prop where
 orders:x.orders.length<=62
 types:x.types.length<=1048576
 cl:cuts.length<=1048576
 dl:ds.length<=1048576
def lV(x:Instance)(c:Column):List Int:=(uE x).map fun i=>Bj (dT c.set i)
def jL(x:Instance)(c:Column)(k:Nat):List Int:=(List.range k).map fun t:Nat=>Bj (c.type == (t:Int))
def lT(c:Column)(cuts:List Cut):List Int:=cuts.map fun q=>wT q.kind (q.set.toNat &&& c.set.toNat)
def lR(c:Column)(ds:List Decision):List Int:=(ds.filter BN).map fun d=>Bj (c.type == d.a)
def lA(x:Instance)(c:Column)(cuts:List Cut)(ds:List Decision):List Int:=lV x c++jL x c x.types.length++lT c cuts++lR c ds
structure ColB(c:Column):Prop where
 set:0<=c.set/\c.set<=9223372036854775807
structure CutsB(cuts:List Cut):Prop where
 set:∀q∈cuts,0<=q.set/\q.set<=9223372036854775807
theorem UX(x:Instance)(c:Column)(cuts:List Cut)(ds:List Decision)(h:MIn x cuts ds)(hc:ColB c)(hq:CutsB cuts):
   PC prog 44 [.agg (aG x),.agg (aS c),.sl (cuts.map dS),.sl (ds.map aW)] (.sl ((lA x c cuts ds).map bJ)):=by
 have h1:=h.orders;have h2:=h.types;have h3:=h.cl;have h4:=h.dl;have aj:=FK x;obtain⟨sn,ae⟩:=Int.eq_ofNat_of_zero_le hc.set.1;have ac:sn<2^63:=by have:=hc.set.2;omega
 refine pcb (fun t=>t == 9) Tryz.func44 ?_;unfold Tryz.f44;simp only[gdS];simp only[go_sem];refine aK fun j hj=>?_
 simp only[go_sem];refine PC.use (P2 x (by omega)) ?_;simp only[go_sem];refine⟨fun ρ H=>∃(k:Nat) (j:Nat),k<=(uE x).length/\ρ 2=.sl (cuts.map dS)/\ρ 3=.sl (ds.map aW)/\ρ 4=.rp (aG x) 0/\ρ 5=.rp (aS c) 0/\ρ 10=.sl ((uE x).map bJ)/\ρ 11=int k/\ρ 9=.os j/\H j=some (qZ (((uE x).take k).map fun i=>Bj (dT c.set i))),fun ρ _=>(uE x).length-aT (ρ 11),⟨0,j,Xab _,by simp only[go_sem],by simp only[go_sem],by simp only[go_sem],by simp only[go_sem],by simp only[go_sem],(by simp only[go_sem];rfl),by simp only[go_sem],aB _ _ _⟩,?_⟩;rintro ρ H ⟨k,j,hk,M,F,T,E,Z,aa,I,R⟩;simp only[go_sem,M,F,T,E,Z,aa,I];refine aA (fun u=>?_) (fun J=>?_)
 . have u:=ltB (by simpa using u)
   obtain⟨i,hi⟩:=aN u;have b1:=inB u;simp only[go_sem,M,F,T,E,Z,aa,I,aF hi,b1];refine sM [(0,true),(1,true),(2,true),(3,true),(4,true),(5,true),(6,true),(7,false),(8,false),(9,false),(10,false),(11,false)] (by kernel_rfl) ?_;simp only[go_sem,M,F,T,E,Z,aa,I,aF hi,b1,ae];refine PC.use (aeK sn i ac) ?_;simp only[go_sem,M,F,T,E,Z,aa,I];refine PC.use (JT _) ?_;simp only[go_sem,M,F,T,E,Z,aa,I];refine aX R ⟨rfl,rfl⟩ ⟨rfl,trivial⟩ (by simp only[Xaa,Xal,Xad,List.length_nil];omega) (fun j' ah=>?_);simp only[go_sem,M,F,T,E,Z,aa,I,aP (show k<=4611686018427387904 by omega)];refine⟨⟨k+1,j',u,rfl,rfl,?_⟩,by simp only[aE];omega⟩;rw[bP hi,Xam,ae];exact jU rfl
 have J:=geB hk (by simpa using J);subst J;rw[Xag]at R
 change H j=some (qZ (lV x c))at R
 simp only[go_sem,M,F,T,E,Z,aa,I];refine⟨fun ρ H=>∃(k:Nat) (j:Nat),k<=x.types.length/\ρ 2=.sl (cuts.map dS)/\ρ 3=.sl (ds.map aW)/\ρ 4=.rp (aG x) 0/\ρ 5=.rp (aS c) 0/\ρ 12=int k/\ρ 9=.os j/\H j=some (qZ (lV x c++jL x c k)),fun ρ _=>x.types.length-aT (ρ 12),⟨0,j,Xab _,by simp only[go_sem,M,F,T,E],by simp only[go_sem,M,F,T,E],by simp only[go_sem,M,F,T,E],by simp only[go_sem,M,F,T,E],(by simp only[go_sem,M,F,T,E];rfl),by simp only[go_sem,I],by simpa[jL]using R⟩,?_⟩;rintro ρ H ⟨k,j,hk,M,F,T,E,ad,I,R⟩;simp only[go_sem,M,F,T,E,ad,I];refine aA (fun u=>?_) (fun J=>?_)
 . have u:=ltB (by simpa using u)
   have ag:(lV x c++jL x c k).length<=62+k:=by unfold lV jL;simp only[Xac,Xaa,Xau];omega
   simp only[go_sem,M,F,T,E,ad,I];refine PC.use (JT _) ?_;simp only[go_sem,M,F,T,E,ad,I];refine aX R ⟨rfl,rfl⟩ ⟨rfl,trivial⟩ (by simp only[Xaa,Xad,List.length_nil];omega) (fun j' ah=>?_);simp only[go_sem,M,F,T,E,ad,I,aP (show k<=4611686018427387904 by omega)];refine⟨⟨k+1,j',u,rfl,rfl,?_⟩,by simp only[aE];omega⟩;have:jL x c (k+1)=jL x c k++[Bj (c.type == (k:Int))]:=by unfold jL;rw[Xbr,Xam];rfl
   rw[this,<-Xai];exact jU rfl
 have J:=geB hk (by simpa using J);subst J;simp only[go_sem,M,F,T,E,ad,I];refine⟨fun ρ H=>∃(k:Nat) (j:Nat),k<=cuts.length/\ρ 2=.sl (cuts.map dS)/\ρ 3=.sl (ds.map aW)/\ρ 5=.rp (aS c) 0/\ρ 13=int k/\ρ 9=.os j/\H j=some (qZ (lV x c++jL x c x.types.length++lT c (cuts.take k))),fun ρ _=>cuts.length-aT (ρ 13),⟨0,j,Xab _,by simp only[go_sem,M,F,E],by simp only[go_sem,M,F,E],by simp only[go_sem,M,F,E],(by simp only[go_sem,M,F,E];rfl),by simp only[go_sem,I],by simpa[lT]using R⟩,?_⟩;rintro ρ H ⟨k,j,hk,M,F,E,ab,I,R⟩;simp only[go_sem,M,F,E,ab,I];refine aA (fun u=>?_) (fun J=>?_)
 . have u:=ltB (by simpa using u)
   obtain⟨q,af⟩:=aN u;have b1:=inB u;have ai:=hq.set q (Xae af);have ag:(lV x c++jL x c x.types.length++lT c (cuts.take k)).length<=62+1048576+1048576:=by unfold lV jL lT;simp only[Xac,Xaa,Xau,Xal];omega
   simp only[go_sem,M,F,E,ab,I,aF af,b1];refine sM [(0,true),(1,true),(2,true),(3,true),(4,true),(5,true),(6,true),(7,false),(8,false),(9,false),(10,false)] (by kernel_rfl) ?_;simp only[go_sem,M,F,E,ab,I,aF af,b1,ae];refine PC.use (aeB q sn ai.1 (by omega) ac) ?_;simp only[go_sem,M,F,E,ab,I];refine aX R ⟨rfl,rfl⟩ ⟨rfl,trivial⟩ (by simp only[Xaa,Xad,List.length_nil];omega) (fun j' ah=>?_);simp only[go_sem,M,F,E,ab,I,aP (show k<=4611686018427387904 by omega)];refine⟨⟨k+1,j',u,rfl,rfl,?_⟩,by simp only[aE];omega⟩;have:lT c (cuts.take (k+1))=lT c (cuts.take k)++[wT q.kind (q.set.toNat &&& sn)]:=by unfold lT;rw[bP af,Xam,ae];rfl
   rw[this,<-Xai];exact jU rfl
 have J:=geB hk (by simpa using J);subst J;rw[Xag]at R;simp only[go_sem,M,F,E,ab,I];refine⟨fun ρ H=>∃(k:Nat) (j:Nat),k<=ds.length/\ρ 3=.sl (ds.map aW)/\ρ 5=.rp (aS c) 0/\ρ 14=int k/\ρ 9=.os j/\H j=some (qZ (lV x c++jL x c x.types.length++lT c cuts++lR c (ds.take k))),fun ρ _=>ds.length-aT (ρ 14),⟨0,j,Xab _,by simp only[go_sem,F,E],by simp only[go_sem,F,E],(by simp only[go_sem,F,E];rfl),by simp only[go_sem,I],by simpa[lR]using R⟩,?_⟩;rintro ρ H ⟨k,j,hk,F,E,O,I,R⟩;simp only[go_sem,F,E,O,I];refine aA (fun u=>?_) (fun J=>?_)
 . have u:=ltB (by simpa using u)
   obtain⟨d,hd⟩:=aN u;have b1:=inB u;have hs:=Dj (p:=BN) hd;have ag:(lV x c++jL x c x.types.length++lT c cuts++lR c (ds.take k)).length<=62+1048576+1048576+1048576:=by
     have:=FJ ds k;unfold lV jL lT lR;simp only[Xac,Xaa,Xau];omega
   simp only[go_sem,F,E,O,I,aF hd,b1];refine PC.use (adN d) ?_;simp only[go_sem,F,E,O,I];refine aA (fun hb=>?_) (fun hb=>?_)
   . rw[if_pos hb]at hs
     have:lR c (ds.take (k+1))=lR c (ds.take k)++[Bj (d.a == c.type)]:=by
       unfold lR;rw[hs,Xam,Xav,Xbg,show(d.a == c.type)=(c.type == d.a)from BEq.comm]
     simp only[go_sem,F,E,O,I];refine sM [(0,true),(1,true),(2,true),(3,true),(4,true),(5,true),(6,true),(7,true),(8,true),(9,false),(10,false),(11,false),(12,false)] (by kernel_rfl) ?_;simp only[go_sem,F,E,O,I,aF hd,b1];refine PC.use (JT _) ?_;simp only[go_sem,F,E,O,I];refine aX R ⟨rfl,rfl⟩ ⟨rfl,trivial⟩ (by simp only[Xaa,Xad,List.length_nil];omega) (fun j' ah=>?_);simp only[go_sem,F,E,O,I,aP (show k<=4611686018427387904 by omega)];refine⟨⟨k+1,j',u,rfl,rfl,?_⟩,by simp only[aE];omega⟩;rw[this,<-Xai];exact jU rfl
   . rw[if_neg (by rw[hb];simp),Xah]at hs
     simp only[go_sem,F,E,O,I,aP (show k<=4611686018427387904 by omega)];refine⟨⟨k+1,j,u,rfl,rfl,?_⟩,by simp only[aE];omega⟩;have:lR c (ds.take (k+1))=lR c (ds.take k):=by unfold lR;rw[hs]
     rw[this];exact R
 have J:=geB hk (by simpa using J);subst J;rw[Xag]at R;simp only[go_sem,F,E,O,I];exact .row _ _ _ R (ConvE.refl _)
theorem agY(d:Decision):PC prog 160 [.agg (aW d)] (boo (BN d)):=by
 refine pcd Tryz.func160 ?_;unfold Tryz.f160;simp only[gdS];simp only[go_sem];exact .refl _
theorem Ws(b:Bool):PC prog 158 [boo b] (int (Bj b)):=by
 refine pcd Tryz.func158 ?_;unfold Tryz.f158;simp only[gdS];simp only[go_sem];refine aA (fun u=>?_) (fun u=>?_)
 . simp only[go_sem]
   subst u;exact .refl _
 . simp only[go_sem]
   subst u;exact .refl _
theorem abW(x:Instance)(c:Column)(cuts:List Cut)(ds:List Decision)(h:MIn x cuts ds)(hc:ColB c)(hq:CutsB cuts):
   PC prog 96 [.agg (aG x),.agg (aS c),.sl (cuts.map dS),.sl (ds.map aW)] (.sl ((lA x c cuts ds).map bJ)):=by
 have h1:=h.orders;have h2:=h.types;have h3:=h.cl;have h4:=h.dl;have a4:=FK x;obtain⟨sn,av⟩:=Int.eq_ofNat_of_zero_le hc.set.1;have aq:sn<2^63:=by have:=hc.set.2;omega
 refine pcb (fun t=>t == 9) Tryz.func96 ?_;unfold Tryz.f96;simp only[gdS];simp only[go_sem];refine aK fun j ay=>?_
 generalize aw:aI _ j _=HGj;have R:HGj j=some (qZ []):=by rw[<-aw,aB];try rfl
 clear aw ay;simp only[go_sem,R];refine PC.use (afS x h1) ?_;simp only[go_sem];refine PC.use (mX _) ?_;rw[RY x h1];simp only[go_sem];refine⟨fun ρ H=>∃(k:Nat) (j:Nat),k<=(uE x).length/\ρ 2=.sl (cuts.map dS)/\ρ 3=.sl (ds.map aW)/\ρ 4=.rp (aG x) 0/\ρ 5=.rp (aS c) 0/\ρ 19=.sl ((uE x).map bJ)/\ρ 20=int ((uE x).length:Nat)/\ρ 21=int k/\ρ 9=.os j/\H j=some (qZ (((uE x).take k).map fun i=>Bj (dT c.set i))),fun ρ _=>(uE x).length-aT (ρ 21),⟨0,j,Xab _,by simp only[go_sem],by simp only[go_sem],by simp only[go_sem],by simp only[go_sem],by simp only[go_sem],by simp only[go_sem,Xaa],(by simp only[go_sem];rfl),by simp only[go_sem],R⟩,?_⟩;rintro ρ H ⟨k,j,hk,e2,J,e4,u,ah,ag,ai,F,R⟩;simp only[go_sem,e2,J,e4,u,ah,ag,ai,F];refine aA (fun E=>?_) (fun I=>?_)
 . have E:=ltB (by simpa using E)
   obtain⟨i,hi⟩:=aN E;have b1:=inB E;simp only[go_sem,e2,J,e4,u,ah,ag,ai,F,aF hi,b1];refine PC.use (wI _ i) ?_;simp only[go_sem,e2,J,e4,u,ah,ag,ai,F];refine PC.use (Ws _) ?_;simp only[go_sem,e2,J,e4,u,ah,ag,ai,F];refine aX R ⟨rfl,rfl⟩ ⟨rfl,trivial⟩ (by simp only[Xaa,Xal,Xad,List.length_nil];omega) (fun j' au=>?_);simp only[go_sem,e2,J,e4,u,ah,ag,ai,F,aP (show k<=4611686018427387904 by omega)];refine⟨⟨k+1,j',E,rfl,rfl,?_⟩,by simp only[aE];omega⟩;rw[bP hi,Xam];exact jU rfl
 have I:=geB hk (by simpa using I);subst I;rw[Xag]at R
 change H j=some (qZ (lV x c))at R
 simp only[go_sem,e2,J,e4,u,ah,ag,ai,F,Xaa];refine⟨fun ρ H=>∃(k:Nat) (j:Nat),k<=x.types.length/\ρ 2=.sl (cuts.map dS)/\ρ 3=.sl (ds.map aW)/\ρ 5=.rp (aS c) 0/\ρ 36=int (x.types.length:Nat)/\ρ 37=int k/\ρ 9=.os j/\H j=some (qZ (lV x c++jL x c k)),fun ρ _=>x.types.length-aT (ρ 37),⟨0,j,Xab _,by simp only[go_sem,e2,J,u],by simp only[go_sem,e2,J,u],by simp only[go_sem,e2,J,u],by simp only[go_sem,Xaa,e2,J,u],(by simp only[go_sem,e2,J,u];rfl),by simp only[go_sem,F],by simpa[jL]using R⟩,?_⟩;rintro ρ H ⟨k,j,hk,e2,J,u,am,ak,F,R⟩;simp only[go_sem,e2,J,u,am,ak,F];refine aA (fun E=>?_) (fun I=>?_)
 . have E:=ltB (by simpa using E)
   have ap:(lV x c++jL x c k).length<=62+k:=by unfold lV jL;simp only[Xac,Xaa,Xau];omega
   simp only[go_sem,e2,J,u,am,ak,F];refine PC.use (Ws _) ?_;simp only[go_sem,e2,J,u,am,ak,F];refine aX R ⟨rfl,rfl⟩ ⟨rfl,trivial⟩ (by simp only[Xaa,Xad,List.length_nil];omega) (fun j' au=>?_);simp only[go_sem,e2,J,u,am,ak,F,aP (show k<=4611686018427387904 by omega)];refine⟨⟨k+1,j',E,rfl,rfl,?_⟩,by simp only[aE];omega⟩;have:jL x c (k+1)=jL x c k++[Bj (c.type == (k:Int))]:=by unfold jL;rw[Xbr,Xam];rfl
   rw[this,<-Xai];exact jU rfl
 have I:=geB hk (by simpa using I);subst I;simp only[go_sem,e2,J,u,am,ak,F,Xaa];refine⟨fun ρ H=>∃(k:Nat) (j:Nat),k<=cuts.length/\ρ 3=.sl (ds.map aW)/\ρ 5=.rp (aS c) 0/\ρ 49=.sl (cuts.map dS)/\ρ 50=int (cuts.length:Nat)/\ρ 51=int k/\ρ 9=.os j/\H j=some (qZ (lV x c++jL x c x.types.length++lT c (cuts.take k))),fun ρ _=>cuts.length-aT (ρ 51),⟨0,j,Xab _,by simp only[go_sem,J,u],by simp only[go_sem,J,u],by simp only[go_sem,J,u],by simp only[go_sem,Xaa,J,u],(by simp only[go_sem,J,u];rfl),by simp only[go_sem,F],by simpa[lT]using R⟩,?_⟩;rintro ρ H ⟨k,j,hk,J,u,ae,ab,af,F,R⟩;simp only[go_sem,J,u,ae,ab,af,F];refine aA (fun E=>?_) (fun I=>?_)
 . have E:=ltB (by simpa using E)
   obtain⟨q,ar⟩:=aN E;have b1:=inB E;have az:=hq.set q (Xae ar);have ap:(lV x c++jL x c x.types.length++lT c (cuts.take k)).length<=62+1048576+1048576:=by unfold lV jL lT;simp only[Xac,Xaa,Xau,Xal];omega
   simp only[go_sem,J,u,ae,ab,af,F,aF ar,b1];refine aK fun an aj=>?_
   have aa:j≠an:=aQ R aj;simp only[go_sem,J,u,ae,ab,af,F,R];refine aJ (aB _ _ _) (by simp[wC]) ?_;generalize ac:aI (aI _ an _) an _=HGi14;replace R:=(congrFun ac.symm j).trans ((aD _ _ _ _ aa).trans ((aD _ _ _ _ aa).trans R));have a0:HGi14 an=some (⟨115,3,[dS q]⟩):=by rw[<-ac,aB];try rfl
   clear ac aj;simp only[go_sem,J,u,ae,ab,af,F,a0,R];rw[av];refine PC.use (Zh q sn az.1 (by omega) aq) ?_;simp only[go_sem,J,u,ae,ab,af,F];refine aX R ⟨rfl,rfl⟩ ⟨rfl,trivial⟩ (by simp only[Xaa,Xad,List.length_nil];omega) (fun j' au=>?_);simp only[go_sem,J,u,ae,ab,af,F,aP (show k<=4611686018427387904 by omega)];refine⟨⟨k+1,j',E,rfl,rfl,?_⟩,by simp only[aE];omega⟩;have:lT c (cuts.take (k+1))=lT c (cuts.take k)++[wT q.kind (q.set.toNat &&& sn)]:=by unfold lT;rw[bP ar,Xam,av];rfl
   rw[this,<-Xai];exact jU rfl
 have I:=geB hk (by simpa using I);subst I;rw[Xag]at R;simp only[go_sem,J,u,ae,ab,af,F,Xaa];refine⟨fun ρ H=>∃(k:Nat) (j:Nat),k<=ds.length/\ρ 5=.rp (aS c) 0/\ρ 63=.sl (ds.map aW)/\ρ 64=int (ds.length:Nat)/\ρ 65=int k/\ρ 9=.os j/\H j=some (qZ (lV x c++jL x c x.types.length++lT c cuts++lR c (ds.take k))),fun ρ _=>ds.length-aT (ρ 65),⟨0,j,Xab _,by simp only[go_sem,u],by simp only[go_sem,u],by simp only[go_sem,Xaa,u],(by simp only[go_sem,u];rfl),by simp only[go_sem,F],by simpa[lR]using R⟩,?_⟩;rintro ρ H ⟨k,j,hk,u,O,M,T,F,R⟩;simp only[go_sem,u,O,M,T,F];refine aA (fun E=>?_) (fun I=>?_)
 . have E:=ltB (by simpa using E)
   obtain⟨d,hd⟩:=aN E;have b1:=inB E;have hs:=Dj (p:=BN) hd;have ap:(lV x c++jL x c x.types.length++lT c cuts++lR c (ds.take k)).length<=62+1048576+1048576+1048576:=by
     have:=FJ ds k;unfold lV jL lT lR;simp only[Xac,Xaa,Xau];omega
   simp only[go_sem,u,O,M,T,F,aF hd,b1];refine aK fun ao al=>?_
   have Z:j≠ao:=aQ R al;simp only[go_sem,u,O,M,T,F,R];refine aJ (aB _ _ _) (by simp[kI]) ?_;generalize ad:aI (aI _ ao _) ao _=HGi16;replace R:=(congrFun ad.symm j).trans ((aD _ _ _ _ Z).trans ((aD _ _ _ _ Z).trans R));have ax:HGi16 ao=some (⟨95,4,[aW d]⟩):=by rw[<-ad,aB];try rfl
   clear ad al;simp only[go_sem,u,O,M,T,F,ax,R];refine PC.use (agY d) ?_;simp only[go_sem,u,O,M,T,F];refine aA (fun hb=>?_) (fun hb=>?_)
   . rw[if_pos hb]at hs
     have:lR c (ds.take (k+1))=lR c (ds.take k)++[Bj (c.type == d.a)]:=by
       unfold lR;rw[hs,Xam,Xav,Xbg]
     simp only[go_sem,u,O,M,T,F,ax];refine PC.use (Ws _) ?_;simp only[go_sem,u,O,M,T,F];refine aX R ⟨rfl,rfl⟩ ⟨rfl,trivial⟩ (by simp only[Xaa,Xad,List.length_nil];omega) (fun j' au=>?_);simp only[go_sem,u,O,M,T,F,aP (show k<=4611686018427387904 by omega)];refine⟨⟨k+1,j',E,rfl,rfl,?_⟩,by simp only[aE];omega⟩;rw[this,<-Xai];exact jU rfl
   . rw[if_neg (by rw[hb];simp),Xah]at hs
     simp only[go_sem,u,O,M,T,F,aP (show k<=4611686018427387904 by omega)];refine⟨⟨k+1,j,E,rfl,rfl,?_⟩,by simp only[aE];omega⟩;have:lR c (ds.take (k+1))=lR c (ds.take k):=by unfold lR;rw[hs]
     rw[this];exact R
 have I:=geB hk (by simpa using I);subst I;rw[Xag]at R;simp only[go_sem,u,O,M,T,F];exact .row _ _ _ R (ConvE.refl _)
end Go.Proofs.YtohmomanmikphaaGreatDoor.Nu
end
