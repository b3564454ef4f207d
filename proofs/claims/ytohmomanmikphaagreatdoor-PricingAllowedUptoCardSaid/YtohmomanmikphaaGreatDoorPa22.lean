import Derived.Test.YtohmomanmikphaaGreatDoorPa19
import Derived.Test.YtohmomanmikphaaGreatDoorPa20
set_option linter.unusedSimpArgs false
set_option linter.unusedVariables false
set_option maxRecDepth 100000
namespace Go.Proofs.YtohmomanmikphaaGreatDoor
open Go.Aw Go.Aw.D Go.Proofs Ty
namespace Sq
open Go.Proofs.Tryz(prog)
open Go.Proofs.YtohmomanmikphaaGreatDoor.Nu (ltB geB)
open Mv (bJ bR aM)
def anZ(s:Score):Int:=IntKind.i64.wrap (IntKind.i64.wrap (IntKind.i64.wrap (IntKind.i64.wrap (IntKind.i64.wrap (IntKind.i64.wrap (s.cost*16)+s.moved)*16)+s.other)*65536)+s.work)
def lZ(s:Score):Int×Int:=if(decide (s.cost<0)||decide (s.moved<0)||decide (s.other<0)||decide (s.work<0))=true then(0,2)
 else if(decide (s.cost>1073741824)||decide (s.moved>=16)||decide (s.other>=16)||decide (s.work>=65536))=true then(0,4)else(anZ s,0)
theorem aaB(s:Score):PC prog 277 [.agg (cD s)] (.agg (cD s)):=by
 refine pcd Tryz.func277 ?_;unfold Tryz.f277;simp only[gdS];simp only[go_sem];refine aL fun j E=>?_
 simp only[go_sem];refine aH (aA _ _ _) (by simp) ?_;simp only[go_sem];exact .refl _
theorem XP(s:Score):PC prog 241 [.agg (cD s)] (.tup [int (lZ s).1,int (lZ s).2]):=by
 refine pcd Tryz.func241 ?_;unfold Tryz.f241;simp only[gdS];simp only[go_sem];refine PC.use (aaB s) ?_;simp only[go_sem];refine aL fun j Z=>?_
 simp only[go_sem];refine aH (aA _ _ _) (by simp[jX]) ?_;generalize X:aI (aI _ j _) j _=HGj;have R:HGj j=some (⟨293,4,[cD s]⟩):=by rw[<-X,aA];try rfl
 clear X Z;simp only[go_sem,R];refine⟨fun ρ H=>∃(k:Nat),k<=4/\ρ 1=.rp (cD s) 0/\ρ 9=.agg (cD s)/\ρ 10=int k/\(∀e∈[s.cost,s.moved,s.other,s.work].take k,¬e<0),fun ρ _=>4-aV (ρ 10),⟨0,Xab _,by simp only[go_sem],by simp only[go_sem],(by simp only[go_sem];rfl),by simp⟩,?_⟩;rintro ρ H ⟨k,hk,O,J,E,V⟩;simp only[go_sem,O,J,E];refine aB (fun F=>?_) (fun I=>?_)
 . have F:k<4:=by simp at F;omega
   obtain⟨e,Y⟩:=aN (l:=[s.cost,s.moved,s.other,s.work]) (show k<[s.cost,s.moved,s.other,s.work].length from F);have hg:(cD s).getD k .any=int e:=by
     have:cD s=[s.cost,s.moved,s.other,s.work].map fun n=>int n:=rfl
     rw[this,List.getD,List.getElem?_map,Y];rfl
   simp only[go_sem,O,J,E];refine⟨by omega,by omega,?_⟩;rw[Nat.mul_one,hg];simp only[go_sem,O,J,E];refine aB (fun U=>?_) (fun U=>?_)
   . simp only[go_sem]
     have hm:=Xac Y;simp only[Xbe,List.not_mem_nil,or_false]at hm;have e:lZ s=(0,2):=if_pos (by simp at U |-;rcases hm with h|h|h|h <;> omega);rw[e];exact .refl _
   . simp only[go_sem,O,J,E,aT (show k<=4611686018427387904 by omega)]
     refine⟨⟨k+1,F,rfl,aM (p:=fun e:Int=>¬e<0) Y (by simpa using U) V⟩,by simp only[aE];omega⟩
 have I:k=4:=by simp at I;omega
 subst I;have U:¬(decide (s.cost<0)||decide (s.moved<0)||decide (s.other<0)||decide (s.work<0))=true:=by
   have h0:=V s.cost (by simp);have h1:=V s.moved (by simp);have h2:=V s.other (by simp);have h3:=V s.work (by simp);simp;omega
 unfold lZ;rw[if_neg U];simp only[go_sem,O,J,E];refine aB (fun hc=>?_) (fun hc=>?_)
 . rw[if_pos hc]
   simp only[go_sem];exact .refl _
 rw[if_neg (by rw[hc];simp)];simp only[go_sem,O,J,E];exact .refl _
def eK(x:Instance)(r:Route):Int×Int:=if((jJ x r).2.2 != 0)=true then(0,(jJ x r).2.2)else lZ (jJ x r).2.1
theorem Yi(x:Instance)(r:Route)(hx:EvalB x)(hr:r.visits.length<=1048575):PC prog 187 [.agg (aD x),.agg (bT r)] (.tup [int (eK x r).1,int (eK x r).2]):=by
 have hw:=XP (jJ x r).2.1;refine pcd Tryz.func187 ?_;unfold Tryz.f187;simp only[gdS];simp only[go_sem];refine PC.use (QE x r hx hr) ?_;simp only[go_sem];refine aL fun V Z=>?_
 generalize O:aI _ V _=HGi6;have I:HGi6 V=some (cP (bP aS)):=by rw[<-O,aA];try rfl
 clear O Z;simp only[go_sem,I];refine aL fun Y U=>?_
 have E:V≠Y:=aP I U;generalize F:aI _ Y _=HGi7;replace I:=(congrFun F.symm V).trans ((aF _ _ _ _ E).trans I);have J:HGi7 Y=some (mG cH):=by rw[<-F,aA];try rfl
 clear F U;simp only[go_sem,J,I];refine aH I (by simp[hY]) ?_;generalize X:aI _ V _=HP;replace J:=(congrFun X.symm Y).trans ((aF _ _ _ _ (by first|exact ne_i7_i6|exact E.symm)).trans J);replace I:HP V=some (cP (bP (jJ x r).1)):=by rw[<-X,aA];rfl
 clear X;simp only[go_sem,I,J];refine aH J (by simp[jX]) ?_;generalize X:aI _ Y _=HP;replace I:=(congrFun X.symm V).trans ((aF _ _ _ _ (by first|exact E|exact ne_i7_i6.symm)).trans I);replace J:HP Y=some (mG (jJ x r).2.1):=by rw[<-X,aA];rfl
 clear X;simp only[go_sem,J,I];unfold eK;refine aB (fun hb=>?_) (fun hb=>?_)
 . rw[if_pos hb]
   simp only[go_sem];exact .refl _
 . rw[if_neg (by rw[hb];simp)]
   simp only[go_sem,J];refine PC.use hw ?_;simp only[go_sem];exact .refl _
structure Sta where
 ready:Int
 driven:Int
def hJ(s:Sta):List AV:=[int s.ready,int s.driven]
theorem HK(c:Sta):(hJ c).length=2:=(rfl)
theorem YW(c:Sta):(hJ c).getD 0 .any=int c.ready:=(rfl)
theorem acQ(c:Sta):(hJ c).getD 1 .any=int c.driven:=(rfl)
theorem Sj(c:Sta):(hJ c).take 2=hJ c:=(rfl)
attribute [go_sem] HK YW acQ Sj
abbrev oC(l:List Sta):Row:=⟨232,2,l.map hJ⟩
def Cm(s u:Sta):Bool:=s.ready == u.ready&&(s.driven == u.driven&&true)
theorem adO(l:List Sta)(v:Sta)(hl:l.length<=1048576):PC prog 285 [.sl (l.map hJ),.agg (hJ v)] (int (nQ (Cm v) l 0)):=by
 refine pcd Tryz.func285 ?_;unfold Tryz.f285;simp only[gdS];simp only[go_sem];refine⟨fun ρ _=>∃k:Nat,k<=l.length/\ρ 0=.sl (l.map hJ)/\ρ 3=.rp (hJ v) 0/\ρ 7=int l.length/\ρ 8=int k/\∀u∈l.take k,Cm v u=false,fun ρ _=>l.length-aV (ρ 8),⟨0,Xab _,rfl,rfl,rfl,rfl,by simp⟩,?_⟩;rintro ρ H ⟨k,Z,h0,U,V,J,O⟩;simp only[go_sem,h0,U,V,J];refine aB (fun E=>?_) (fun I=>?_)
 . have E:=aQ E
   obtain⟨u,X⟩:=aN E;have Y:=inB E;simp only[go_sem,h0,U,V,J];refine cN (by rfl) (by kernel_rfl) ?_;simp only[go_sem,h0,U,V,J,aC X,Y];refine aB (fun F=>?_) (fun F=>?_)
   . have F:Cm v u=true:=F
     simp only[go_sem,J];exact bJ (by rw[kW O X F];omega)
   . have F:Cm v u=false:=F
     simp only[go_sem,h0,U,V,J,aT (show k<=4611686018427387904 by omega)];exact⟨⟨k+1,E,rfl,aM (p:=fun u=>Cm v u=false) X F O⟩,by simp only[aE];omega⟩
 . have I:=aR Z I
   subst I;rw[Xag]at O;simp only[go_sem];exact bJ (by rw[jP O])
theorem Ef(l:List Sta)(v:Sta)(E:l.length<=1048576):PC prog 246 [.sl (l.map hJ),.agg (hJ v)] (boo (l.any (Cm v))):=by
 refine pcd Tryz.func246 ?_;unfold Tryz.f246;simp only[gdS];simp only[go_sem];refine PC.use (adO l v E) ?_;simp only[go_sem];exact bR (pB l 0 (Xbi _))
def uT(l:List Sta)(s:Sta):List Sta:=if l.any (Cm s)=true then l else l++[s]
theorem D7(l:List Sta)(s:Sta):(uT l s).length<=l.length+1:=by unfold uT;split <;> simp
theorem aaJ(l:List Visit)(E:l.length<=1048576):PC prog 193 [.sl (l.map aJ)] (.cl (l.map aJ)):=by
 refine pcd Tryz.func193 ?_;unfold Tryz.f193;simp only[gdS];simp only[go_sem];exact .refl _
theorem anT(s:Sta):NC prog 194 [.v (.slice none 0 0),.agg (hJ s)] (oC [s]) .os:=by
 refine ncb (fun _=>false) Tryz.func194 ?_;unfold Tryz.f194;simp only[gdS];simp only[go_sem];refine bF.nil0 (PC.use (Ef [] s (by decide)) ?_);simp only[go_sem];refine aB (fun E=>(by cases E)) (fun _=>?_);simp only[go_sem];refine YJ amG (.inl rfl) (by simp) (by simp only[go_sem]) (by simp) fun j F=>?_
 simp only[go_sem];exact⟨j,rfl,aA _ _ _⟩
abbrev amH(j:Nat)(H:aK)(j':Nat)(H':aK):Prop:=∀k row,k≠j->H k=some row->k≠j'/\H' k=some row
theorem RX(l:List Sta)(s:Sta){H:aK}{j:Nat}(R:H j=some (oC l))(X:l.length<=1000000){K:AV->aK->Prop}(V:∀I H',H' I=some (oC (uT l s))->amH j H I H'->K (.os I) H'):
   bF prog 194 [.os j,.agg (hJ s)] H K:=by
 refine bF.body (c:=Tryz.f194.body.getD .skip) (fun _=>false) mixed Tryz.func194 rfl (by kernel_rfl) ?_;unfold Tryz.f194;simp only[gdS];simp only[go_sem];refine dP.use ⟨[.sl (l.map hJ),.agg (hJ s)],.cons _ _ _ _ (.row _ _ _ R (ConvE.refl _)) (ConvL.refl _),Ef l s (by omega),rfl⟩ ?_;simp only[go_sem];refine aB (fun F=>?_) (fun F=>?_)
 . simp only[go_sem]
   refine V j H (by unfold uT;rw[if_pos F];exact R) fun k row O h=>⟨O,h⟩
 . simp only[go_sem]
   refine aZ R ⟨rfl,rfl⟩ (by simp only[go_sem]) (by simp only[Xaa,Xad,List.length_nil];omega) (fun U J=>?_);simp only[go_sem];refine V U _ ?_ fun k row O h=>?_
   . rw[aA]
     unfold uT;rw[if_neg (by rw[F];simp)];refine congrArg (fun l=>some (⟨232,2,l⟩:Row)) ?_;rw[Xar];rfl
   . have E:k≠U:=fun e=>by subst e;rw[J]at h;cases h
     exact⟨E,by rw[aF _ _ _ _ E,aF _ _ _ _ O];exact h⟩
structure Sr where
 x:Instance
 kind:Nat
 set:Int
 total:Nat
 best:Column
 found:Bool
def vE(s:Sr):List AV:=aD s.x++([int (s.kind:Nat),int s.set,int (s.total:Nat)]++(aU s.best++[boo s.found]))
section
variable(s:Sr)
theorem qV:(vE s).length=17:=(rfl)
theorem ajV:(vE s).getD 2 .any=.sl (s.x.types.map bC):=(rfl)
theorem akM:(vE s).getD 3 .any=.sl (s.x.orders.map bI):=(rfl)
theorem agX:(vE s).getD 6 .any=int (s.kind:Nat):=(rfl)
theorem aeV:(vE s).getD 7 .any=int s.set:=(rfl)
theorem ahE:(vE s).getD 8 .any=int (s.total:Nat):=(rfl)
theorem acM:(vE s).getD 16 .any=boo s.found:=(rfl)
theorem akR:(vE s).take 6=aD s.x:=(rfl)
theorem Xx:(vE s).take 2=aY s.x.net:=(rfl)
theorem SV:((vE s).drop 9).take 7=aU s.best:=(rfl)
theorem WJ:(vE s).take 17=vE s:=(rfl)
end
attribute [go_sem] qV ajV akM agX aeV ahE acM akR Xx SV WJ
abbrev kZ(s:Sr):Row:=⟨170,17,[vE s]⟩
def lP(t:VType)(l:List Sta)(d dr:Int):List Sta:=uT (uT l ⟨d,dr⟩) ⟨W (d+t.rest),0⟩
theorem Il(t:VType)(l:List Sta)(d dr:Int):(lP t l d dr).length<=l.length+2:=by
 unfold lP;have h1:=D7 (uT l ⟨d,dr⟩) ⟨W (d+t.rest),0⟩;have E:=D7 l ⟨d,dr⟩;omega
theorem acL(s:Sr)(t:VType)(l:List Sta)(d dr:Int){H:aK}{E j:Nat}(ht:s.x.types[s.kind]?=some t)(RS:H E=some (kZ s))(R:H j=some (oC l))(hl:l.length<=900000){K:AV->aK->Prop}
   (hK:∀Y H',H' Y=some (oC (lP t l d dr))->amH j H Y H'->K (.os Y) H'):bF prog 120 [.op E 0 0,.os j,int d,int dr] H K:=by
 have aa:E≠j:=fun e=>by subst e;rw[RS]at R;cases R
 have hk:=(List.getElem?_eq_some_iff.1 ht).1;have b1:=inB hk;have g1:=aC (f:=bC) ht;have h1:=D7 l ⟨d,dr⟩;refine bF.body (c:=Tryz.f120.body.getD .skip) (fun _=>false) mixed Tryz.func120 rfl (by kernel_rfl) ?_;unfold Tryz.f120;simp only[gdS];simp only[go_sem];refine RX l ⟨d,dr⟩ R (by omega) fun j1 H1 R1 I=>?_
 obtain⟨n1,V⟩:=I E _ aa RS;simp only[go_sem];refine gB [E] [(0,true),(1,true),(2,true),(3,true),(4,true),(5,true),(6,true),(7,true),(8,true),(9,true),(10,true),(11,true),(12,true),(13,true),(14,true),(15,true),(16,false),(17,true)] (by simp[V]) (by kernel_rfl) fun Hp Hr hp hr _ ae=>?_
 have F:=(hp E (by simp)).trans V;simp only[go_sem,g1,b1,F];have ad:Hr j1=some (oC (uT l ⟨d,dr⟩)):=(hr j1 (by simpa using n1.symm)).trans R1;refine RX (uT l ⟨d,dr⟩) ⟨W (d+t.rest),0⟩ ad (by omega) fun X H2 R2 ac=>?_
 simp only[go_sem];refine fun h0 Hm ab J=>?_
 have U:X≠E:=fun e=>by have:=h0 E (by simp);rw[<-e,R2]at this;cases this
 simp only[go_sem];refine hK X Hm ((J X (by simpa using U)).trans R2) fun k row Z O=>?_
 obtain⟨m1,m2⟩:=I k row Z O;by_cases e:k=E
 . subst e
   exact⟨U.symm,(ab k (by simp)).trans m2⟩
 . obtain⟨m3,m4⟩:=ac k row m1 ((hr k (by simpa using e)).trans m2)
   exact⟨m3,(J k (by simpa using e)).trans m4⟩
theorem aaK(s:Sr)(t:VType)(d dr:Int){H:aK}{E:Nat}(ht:s.x.types[s.kind]?=some t)(RS:H E=some (kZ s)){K:AV->aK->Prop}
   (hK:∀Z H',H' Z=some (oC (lP t [] d dr))->(∀k row,H k=some row->k≠Z/\H' k=some row)->K (.os Z) H'):bF prog 120 [.op E 0 0,.v (.slice none 0 0),int d,int dr] H K:=by
 have hk:=(List.getElem?_eq_some_iff.1 ht).1;have b1:=inB hk;have g1:=aC (f:=bC) ht;refine bF.body (c:=Tryz.f120.body.getD .skip) (fun _=>false) mixed Tryz.func120 rfl (by kernel_rfl) ?_;unfold Tryz.f120;simp only[gdS];simp only[go_sem];refine NC.use (anT ⟨d,dr⟩) fun j1 J=>?_
 have n1:E≠j1:=fun e=>by rw[e,J]at RS;cases RS
 have X:aI H j1 (some (oC [⟨d,dr⟩])) E=some (kZ s):=(aF _ _ _ _ n1).trans RS;have R1:aI H j1 (some (oC [⟨d,dr⟩])) j1=some (oC [⟨d,dr⟩]):=aA _ _ _;have ab:∀k row,H k=some row->k≠j1/\aI H j1 (some (oC [⟨d,dr⟩])) k=some row:=fun k row h=>by
   have I:k≠j1:=fun e=>by rw[e,J]at h;cases h
   exact⟨I,(aF _ _ _ _ I).trans h⟩
 generalize aI H j1 (some (oC [⟨d,dr⟩]))=H1 at *;simp only[go_sem];refine gB [E] [(0,true),(1,true),(2,true),(3,true),(4,true),(5,true),(6,true),(7,true),(8,true),(9,true),(10,true),(11,true),(12,true),(13,true),(14,true),(15,true),(16,false),(17,true)] (by simp[X]) (by kernel_rfl) fun Hp Hr hp hr _ ae=>?_
 have F:=(hp E (by simp)).trans X;simp only[go_sem,g1,b1,F];have ad:Hr j1=some (oC [⟨d,dr⟩]):=(hr j1 (by simpa using n1.symm)).trans R1;refine RX [⟨d,dr⟩] ⟨W (d+t.rest),0⟩ ad (by simp) fun Y H2 R2 ac=>?_
 simp only[go_sem];refine fun h0 Hm aa O=>?_
 have V:Y≠E:=fun e=>by have:=h0 E (by simp);rw[<-e,R2]at this;cases this
 simp only[go_sem];refine hK Y Hm ((O Y (by simpa using V)).trans R2) fun k row U=>?_
 obtain⟨m1,m2⟩:=ab k row U;by_cases e:k=E
 . subst e
   exact⟨V.symm,(aa k (by simp)).trans m2⟩
 . obtain⟨m3,m4⟩:=ac k row m1 ((hr k (by simpa using e)).trans m2)
   exact⟨m3,(O k (by simpa using e)).trans m4⟩
def CA(n:Network)(t:VType)(src:Int)(st:Stop)(out:List Sta)(a:Sta):List Sta:=
 let g:=eU n t.profile src st.place a.ready
 if(g.2.2 != 0||decide (W (W (a.driven+g.1)-a.ready)>t.drive))=true then out
 else if((Rx.lY st g.1).2 != 0)=true then out
 else lP t out (Rx.lY st g.1).1 (W (W (a.driven+g.1)-a.ready))
def vO(n:Network)(t:VType)(src:Int)(st:Stop)(l:List Sta):List Sta:=l.foldl (CA n t src st) []
theorem XZ(n:Network)(t:VType)(src:Int)(st:Stop)(out:List Sta)(a:Sta):(CA n t src st out a).length<=out.length+2:=by
 unfold CA;simp only;split
 . omega
 . split
   . omega
   . exact Il _ _ _ _
theorem BV(n:Network)(t:VType)(src:Int)(st:Stop)(l:List Sta):∀k,((l.take k).foldl (CA n t src st) []).length<=2*k
 | 0=>by simp
 | k+1=>by
   have h:=BV n t src st l k;by_cases E:k<l.length
   . obtain⟨c,F⟩:=aN E
     rw[kF F];exact Xal (XZ n t src st _ c) (by omega)
   . rw[Xap (by omega)]
     rw[Xap (by omega)]at h;omega
theorem adE(H0:aK)(js:Nat)(s:Sr)(t:VType)(hj:H0 js=some (kZ s))(ht:s.x.types[s.kind]?=some t)(src:Int)(l:List Sta)(st:Stop)(hn:NetOk s.x.net)(hl:l.length<=400000):
   LC prog 192 [.op js 0 0,int src,.sl (l.map hJ),.agg (dV st)] H0 (.sl ((vO s.x.net t src st l).map hJ)):=by
 have hk:=(List.getElem?_eq_some_iff.1 ht).1;have b1:=inB hk;have g1:=aC (f:=bC) ht;refine LC.body (c:=Tryz.f192.body.getD .skip) (fun t=>t == 10) mixed Tryz.func192 rfl (by kernel_rfl) ?_;unfold Tryz.f192;simp only[gdS];simp only[go_sem];have U:=Sup.refl H0;have ae:=U.at hj;refine gB [js] [(0,true),(1,true),(2,true),(3,true),(4,true),(5,true),(6,true),(7,true),(8,true),(9,true),(10,true),(11,false),(12,false)] (by simp[ae]) (by kernel_rfl) fun Hp Hr hp hr _ au=>?_
 have Y:=(hp js (by simp)).trans ae;simp only[go_sem,g1,b1,Y];refine aL fun i9 aw=>?_
 simp only[go_sem];refine aH (aA _ _ _) (by simp[jZ]) ?_;refine zG hr aw fun ak=>?_
 have al:=U.none ak;generalize af:aI (aI _ i9 _) i9 _=HGi9;replace U:=Sup.eq ((U.upd al _).upd al _) af;have Z:HGi9 i9=some ((⟨113,14,[bC t]⟩:Row)):=by rw[<-af,aA];try rfl
 clear af ak;simp only[go_sem,Z];refine aL fun j ao=>?_
 have ag:i9≠j:=aP Z ao;have ar:=U.none ao;generalize aj:aI _ j _=HGj;replace U:=Sup.eq (U.upd ar _) aj;replace Z:=(congrFun aj.symm i9).trans ((aF _ _ _ _ ag).trans Z);have R:HGj j=some (oC []):=by rw[<-aj,aA];try rfl
 clear aj ao;simp only[go_sem,R,Z];refine⟨fun ρ H=>∃(k:Nat) (j:Nat),k<=l.length/\ρ 0=.op js 0 0/\ρ 1=int src/\ρ 7=.rp (dV st) 0/\ρ 9=.op i9 0 0/\ρ 28=.sl (l.map hJ)/\ρ 29=int (l.length:Nat)/\ρ 30=int k/\ρ 10=.os j/\Sup H0 H/\H0 j=none/\H i9=some (⟨113,14,[bC t]⟩:Row)/\H j=some (oC ((l.take k).foldl (CA s.x.net t src st) [])),fun ρ _=>l.length-aV (ρ 30),⟨0,j,Xab _,by simp only[go_sem],by simp only[go_sem],by simp only[go_sem],by simp only[go_sem],by simp only[go_sem],by simp only[go_sem,Xaa],(by simp only[go_sem];rfl),by simp only[go_sem],U,ar,Z,R⟩,?_⟩;rintro ρ H ⟨k,j,hk,e0,e1,e7,e9,F,I,E,J,U,nj,Z,R⟩;simp only[go_sem,e0,e1,e7,e9,F,I,E,J];refine aB (fun ad=>?_) (fun aq=>?_)
 . have ad:=ltB (by simpa using ad)
   obtain⟨a,ha⟩:=aN ad;have d1:=inB ad;have hs:=kF (f:=CA s.x.net t src st) (b:=([]:List Sta)) ha;have ax:=BV s.x.net t src st l k;generalize (l.take k).foldl (CA s.x.net t src st) []=out at *;have av:i9≠j:=fun e=>by subst e;rw[Z]at R;cases R
   simp only[go_sem,e0,e1,e7,e9,F,I,E,J,aC ha,d1];refine aL fun ab aa=>?_
   have X:j≠ab:=aP R aa;have O:i9≠ab:=aP Z aa;simp only[go_sem,e0,e1,e7,e9,F,I,E,J,R,Z];refine aH (aA _ _ _) (by simp[HK]) ?_;have ac:=U.none aa;generalize V:aI (aI _ ab _) ab _=HGi12;replace U:=Sup.eq ((U.upd ac _).upd ac _) V;replace R:=kpR V X X R;replace Z:=kpR V O O Z;have ah:HGi12 ab=some ((⟨232,2,[hJ a]⟩:Row)):=by rw[<-V,aA];try rfl
   clear V aa;simp only[go_sem,e0,e1,e7,e9,F,I,E,J,ah,R,Z];have ae:=U.at hj;have ne:js≠ab:=Sup.ne (Sup.refl H0) hj ac;refine gB [js,i9,ab] [(0,true),(1,true),(2,true),(3,true),(4,true),(5,true),(6,true),(7,true),(8,true),(9,true),(10,true),(11,true),(12,false),(13,true),(14,true),(15,true),(16,true),(17,true),(18,true),(19,true)] (by simp[ae,Z,ah]) (by kernel_rfl) fun Hp Hr hp hr _ au=>?_
   have Y:=(hp js (by simp)).trans ae;have am:=(hp i9 (by simp)).trans Z;have ai:=(hp ab (by simp)).trans ah;simp only[go_sem,e0,e1,e7,e9,F,I,E,J,Y,am,ai];refine PC.use (adB s.x.net t.profile src st.place a.ready hn) ?_;simp only[go_sem,e0,e1,e7,e9,F,I,E,J,Y,am,ai];refine oK hr ?_;have ha:CA s.x.net t src st out a=(if((eU s.x.net t.profile src st.place a.ready).2.2 != 0||decide (W (W (a.driven+(eU s.x.net t.profile src st.place a.ready).1)-a.ready)>t.drive))=true then out
     else if((Rx.lY st (eU s.x.net t.profile src st.place a.ready).1).2 != 0)=true then out
     else lP t out (Rx.lY st (eU s.x.net t.profile src st.place a.ready).1).1 (W (W (a.driven+(eU s.x.net t.profile src st.place a.ready).1)-a.ready))):=rfl
   rw[ha]at hs;clear ha;generalize eU s.x.net t.profile src st.place a.ready=g at *;simp only[go_sem,e0,e1,e7,e9,F,I,E,J,Z,ah];refine aB (fun c1=>?_) (fun c1=>?_)
   . have c1:(g.2.2 != 0||decide (W (W (a.driven+g.1)-a.ready)>t.drive))=true:=c1
     rw[if_pos c1]at hs;simp only[go_sem,e0,e1,e7,e9,F,I,E,J,aT (show k<=4611686018427387904 by omega)];refine⟨⟨k+1,j,ad,rfl,rfl,U,nj,Z,?_⟩,by simp only[aE];omega⟩;rw[hs];exact R
   have c1:(g.2.2 != 0||decide (W (W (a.driven+g.1)-a.ready)>t.drive))=false:=c1;rw[if_neg (fun h=>Bool.noConfusion (c1.symm.trans h))]at hs;simp only[go_sem,e0,e1,e7,e9,F,I,E,J];refine PC.use (Rx.abB st g.1) ?_;simp only[go_sem,e0,e1,e7,e9,F,I,E,J];generalize Rx.lY st g.1=dp at *;refine aB (fun c2=>?_) (fun c2=>?_)
   . rw[if_pos c2]at hs
     simp only[go_sem,e0,e1,e7,e9,F,I,E,J,aT (show k<=4611686018427387904 by omega)];refine⟨⟨k+1,j,ad,rfl,rfl,U,nj,Z,?_⟩,by simp only[aE];omega⟩;rw[hs];exact R
   rw[if_neg (fun h=>Bool.noConfusion (c2.symm.trans h))]at hs;simp only[go_sem,e0,e1,e7,e9,F,I,E,J,ah];refine acL s t out dp.1 (W (W (a.driven+g.1)-a.ready)) ht ae R (by omega) fun j2 H2 R2 an=>?_
   simp only[go_sem,e0,e1,e7,e9,F,I,E,J,aT (show k<=4611686018427387904 by omega)];refine⟨⟨k+1,j2,ad,rfl,rfl,fun q row hq=>?_,?_,(an i9 _ av Z).2,?_⟩,by simp only[aE];omega⟩
   . have ap:q≠j:=fun e=>by subst e;rw[nj]at hq;cases hq
     exact(an q row ap (U q row hq)).2
   . cases e:H0 j2 with
     | none=>rfl
     | some row=>
       have ap:j2≠j:=fun e2=>by subst e2;rw[nj]at e;cases e
       exact absurd rfl (an j2 row ap (U j2 row e)).1
   . rw[hs];exact R2
 have aq:=geB hk (by simpa using aq);subst aq;rw[Xag]at R;simp only[go_sem,e0,e1,e7,e9,F,I,E,J];exact⟨U,[j],by simpa using nj,.row _ _ _ (by simp;exact R) (ConvE.refl _)⟩
theorem Y7(H0:aK)(F:Nat)(s:Sr)(t:VType)(d dr:Int)(V:s.x.types[s.kind]?=some t)(J:H0 F=some (kZ s)):
   LC prog 120 [.op F 0 0,.v (.slice none 0 0),int d,int dr] H0 (.sl ((lP t [] d dr).map hJ)):=fun K X=>
 bF.data (aaK s t d dr V J fun I H' R E=>⟨fun k row h=>(E k row h).2,[I],fun k U=>by
   have e:k=I:=by simpa using U
   subst e;cases O:H0 k with
   | none=>rfl
   | some row=>exact absurd rfl (E k row O).1,.row _ _ _ (by simp;exact R) (ConvE.refl _)⟩) X
end Sq
namespace Sq
open Go.Proofs.Tryz(prog)
open Go.Proofs.YtohmomanmikphaaGreatDoor.Nu (ltB geB)
open Mv (bJ bR aM)
def rZ(a b:Column):Bool:=if(a.price != b.price)=true then decide (a.price<b.price)else decide (OM a.route.visits b.route.visits<0)
theorem ZG(a b:Column)(F:a.route.visits.length<=1048576):PC prog 189 [.agg (aU a),.agg (aU b)] (boo (rZ a b)):=by
 refine pcd Tryz.func189 ?_;unfold Tryz.f189;simp only[gdS];simp only[go_sem];unfold rZ;refine aB (fun E=>?_) (fun E=>?_)
 . rw[if_pos E]
   simp only[go_sem];exact .refl _
 . rw[if_neg (by rw[E];simp)]
   simp only[go_sem];refine PC.use (afP a.route.visits b.route.visits F) ?_;simp only[go_sem];exact .refl _
def qG(best:Column)(fd:Bool)(next:Column):Column:=if(!fd||rZ next best)=true then next else best
abbrev rV(c:Column):Row:=⟨43,7,[aU c]⟩
def cJ:Column:=⟨0,0,0,⟨0,0,[],[]⟩⟩
theorem ahQ(best:Column)(X:Bool)(next:Column)(Y:next.route.visits.length<=1048576):PC prog 188 [.agg (aU best),boo X,.agg (aU next),.v (.func (.func 189) #[] #[])] (.agg (aU (qG best X next))):=by
 have V:aG prog 189=true:=by kernel_rfl
 have J:=ZG next best Y
 refine pcd Tryz.func188 ?_;unfold Tryz.f188;simp only[gdS];simp only[go_sem];refine aL fun I U=>?_
 generalize E:aI _ I _=HGi8;have F:HGi8 I=some (rV cJ):=by rw[<-E,aA];try rfl
 clear E U;simp only[go_sem,V,F];refine⟨_,fun _=>J.q rfl,?_⟩;simp only[go_sem];unfold qG;refine aB (fun J=>?_) (fun J=>?_)
 . rw[if_pos J]
   simp only[go_sem];refine aH F (by simp[cA]) ?_;generalize O:aI _ I _=HP;replace F:HP I=some (rV next):=by rw[<-O,aA];rfl
   clear O;simp only[go_sem,F];exact .refl _
 . rw[if_neg (fun h=>Bool.noConfusion (J.symm.trans h))]
   simp only[go_sem];refine aH F (by simp[cA]) ?_;generalize O:aI _ I _=HP;replace F:HP I=some (rV best):=by rw[<-O,aA];rfl
   clear O;simp only[go_sem,F];exact .refl _
def lD(s:Sr)(l:List Visit):Route:=⟨(s.kind:Nat),0,[],l⟩
def Hj(s:Sr)(l:List Visit)(p:Int):Column:=⟨(s.kind:Nat),s.set,p,lD s l⟩
def IX(s:Sr)(l:List Visit):Sr:=if((eK s.x (lD s l)).2 == 0)=true then { s with best:=qG s.best s.found (Hj s l (eK s.x (lD s l)).1),found:=true }else s
def tQ(t:VType)(rec:Sr->List Visit->Int->List Sta->Sr)(l:List Visit)(src:Int)(st:List Sta)(s:Sr)(v:Visit):Sr:=
 if((eD s.x v).2 != 0)=true then s
 else if(vO s.x.net t src (eD s.x v).1 st).length=0 then s
 else rec s (l++[v]) (eD s.x v).1.place (vO s.x.net t src (eD s.x v).1 st)
def mL(t:VType):Nat->Sr->List Visit->Int->List Sta->Sr
 | 0,s,_,_,_=>s
 | f+1,s,l,src,st=>if((l.length:Int) == (s.total:Int))=true then IX s l else(nJ s.x s.set l).foldl (tQ t (mL t f) l src st) s
structure SameB(s s':Sr):Prop where
 x:s'.x=s.x
 kind:s'.kind=s.kind
 set:s'.set=s.set
 total:s'.total=s.total
structure SrB(t:VType)(s:Sr):Prop where
 ty:s.x.types[s.kind]?=some t
 ev:EvalB s.x
 before:s.x.before.length<=1048576
 orders:s.x.orders.length<=60
 total:s.total<=16
theorem SameB.refl(s:Sr):SameB s s:=⟨rfl,rfl,rfl,rfl⟩
theorem SameB.trans{a b c:Sr}(h:SameB a b)(g:SameB b c):SameB a c:=⟨g.x.trans h.x,g.kind.trans h.kind,g.set.trans h.set,g.total.trans h.total⟩
theorem SameB.b{t:VType}{a b:Sr}(h:SameB a b)(g:SrB t a):SrB t b:=⟨by rw[h.x,h.kind];exact g.ty,by rw[h.x];exact g.ev,by rw[h.x];exact g.before,by rw[h.x];exact g.orders,by rw[h.total];exact g.total⟩
theorem WR(s:Sr)(l:List Visit):SameB s (IX s l):=by unfold IX;split <;> exact⟨rfl,rfl,rfl,rfl⟩
theorem Ha{α:Type}{g:Sr->α->Sr}(E:∀a v,SameB a (g a v)):∀(l:List α) (a:Sr),SameB a (l.foldl g a)
 | [],a=>.refl a
 | v::l,a=>(E a v).trans (Ha E l (g a v))
theorem qC(t:VType):∀(f:Nat) (s:Sr) (l:List Visit) (src:Int) (st:List Sta),SameB s (mL t f s l src st)
 | 0,s,_,_,_=>.refl s
 | f+1,s,l,src,st=>by
   unfold mL;split
   . exact WR s l
   . refine Ha (fun a v=>?_) _ _
     unfold tQ;split
     . exact .refl a
     . split
       . exact .refl a
       . exact qC t f _ _ _ _
theorem aoC{H:aK}{j:Nat}:(fun q=>if q∈[j]then none else H q)=aI H j none:=funext fun q=>by simp only[aI,Xbf]
theorem EL{l:List Nat}{H0 H Z:aK}{K:Env->aK->Prop}{ρ:Env}{V E:Nat}{a b:Row}{r5:Option Row}(hr:∀k,k∉l->Z k=H k)(hn:E∉l)(h5:Z V=none)(U:Sup (aI H0 E (some a)) H)
   (h:∀I:aK,I E=some b->Sup (aI H0 E (some b)) I->K ρ I):nB l H K ρ (aI (aI (aI Z V r5) V none) E (some b)):=fun h0 I h1 X=>by
 refine h I ((X E hn).trans (aA _ _ _)) fun k row O=>?_
 by_cases e:k=E
 . subst e
   rw[aA]at O;rw[X k hn,aA];exact O
 . rw[aF _ _ _ _ e]at O
   have Y:=U k row (by rw[aF _ _ _ _ e];exact O);by_cases J:k∈l
   . rw[h1 k J];exact Y
   . have F:k≠V:=fun e2=>by rw[<-e2,hr k J,Y]at h5;cases h5
     rw[X k J,aF _ _ _ _ e,aF _ _ _ _ F,aF _ _ _ _ F,hr k J];exact Y
abbrev abW(t:VType)(js f:Nat):Prop:=∀(s:Sr) (_:SrB t s) (H0:aK) (_:H0 js=some (kZ s)) (l:List Visit) (src:Int) (st:List Sta) (_:l.length<=s.total) (_:s.total-l.length<f) (_:st.length<=2^(l.length+1)),
 MC prog 119 [.op js 0 0,.sl (l.map aJ),int src,.sl (st.map hJ)] H0 (aI H0 js (some (kZ (mL t f s l src st)))) (.tup [])
theorem Ks(t:VType)(js f:Nat)(az:∀f',f=f'+1->abW t js f'):abW t js f:=by
 intro s a6 H0 a5 l src st bw hf bq;obtain⟨f,rfl⟩:∃f',f=f'+1:=⟨f-1,by omega⟩;have az:=az f rfl;have bv:=a6.total;have hj:=a5;have eW:mL t (f+1) s l src st=if((l.length:Int) == (s.total:Int))=true then IX s l else(nJ s.x s.set l).foldl (tQ t (mL t f) l src st) s:=rfl
 generalize mL t (f+1) s l src st=RW at *;refine MC.body (c:=Tryz.f119.body.getD .skip) (fun _=>false) (RD a5) mixed Tryz.func119 rfl (by kernel_rfl) ?_;unfold Tryz.f119;simp only[gdS];simp only[go_sem,hj,Xaa];have U:=Sup.refl H0;refine aB (fun hb=>?_) (fun hb=>?_)
 . rw[if_pos hb]at eW
   subst eW;have eE:IX s l=if((eK s.x (lD s l)).2 == 0)=true then { s with best:=qG s.best s.found (Hj s l (eK s.x (lD s l)).1),found:=true }else s:=rfl
   have hP:=Yi s.x (lD s l) a6.ev (by show l.length<=1048575;omega);simp only[go_sem,hj];refine aL fun j8 ay=>?_
   have ag:js≠j8:=aP hj ay;simp only[go_sem,hj];refine aH (aA _ _ _) (by simp[sA]) ?_;have a9:=U.none ay;generalize au:aI (aI _ j8 _) j8 _=HGj8;replace U:=Sup.eq ((U.upd a9 _).upd a9 _) au;replace hj:=kpR au ag ag hj;have R8:HGj8 j8=some ((⟨41,4,[bT (lD s l)]⟩:Row)):=by rw[<-au,aA];try rfl
   clear au ay;simp only[go_sem,R8,hj];refine gB [js,j8] [(0,true),(1,true),(2,true),(3,true),(4,true),(5,false),(6,true),(7,true),(8,true),(9,true),(10,true)] (by simp[hj,R8]) (by kernel_rfl) fun Hp Hr hp hr _ ak=>?_
   have ac:=(hp js (by simp)).trans hj;have al:=(hp j8 (by simp)).trans R8;simp only[go_sem,ac,al];refine PC.use hP ?_;generalize eK s.x (lD s l)=pr at *;simp only[go_sem];refine oK hr ?_;simp only[go_sem];refine aB (fun hc=>?_) (fun hc=>?_)
   case refine_2=>
     rw[if_neg (fun h=>Bool.noConfusion (hc.symm.trans h))]at eE;rw[eE];simp only[go_sem];refine K5.flat ?_ _;rw[NQ a5];exact U
   rw[if_pos hc]at eE;simp only[go_sem];clear hp hr ak ac al;refine gB [js,j8] [(0,true),(1,true),(2,true),(3,true),(4,true),(5,true),(6,true),(7,true),(8,true),(9,true),(10,true),(11,false),(12,false)] (by simp[hj,R8]) (by kernel_rfl) fun Hp Hr hp hr _ ak=>?_
   have ac:=(hp js (by simp)).trans hj;have al:=(hp j8 (by simp)).trans R8;simp only[go_sem,ac,al];refine aL fun an bp=>?_
   simp only[go_sem];refine aH (aA _ _ _) (by simp[cA,sA]) ?_;refine zG hr bp fun ar=>?_
   have af:js≠an:=aP hj ar;have a4:=U.none ar;generalize aj:aI (aI _ an _) an _=HGj11;replace U:=Sup.eq ((U.upd a4 _).upd a4 _) aj;replace hj:=kpR aj af af hj;have av:HGj11 an=some (rV (Hj s l pr.1)):=by rw[<-aj,aA];try rfl
   clear aj ar;simp only[go_sem,av,hj];clear hp hr ak ac al;have hF:=ahQ s.best s.found (Hj s l pr.1) (by show l.length<=1048576;omega);generalize b2:qG s.best s.found (Hj s l pr.1)=fb at *;have bk:js≠an:=fun e=>by subst e;rw[hj]at av;cases av
   refine CO [an] (.q 0 (.q 1 (.q 2 (.q 3 (.q 5 (.q 6 (.q 7 (.q 9 (.a2 4 (.a1 8 (.a1 10 (.q 11 (.q 12 (.a1 13 .nil))))) 8 (.a1 4 (.a1 10 (.q 11 (.q 12 (.a1 13 .nil)))))))))))))) (fun aa H'=>aa 0=.op js 0 0/\H' js=some (kZ { s with best:=fb })/\Sup (aI H0 js (some (kZ { s with best:=fb }))) H') (by simp[av]) (by kernel_rfl) (fun K' am Hp Hr hp hr _ ak=>?_) ?_
   . have bc:=(hp an (by simp)).trans av
     have ah:=(hr js (by simpa using bk)).trans hj;simp only[go_sem,bc];refine wX ?_ ?_
     . simp only[go_sem,ah]
       refine PC.use hF ?_;simp only[go_sem,ah];refine aH ah (by simp[qV,cA]) ?_;simp only[go_sem];refine qU hr (by simpa using bk) (am _ _ ⟨by simp only[go_sem],(aA _ _ _).trans rfl,?_⟩);exact U.set js (some (kZ { s with best:=fb }))
     . simp only[go_sem,ah]
       refine PC.use hF ?_;simp only[go_sem,ah];refine aH ah (by simp[qV,cA]) ?_;simp only[go_sem];refine qU hr (by simpa using bk) (am _ _ ⟨by simp only[go_sem],(aA _ _ _).trans rfl,?_⟩);exact U.set js (some (kZ { s with best:=fb }))
   clear hj U R8 av;rintro ρ H ⟨J,R,U⟩;simp only[go_sem,J,R];refine dM so4 R (by simp[qV]) ?_;simp only[go_sem];rw[eE];refine K5.flat ?_ _;exact Sup.set2 U (some (kZ { s with best:=fb,found:=true }))
 rw[if_neg (fun h=>Bool.noConfusion (hb.symm.trans h))]at eW;subst eW;have bx:l.length<s.total:=by simp at hb;omega
 have b0:=a6.orders;have bo:=BN s.x s.set l s.x.orders.length;simp only[go_sem];refine gB [js] [(0,true),(1,true),(2,true),(3,true),(4,true),(5,true),(6,true),(7,true),(8,true),(11,true),(9,false),(10,true)] (by simp[hj]) (by kernel_rfl) fun Hp Hr hp hr _ ak=>?_
 have ac:=(hp js (by simp)).trans hj;simp only[go_sem,ac];refine PC.use (aeI s.x s.set l (by omega) a6.before (by omega)) ?_;have bo:(nJ s.x s.set l).length<=120:=Xal bo (by omega);generalize nJ s.x s.set l=vs at *;simp only[go_sem,Xaa];refine oK hr ?_;clear hp hr ak ac U;have bz:st.length<=131072:=Xal bq (Xal (Xav (by decide) (show l.length+1<=17 by omega)) (by decide));refine⟨fun ρ H=>∃(k:Nat) (a:Sr),k<=vs.length/\ρ 0=.op js 0 0/\ρ 1=.sl (l.map aJ)/\ρ 2=int src/\ρ 3=.sl (st.map hJ)/\ρ 77=.sl (vs.map aJ)/\ρ 78=int (vs.length:Nat)/\ρ 79=int k/\a=(vs.take k).foldl (tQ t (mL t f) l src st) s/\SameB s a/\H js=some (kZ a)/\Sup (aI H0 js (some (kZ a))) H,fun ρ _=>vs.length-aV (ρ 79),⟨0,s,Xab _,by simp only[go_sem],by simp only[go_sem],by simp only[go_sem],by simp only[go_sem],by simp only[go_sem],by simp only[go_sem,Xaa],(by simp only[go_sem];rfl),rfl,SameB.refl s,a5,by rw[NQ a5];exact Sup.refl H0⟩,?_⟩;rintro ρ H ⟨k,a,hk,J,e1,Z,V,F,E,I,ha,hS,R,U⟩;simp only[go_sem,J,e1,Z,V,F,E,I];refine aB (fun aq=>?_) (fun bm=>?_)
 . have aq:=ltB (by simpa using aq)
   obtain⟨v,hv⟩:=aN aq;have b1:=inB aq;have hs:=kF (f:=tQ t (mL t f) l src st) (b:=s) hv;rw[<-ha]at hs;have bi:=hS.b a6;have eX:tQ t (mL t f) l src st a v=if((eD a.x v).2 != 0)=true then a
     else if(vO a.x.net t src (eD a.x v).1 st).length=0 then a
     else mL t f a (l++[v]) (eD a.x v).1.place (vO a.x.net t src (eD a.x v).1 st):=rfl
   have br:SameB a (tQ t (mL t f) l src st a v):=by
     unfold tQ;split
     . exact .refl a
     . split
       . exact .refl a
       . exact qC t f _ _ _ _
   generalize tQ t (mL t f) l src st a v=EV at *;have bn:=Uq a.x v;generalize b3:eD a.x v=sv at *;simp only[go_sem,J,e1,Z,V,F,E,I,aC hv,b1];refine aL fun ae ao=>?_
   have ad:js≠ae:=aP R ao;simp only[go_sem,J,e1,Z,V,F,E,I,R];refine aH (aA _ _ _) (by simp[cX]) ?_;have a0:=U.none ao;generalize ai:aI (aI _ ae _) ae _=HGi13;replace U:=Sup.eq ((U.upd a0 _).upd a0 _) ai;replace R:=kpR ai ad ad R;have ab:HGi13 ae=some ((⟨119,2,[aJ v]⟩:Row)):=by rw[<-ai,aA];try rfl
   clear ai ao;simp only[go_sem,J,e1,Z,V,F,E,I,ab,R];refine CO [js,ae] (.q 0 (.q 1 (.q 2 (.q 3 (.q 4 (.q 5 (.a2 6 (.q 7 (.q 8 (.q 9 (.a1 10 (.a1 11 (.q 12 .nil)))))) 10 (.a1 6 (.q 7 (.q 8 (.q 9 (.a1 11 (.q 12 .nil))))))))))))) (fun aa H'=>aa 0=.op js 0 0/\aa 1=.sl (l.map aJ)/\aa 2=int src/\aa 3=.sl (st.map hJ)/\aa 77=.sl (vs.map aJ)/\aa 78=int vs.length/\aa 79=int (k:Nat)/\aa 13=.op ae 0 0/\aa 15=int sv.2/\∃aw,aa 14=.op aw 0 0/\H' aw=some (⟨109,4,[dV sv.1]⟩:Row)/\H' ae=some (⟨119,2,[aJ v]⟩:Row)/\H' js=some (kZ a)/\Sup (aI H0 js (some (kZ a))) H') (by simp[R,ab]) (by kernel_rfl) (fun K' am Hp Hr hp hr _ ak=>?_) ?_
   . have bt:=(hp js (by simp)).trans R
     have ap:=(hp ae (by simp)).trans ab;simp only[go_sem,J,e1,Z,V,F,E,I,bt,ap];refine wX ?_ ?_
     . simp only[go_sem,J,e1,Z,V,F,E,I]
       refine PC.use bn ?_;simp only[go_sem,J,e1,Z,V,F,E,I];refine aL fun j8 bf=>?_
       simp only[go_sem,J,e1,Z,V,F,E,I];refine aH (aA _ _ _) (by simp[gO]) ?_;simp only[go_sem];refine zG hr bf fun h8=>am _ _ ⟨by simp only[go_sem,J,e1,Z,V,F,E,I],by simp only[go_sem,J,e1,Z,V,F,E,I],by simp only[go_sem,J,e1,Z,V,F,E,I],by simp only[go_sem,J,e1,Z,V,F,E,I],by simp only[go_sem,J,e1,Z,V,F,E,I],by simp only[go_sem,J,e1,Z,V,F,E,I],by simp only[go_sem,J,e1,Z,V,F,E,I],by simp only[go_sem,J,e1,Z,V,F,E,I],by simp only[go_sem],j8,by simp only[go_sem],aA _ _ _,(aF _ _ _ _ (aP ab h8)).trans ((aF _ _ _ _ (aP ab h8)).trans ab),(aF _ _ _ _ (aP R h8)).trans ((aF _ _ _ _ (aP R h8)).trans R),(U.upd (U.none h8) _).upd (U.none h8) _⟩
     . simp only[go_sem,J,e1,Z,V,F,E,I]
       refine aL fun j8 bf=>?_
       simp only[go_sem,J,e1,Z,V,F,E,I];refine PC.use bn ?_;simp only[go_sem,J,e1,Z,V,F,E,I];refine aH (aA _ _ _) (by simp[gO]) ?_;simp only[go_sem];refine zG hr bf fun h8=>am _ _ ⟨by simp only[go_sem,J,e1,Z,V,F,E,I],by simp only[go_sem,J,e1,Z,V,F,E,I],by simp only[go_sem,J,e1,Z,V,F,E,I],by simp only[go_sem,J,e1,Z,V,F,E,I],by simp only[go_sem,J,e1,Z,V,F,E,I],by simp only[go_sem,J,e1,Z,V,F,E,I],by simp only[go_sem,J,e1,Z,V,F,E,I],by simp only[go_sem,J,e1,Z,V,F,E,I],by simp only[go_sem],j8,by simp only[go_sem],aA _ _ _,(aF _ _ _ _ (aP ab h8)).trans ((aF _ _ _ _ (aP ab h8)).trans ab),(aF _ _ _ _ (aP R h8)).trans ((aF _ _ _ _ (aP R h8)).trans R),(U.upd (U.none h8) _).upd (U.none h8) _⟩
   clear ab R U J e1 Z V F E I;rintro ρ H ⟨J,e1,Z,V,F,E,I,Y,O,aw,X,ax,ab,R,U⟩;simp only[go_sem,J,e1,Z,V,F,E,I,Y,O,X];refine aB (fun c1=>?_) (fun c1=>?_)
   . rw[if_pos c1]at eX
     simp only[go_sem,J,e1,Z,V,F,E,I,Y,O,X,aT (show k<=4611686018427387904 by omega)];exact⟨⟨k+1,a,aq,rfl,by rw[hs,eX],hS,R,U⟩,by simp only[aE];omega⟩
   rw[if_neg (fun h=>Bool.noConfusion (c1.symm.trans h))]at eX;have bu:=adE H js a t R bi.ty src st sv.1 bi.ev.net (by omega);have a7:=BV a.x.net t src sv.1 st st.length;rw[Xag]at a7;replace a7:(vO a.x.net t src sv.1 st).length<=2*st.length:=a7;generalize vO a.x.net t src sv.1 st=nx at *;simp only[go_sem,J,e1,Z,V,F,E,I,Y,O,X,ax];refine LC.use bu ?_;simp only[go_sem,J,e1,Z,V,F,E,I,Y,O,X,Xaa];refine aB (fun c2=>?_) (fun c2=>?_)
   case refine_2=>
     have hz:nx.length=0:=by simp at c2;simp[c2]
     rw[if_pos hz]at eX;simp only[go_sem,J,e1,Z,V,F,E,I,Y,O,X,aT (show k<=4611686018427387904 by omega)];exact⟨⟨k+1,a,aq,rfl,by rw[hs,eX],hS,R,U⟩,by simp only[aE];omega⟩
   have hz:¬nx.length=0:=by simp at c2;omega
   rw[if_neg hz]at eX;have bh:js≠ae:=fun e=>by subst e;rw[R]at ab;cases ab
   have ba:js≠aw:=fun e=>by subst e;rw[R]at ax;cases ax
   simp only[go_sem,J,e1,Z,V,F,E,I,Y,O,X];have bj:(l++[v]).length=l.length+1:=by simp
   have be:=fun(Hx:aK) (hx:Hx js=some (kZ a))=>az a bi Hx hx (l++[v]) sv.1.place nx (by rw[bj,hS.total];omega) (by rw[bj,hS.total];omega) (by rw[bj,Xbj];omega)
   rw[<-eX]at be;refine CO [ae,aw] (.q 0 (.q 1 (.q 3 (.q 6 (.q 7 (.q 8 (.a2 2 (.a1 4 (.a1 5 (.a1 9 .nil))) 4 (.a1 2 (.a1 5 (.a1 9 .nil)))))))))) (fun aa H'=>aa 0=.op js 0 0/\aa 1=.sl (l.map aJ)/\aa 2=int src/\aa 3=.sl (st.map hJ)/\aa 77=.sl (vs.map aJ)/\aa 78=int vs.length/\aa 79=int (k:Nat)/\H' js=some (kZ EV)/\Sup (aI H0 js (some (kZ EV))) H') (by simp[ab,ax]) (by kernel_rfl) (fun K' am Hp Hr hp hr _ ak=>?_) ?_
   . have ap:=(hp ae (by simp)).trans ab
     have bb:=(hp aw (by simp)).trans ax;have a8:=(hr js (by simp[bh,ba])).trans R;simp only[go_sem,J,e1,Z,V,F,E,I,Y,O,X,ap,bb];refine wX ?_ ?_
     . simp only[go_sem,J,e1,Z,V,F,E,I,Y,O,X]
       refine PC.use (aaJ l (by omega)) ?_;simp only[go_sem,J,e1,Z,V,F,E,I,Y,O,X];refine Vp aoU (.inl rfl) (by simp) (yQ cX l) (by simp only[go_sem]) (by simp;omega) fun j5 h5=>?_
       have n5:js≠j5:=aP a8 h5;simp only[go_sem,J,e1,Z,V,F,E,I,Y,O,X];refine bF.frz [j5] (args':=[.op js 0 0,.sl (l.map aJ++[aJ v]),int sv.1.place,.sl (nx.map hJ)]) (.cons _ _ _ _ (.refl _) (.cons _ _ _ _ (.row _ _ _ (by simp;exact aA _ _ _) (ConvE.refl _)) (.cons _ _ _ _ (.refl _) (.cons _ _ _ _ (.refl _) .nil)))) ?_;rw[aoC,show l.map aJ++[aJ v]=(l++[v]).map aJ by simp];refine MC.use (be _ ((aF _ _ _ _ n5).trans ((aF _ _ _ _ n5).trans a8))) ?_;simp only[go_sem,J,e1,Z,V,F,E,I,Y,O,X];refine EL hr (by simp[bh,ba]) h5 U fun Hm bd bg=>am _ _ ⟨by simp only[go_sem,J,e1,Z,V,F,E,I,Y,O,X],by simp only[go_sem,J,e1,Z,V,F,E,I,Y,O,X],by simp only[go_sem,J,e1,Z,V,F,E,I,Y,O,X],by simp only[go_sem,J,e1,Z,V,F,E,I,Y,O,X],by simp only[go_sem,J,e1,Z,V,F,E,I,Y,O,X],by simp only[go_sem,J,e1,Z,V,F,E,I,Y,O,X],by simp only[go_sem,J,e1,Z,V,F,E,I,Y,O,X],bd,bg⟩
     . simp only[go_sem,J,e1,Z,V,F,E,I,Y,O,X]
       refine PC.use (aaJ l (by omega)) ?_;simp only[go_sem,J,e1,Z,V,F,E,I,Y,O,X];refine Vp aoU (.inl rfl) (by simp) (yQ cX l) (by simp only[go_sem]) (by simp;omega) fun j5 h5=>?_
       have n5:js≠j5:=aP a8 h5;simp only[go_sem,J,e1,Z,V,F,E,I,Y,O,X];refine bF.frz [j5] (args':=[.op js 0 0,.sl (l.map aJ++[aJ v]),int sv.1.place,.sl (nx.map hJ)]) (.cons _ _ _ _ (.refl _) (.cons _ _ _ _ (.row _ _ _ (by simp;exact aA _ _ _) (ConvE.refl _)) (.cons _ _ _ _ (.refl _) (.cons _ _ _ _ (.refl _) .nil)))) ?_;rw[aoC,show l.map aJ++[aJ v]=(l++[v]).map aJ by simp];refine MC.use (be _ ((aF _ _ _ _ n5).trans ((aF _ _ _ _ n5).trans a8))) ?_;simp only[go_sem,J,e1,Z,V,F,E,I,Y,O,X];refine EL hr (by simp[bh,ba]) h5 U fun Hm bd bg=>am _ _ ⟨by simp only[go_sem,J,e1,Z,V,F,E,I,Y,O,X],by simp only[go_sem,J,e1,Z,V,F,E,I,Y,O,X],by simp only[go_sem,J,e1,Z,V,F,E,I,Y,O,X],by simp only[go_sem,J,e1,Z,V,F,E,I,Y,O,X],by simp only[go_sem,J,e1,Z,V,F,E,I,Y,O,X],by simp only[go_sem,J,e1,Z,V,F,E,I,Y,O,X],by simp only[go_sem,J,e1,Z,V,F,E,I,Y,O,X],bd,bg⟩
   clear ab ax R U J e1 Z V F E I Y O X;rintro ρ H ⟨J,e1,Z,V,F,E,I,R,U⟩;simp only[go_sem,J,e1,Z,V,F,E,I,aT (show k<=4611686018427387904 by omega)];exact⟨⟨k+1,EV,aq,rfl,hs.symm,hS.trans br,R,U⟩,by simp only[aE];omega⟩
 have bm:=geB hk (by simpa using bm);subst bm;rw[Xag]at ha;rw[<-ha];simp only[go_sem];exact K5.flat U _
end Sq
namespace Sq
open Go.Proofs.YtohmomanmikphaaGreatDoor.Nu (ltB geB)
open Mv (bJ bR aM)
theorem UC(t:VType)(E:Nat):∀f,abW t E f
 | 0=>Ks t E 0 (fun F e=>by omega)
 | f + 1 => Ks t E (f + 1) (fun F e => by
     obtain rfl:F=f:=by omega
     exact UC t E F)
def jB(x:Instance)(set:Int)(l:List Visit):Prop:=∀p v q,l=p++v::q->v∈nJ x set p
theorem jB.nil{x:Instance}{set:Int}:jB x set []:=fun p v q h=>by simp at h
theorem jB.snoc{x:Instance}{set:Int}{l:List Visit}(h:jB x set l){v:Visit}(F:v∈nJ x set l):jB x set (l++[v]):=fun p w q e=>by
 rcases List.eq_nil_or_concat q with rfl|⟨q',u,rfl⟩
 . obtain⟨rfl,E⟩:=List.append_inj' e rfl
   cases E;exact F
 . rw[List.concat_eq_append,show p++w::(q'++[u])=(p++w::q')++[u]by simp]at e
   obtain⟨rfl,E⟩:=List.append_inj' e rfl;exact h p w q' rfl
def AB(s:Sr):Prop:=s.found=true->∃l,s.best=Hj s l (eK s.x (lD s l)).1/\(eK s.x (lD s l)).2=0/\jB s.x s.set l/\l.length=s.total
theorem Rz{s:Sr}(h:AB s){l:List Visit}(J:jB s.x s.set l)(O:l.length=s.total):AB (IX s l):=by
 unfold IX;split
 next E=>
   have E:(eK s.x (lD s l)).2=0:=by simpa using E
   intro _;show ∃l',qG s.best s.found (Hj s l (eK s.x (lD s l)).1)=Hj s l' (eK s.x (lD s l')).1/\(eK s.x (lD s l')).2=0/\jB s.x s.set l'/\l'.length=s.total;unfold qG;split
   . exact⟨l,rfl,E,J,O⟩
   next F=>
     have I:s.found=true:=by
       cases e:s.found with
       | true=>rfl
       | false=>rw[e]at F;simp at F
     exact h I
 . exact h
theorem HE{l:List Visit}{g:Sr->Visit->Sr}{E:Sr}(F:∀a v,SameB E a->AB a->v∈nJ E.x E.set l->SameB E (g a v)/\AB (g a v)):∀(vs:List Visit) (a:Sr),(∀v∈vs,v∈nJ E.x E.set l)->SameB E a->AB a->AB (vs.foldl g a)
 | [],a,_,_,h=>h
 | v::vs,a,hv,hs,h=>by
   obtain⟨h1,I⟩:=F a v hs h (hv v (by simp));exact HE F vs (g a v) (fun u J=>hv u (by simp[J])) h1 I
theorem Ed(t:VType):∀(f:Nat) (s:Sr) (l:List Visit) (src:Int) (st:List Sta),AB s->jB s.x s.set l->AB (mL t f s l src st)
 | 0,s,_,_,_,h,_=>h
 | f+1,s,l,src,st,h,hl=>by
   unfold mL;split
   next J=>exact Rz h hl (by simp at J;omega)
   . refine HE (l:=l) (fun a v E F I=>?_) _ s (fun v I=>I) (SameB.refl s) h
     unfold tQ;split
     . exact⟨E,F⟩
     . split
       . exact⟨E,F⟩
       . refine⟨E.trans (qC t f _ _ _ _),Ed t f _ _ _ _ F ?_⟩
         rw[E.x,E.set];exact hl.snoc I
def rL(x:Instance)(l:List Int):Nat:=(l.map fun i=>(fC x.orders i).length).sum
def iS(x:Instance)(set:Int):Nat:=rL x (gZ set)
theorem Sd(x:Instance){l:List Int}{k:Nat}{i:Int}(h:l[k]?=some i):rL x (l.take (k+1))=rL x (l.take k)+(fC x.orders i).length:=by
 unfold rL;rw[bQ h];simp
theorem GW(x:Instance):∀l:List Int,rL x l<=2*l.length
 | []=>Xah _
 | i::l=>by
   have h1:=GW x l;have E:=tX x.orders i;unfold rL at h1 |-;simp only[Xbc,List.sum_cons,Xad];omega
theorem RO(x:Instance)(l:List Int)(k:Nat):rL x (l.take k)<=2*k:=by
 have h1:=GW x (l.take k);rw[Xao]at h1;omega
theorem JN{set:Int}{n:Nat}(h:∀i:Nat,n<=i->dE set (i:Int)=false):∀d,oT set (n+d)=oT set n
 | 0=>rfl
 | d+1=>by
   rw[<-Nat.add_assoc,oJ,h (n+d) (by omega),JN h d];simp
theorem adV{set:Int}{n:Nat}(h0:0<=set)(h1:set<2^n)(i:Nat)(hi:n<=i):dE set (i:Int)=false:=by
 obtain⟨m,rfl⟩:=Int.eq_ofNat_of_zero_le h0;by_cases E:i<=62
 . rw[kS (by omega) (by omega),Xaq]
   refine Nat.testBit_lt_two_pow (Xcb (m:=2^n) ?_ (Xav (by decide) hi))
   exact_mod_cast h1
 . unfold dE
   rw[decide_eq_false (show ¬(i:Int)<=62 by omega)];simp
theorem U1{set:Int}{n:Nat}(h0:0<=set)(h1:set<2^n)(E:n<=63):(gZ set).length<=n:=by
 have h:=JN (adV h0 h1) (63-n);unfold gZ;rw[show 63=n+(63-n)by omega,h];exact wH set n
theorem sQ{x:Instance}{set:Int}{n:Nat}(h0:0<=set)(h1:set<2^n)(E:n<=63):iS x set<=2*n:=by
 have I:=U1 h0 h1 E;have F:=GW x (gZ set);unfold iS;omega
theorem PL{α:Type}{o:Option α}{f:α->Prop}{a:α}(h:o=some a)(E:f a):bU o f:=by subst h;exact E
abbrev kN(t:VType):Row:=⟨113,14,[bC t]⟩
end Sq
namespace Sq
open Go.Proofs.Tryz(prog)
open Go.Proofs.YtohmomanmikphaaGreatDoor.Nu (ltB geB)
open Mv (bJ bR aM)
def II(x:Instance)(kind set:Int):Bool:=((decide (kind<0)||decide (kind>=(x.types.length:Int)))||decide (set<=0))||(shV .shr .i64 set (x.orders.length:Nat) != 0)
def Bq(x:Instance)(kind:Nat)(set:Int)(t:VType):Sr:=mL t 17 ⟨x,kind,set,iS x set,cJ,false⟩ [] t.src (lP t [] t.start 0)
def pS(x:Instance)(kind set:Int):Column×Int:=
 if II x kind set=true then(cJ,2)
 else if(vM x set != 0)=true then(cJ,24)
 else match x.types[kind.toNat]? with
 | none=>(cJ,24)
 | some t=>if(Bq x kind.toNat set t).found=true then((Bq x kind.toNat set t).best,0)else(cJ,24)
theorem ahP(x:Instance)(kind set:Int)(hE:EvalB x)(hn:x.orders.length<=8):PC prog 67 [.agg (aD x),int kind,int set] (.tup [.agg (aU (pS x kind set).1),int (pS x kind set).2]):=by
 refine pcb (fun t=>t == 43||t == 75) Tryz.func67 ?_;unfold Tryz.f67;simp only[gdS];simp only[go_sem];have Y:pS x kind set=((if II x kind set=true then(cJ,2)
   else if(vM x set != 0)=true then(cJ,24)
   else match x.types[kind.toNat]? with
   | none=>(cJ,24)
   | some t=>if(Bq x kind.toNat set t).found=true then((Bq x kind.toNat set t).best,0)else(cJ,24)):Column×Int):=rfl
 generalize pS x kind set=RP at *;refine aL fun j6 ar=>?_
 generalize aq:aI _ j6 _=HG6;have X:HG6 j6=some (rV cJ):=by rw[<-aq,aA];try rfl
 clear aq ar;simp only[go_sem,X,Xaa];refine⟨fun _=>by omega,aB (fun hb=>?_) (fun hb=>?_)⟩
 . simp only[go_sem,X]
   refine aH X (by simp only[go_sem]) ?_;generalize Y:aI _ j6 _=HP;replace X:HP j6=some (rV cJ):=by rw[<-Y,aA];rfl
   clear Y;simp only[go_sem,X];have hb:II x kind set=true:=hb;rw[if_pos hb]at Y;rw[Y];exact .refl _
 have au:II x kind set=false:=hb;rw[if_neg (by rw[au];simp)]at Y;obtain⟨⟨⟨hk0,hk1⟩,hs0⟩,hs1⟩:((0<=kind/\kind<x.types.length)/\0<set)/\shV .shr .i64 set (x.orders.length:Nat)=0:=by
   simpa using hb
 rw[tT (by omega)]at hs1;obtain⟨k0,rfl⟩:=Int.eq_ofNat_of_zero_le hk0;have hk:k0<x.types.length:=by omega
 obtain⟨t,ht⟩:=aN hk;have bk:=inB hk;have am:set<2^x.orders.length:=by
   have hp:(0:Int)<2^x.orders.length:=Int.pow_pos (by decide);rcases Int.lt_or_le set (2^x.orders.length)with h|h
   . exact h
   . have:=Int.le_ediv_of_mul_le hp (show 1*2^x.orders.length<=set by omega)
     omega
 have hM:=sQ (x:=x) (by omega) am (by omega);have ax:=U1 (by omega) am (by omega);rw[show iS x set=rL x (gZ set)from rfl]at *;simp only[go_sem,X,Xaa];refine PC.use (VK x set (by omega) hE.apart hE.before) ?_;rw[Xaq,ht]at Y;unfold Bq at Y;simp only at Y;rw[show iS x set=rL x (gZ set)from rfl]at Y;simp only[go_sem,X];refine aB (fun ak=>?_) (fun ak=>?_)
 . simp only[go_sem,X]
   refine aH X (by simp only[go_sem]) ?_;generalize Y:aI _ j6 _=HP;replace X:HP j6=some (rV cJ):=by rw[<-Y,aA];rfl
   clear Y;simp only[go_sem,X];rw[if_pos ak]at Y;rw[Y];exact .refl _
 rw[if_neg (by rw[ak];simp)]at Y;clear hb ak au;simp only[go_sem,X];refine PL (a:=vE ⟨x,k0,set,0,cJ,false⟩) rfl ⟨by rw[qV];decide,?_⟩;refine aL fun js al=>?_
 have ah:j6≠js:=aP X al;simp only[go_sem,X];generalize ao:aI _ js _=HGs;replace X:=(congrFun ao.symm j6).trans ((aF _ _ _ _ ah).trans X);have R:HGs js=some (kZ ⟨x,k0,set,0,cJ,false⟩):=by rw[<-ao,aA]
 clear ao al;refine PC.use (qE set) ?_;simp only[go_sem,X,R,Xaa];have ag:=wH set 63
 change (gZ set).length<=63 at ag
 generalize gZ set=M at *;clear ax;have a0:M.length<=63:=ag;refine⟨fun ρ H=>∃(k:Nat),k<=M.length/\ρ 1=int (k0:Nat)/\ρ 3=.rp (aD x) 0/\ρ 6=.op j6 0 0/\ρ 8=.op js 0 0/\ρ 45=.sl (M.map bW)/\ρ 46=int (M.length:Nat)/\ρ 47=int k/\H j6=some (rV cJ)/\H js=some (kZ ⟨x,k0,set,rL x (M.take k),cJ,false⟩),fun ρ _=>M.length-aV (ρ 47),⟨0,Xab _,by simp only[go_sem],by simp only[go_sem],by simp only[go_sem],by simp only[go_sem],by simp only[go_sem],by simp only[go_sem,Xaa],(by simp only[go_sem];rfl),X,R⟩,?_⟩;clear X R;rintro ρ H ⟨k,az,V,J,O,U,E,I,F,X,R⟩;simp only[go_sem,V,J,O,U,E,I,F];refine aB (fun af=>?_) (fun ap=>?_)
 . have af:=ltB (by simpa using af)
   obtain⟨i,hi⟩:=aN af;have b1:=inB af;have hs:=Sd x hi;have hb:=RO x M k;have hV:=tX x.orders i;generalize rL x (M.take k)=T at *;simp only[go_sem,V,J,O,U,E,I,F,aC hi,b1];refine CO [] (.q 0 (.q 1 (.q 2 (.q 4 (.q 5 (.q 6 (.a2 3 (.a1 7 (.q 8 (.q 9 (.q 10 (.q 11 (.a1 12 .nil)))))) 7 (.q 8 (.a1 3 (.q 9 (.q 10 (.q 11 (.a1 12 .nil)))))))))))))
     (fun ac H'=>ac 1=int (k0:Nat)/\ac 3=.rp (aD x) 0/\ac 6=.op j6 0 0/\ac 8=.op js 0 0/\ac 45=.sl (M.map bW)/\ac 46=int (M.length:Nat)/\ac 47=int (k:Nat)/\H' j6=some (rV cJ)/\H' js=some (kZ ⟨x,k0,set,rL x (M.take (k+1)),cJ,false⟩)) (by simp) (by kernel_rfl) (fun K' av Hp Hr hp hr _ aw=>?_) ?_
   . have Z:=(hr js (by simp)).trans R
     simp only[go_sem,V,J,O,U,E,I,F];refine wX ?_ ?_
     . simp only[go_sem,V,J,O,U,E,I,F,Z]
       refine PC.use (sT x.orders i) ?_;simp only[go_sem,V,J,O,U,E,I,F,Z,Xaa];refine dM so3 Z (by simp[qV]) ?_;simp only[go_sem];refine qU hr (by simp) (av _ _ ⟨by simp only[go_sem,V,J,O,U,E,I,F],by simp only[go_sem,V,J,O,U,E,I,F],by simp only[go_sem,V,J,O,U,E,I,F],by simp only[go_sem,V,J,O,U,E,I,F],by simp only[go_sem,V,J,O,U,E,I,F],by simp only[go_sem,V,J,O,U,E,I,F],by simp only[go_sem,V,J,O,U,E,I,F],?_,?_⟩)
       . rw[aF _ _ _ _ ah];exact X
       rw[hs,aA];refine congrArg (fun l=>some (⟨170,17,[l]⟩:Row)) ?_;rw[bH (by omega)];rfl
     . simp only[go_sem,V,J,O,U,E,I,F,Z]
       refine PC.use (sT x.orders i) ?_;simp only[go_sem,V,J,O,U,E,I,F,Z,Xaa];refine dM so3 Z (by simp[qV]) ?_;simp only[go_sem];refine qU hr (by simp) (av _ _ ⟨by simp only[go_sem,V,J,O,U,E,I,F],by simp only[go_sem,V,J,O,U,E,I,F],by simp only[go_sem,V,J,O,U,E,I,F],by simp only[go_sem,V,J,O,U,E,I,F],by simp only[go_sem,V,J,O,U,E,I,F],by simp only[go_sem,V,J,O,U,E,I,F],by simp only[go_sem,V,J,O,U,E,I,F],?_,?_⟩)
       . rw[aF _ _ _ _ ah];exact X
       rw[hs,aA];refine congrArg (fun l=>some (⟨170,17,[l]⟩:Row)) ?_;rw[bH (by omega)];rfl
   clear X R V J O U E I F;rintro ρ H ⟨V,J,O,U,E,I,F,X,R⟩;simp only[go_sem,V,J,O,U,E,I,F,aT (show k<=4611686018427387904 by omega)];exact⟨⟨k+1,af,rfl,X,R⟩,by simp only[aE];omega⟩
 have ap:=geB az (by simpa using ap);subst ap;rw[Xag]at R;simp only[go_sem,V,J,O,U,E,I,F,aC ht,bk];refine aL fun ab ad=>?_
 have ae:js≠ab:=aP R ad;have an:j6≠ab:=aP X ad;simp only[go_sem,V,J,O,U,E,I,F];refine aH (aA _ _ _) (by simp[jZ]) ?_;generalize ai:aI (aI _ ab _) ab _=HGi;replace X:=kpR ai an an X;replace R:=kpR ai ae ae R;have aj:HGi ab=some (kN t):=by rw[<-ai,aA];try rfl
 clear ai ad;simp only[go_sem,V,J,O,U,E,I,F,aj];refine gB [ab] [(0,true),(1,true),(2,true),(3,true),(4,true),(5,true),(6,false),(7,false)] (by simp[aj]) (by kernel_rfl) fun Hp Hr hp hr _ aw=>?_
 have ay:=(hp ab (by simp)).trans aj;have Z:=(hr js (by simpa using ae)).trans R;simp only[go_sem,V,J,O,U,E,I,F,ay];refine LC.use (Y7 Hr js _ t t.start 0 ht Z) ?_;simp only[go_sem,V,J,O,U,E,I,F];refine MC.use (UC t js 17 ⟨x,k0,set,rL x M,cJ,false⟩ ⟨ht,hE,hE.before,by show x.orders.length<=60;omega,by show rL x M<=16;omega⟩ Hr Z [] t.src (lP t [] t.start 0) (Xab _) (by show rL x M-0<17;omega) (Il t [] t.start 0)) ?_;have hB:=qC t 17 ⟨x,k0,set,rL x M,cJ,false⟩ [] t.src (lP t [] t.start 0);generalize mL t 17 ⟨x,k0,set,rL x M,cJ,false⟩ [] t.src (lP t [] t.start 0)=s' at *;simp only[go_sem,V,J,O,U,E,I,F];refine qU hr (by simpa using ae) ?_;have R2:aI HGi js (some (kZ s')) js=some (kZ s'):=aA _ _ _;have aa:aI HGi js (some (kZ s')) j6=some (rV cJ):=(aF _ _ _ _ ah).trans X;generalize aI HGi js (some (kZ s'))=HX at *;clear X R aj;simp only[go_sem,V,J,O,U,E,I,F,R2];refine aB (fun hb=>?_) (fun hb=>?_)
 . simp only[go_sem,V,J,O,U,E,I,F,aa]
   refine aH aa (by simp only[go_sem]) ?_;generalize Y:aI _ j6 _=HP;replace aa:HP j6=some (rV cJ):=by rw[<-Y,aA];rfl
   clear Y;simp only[go_sem,V,J,O,U,E,I,F,aa];rw[if_neg (by simpa using hb)]at Y;rw[Y];exact .refl _
 simp only[go_sem,V,J,O,U,E,I,F,R2,aa];refine aH aa (by simp[cA]) ?_;generalize Y:aI _ j6 _=HP;replace aa:HP j6=some (rV s'.best):=by rw[<-Y,aA];rfl
 clear Y;simp only[go_sem,V,J,O,U,E,I,F,aa];rw[if_pos (by simpa using hb)]at Y;rw[Y];exact .refl _
structure BestQ(x:Instance)(k:Nat)(set:Int)(c:Column):Prop where
 lt:k<x.types.length
 pos:0<set
 top:set<2^x.orders.length
 is:∃l,c=⟨(k:Nat),set,(eK x ⟨(k:Nat),0,[],l⟩).1,⟨(k:Nat),0,[],l⟩⟩/\(eK x ⟨(k:Nat),0,[],l⟩).2=0/\jB x set l/\l.length=iS x set
theorem Z8{x:Instance}{k:Nat}{set:Int}(hn:x.orders.length<=8)(h:(pS x (k:Nat) set).2=0):BestQ x k set (pS x (k:Nat) set).1:=by
 unfold pS at h |-;split at h
 . exact absurd h (by decide)
 split at h
 . exact absurd h (by decide)
 next hb _=>
 rw[Xaq]at *;split at h
 . exact absurd h (by decide)
 next t ht=>
 split at h
 case isFalse=>exact absurd h (by decide)
 next U=>
 have I:II x (k:Nat) set=false:=by simpa using hb
 unfold II at I;obtain⟨⟨⟨hk0,hk1⟩,hs0⟩,hs1⟩:((0<=(k:Int)/\(k:Int)<x.types.length)/\0<set)/\shV .shr .i64 set (x.orders.length:Nat)=0:=by
   simpa using I
 rw[tT (by omega)]at hs1;have J:set<2^x.orders.length:=by
   have Y:(0:Int)<2^x.orders.length:=Int.pow_pos (by decide);rcases Int.lt_or_le set (2^x.orders.length)with h|h
   . exact h
   . have:=Int.le_ediv_of_mul_le Y (show 1*2^x.orders.length<=set by omega)
     omega
 rw[if_neg hb,if_neg (by assumption)];simp only[U,if_true];have E:=qC t 17 ⟨x,k,set,iS x set,cJ,false⟩ [] t.src (lP t [] t.start 0);obtain⟨l,Z,V,X,O⟩:=Ed t 17 ⟨x,k,set,iS x set,cJ,false⟩ [] t.src (lP t [] t.start 0) (fun h=>Bool.noConfusion h) jB.nil U;unfold Bq;generalize mL t 17 ⟨x,k,set,iS x set,cJ,false⟩ [] t.src (lP t [] t.start 0)=s' at *;have F:lD s' l=⟨(k:Nat),0,[],l⟩:=by unfold lD;rw[E.kind]
 rw[F,E.x]at V;rw[E.x,E.set]at X;rw[E.total]at O;refine⟨by omega,hs0,J,l,?_,V,X,O⟩;rw[Z];unfold Hj;rw[F,E.x,E.set,E.kind]
abbrev cE(l:List Column):Row:=⟨43,7,l.map aU⟩
def Ec(x:Instance)(kind set:Nat):List Column:=if((pS x (kind:Nat) (set:Nat)).2 == 0)=true then[(pS x (kind:Nat) (set:Nat)).1]else[]
def qM(x:Instance)(kind m:Nat):List Column:=(List.range m).flatMap fun s=>Ec x kind (s+1)
def Bv(x:Instance)(k:Nat):List Column:=(List.range k).flatMap fun kind=>qM x kind (2^x.orders.length-1)
def sO(x:Instance):List Column:=Bv x x.types.length
theorem Ag(x:Instance)(kind m:Nat):qM x kind (m+1)=qM x kind m++Ec x kind (m+1):=by
 unfold qM;rw[Xbg,Xbu];simp
theorem B0(x:Instance)(k:Nat):Bv x (k+1)=Bv x k++qM x k (2^x.orders.length-1):=by
 unfold Bv;rw[Xbg,Xbu];simp
theorem V1(x:Instance)(kind set:Nat):(Ec x kind set).length<=1:=by unfold Ec;split <;> simp
theorem xN(x:Instance)(kind:Nat):∀m,(qM x kind m).length<=m
 | 0=>Xah _
 | m+1=>by
   rw[Ag,Xae];have:=xN x kind m;have:=V1 x kind (m+1);omega
theorem tA(x:Instance):∀k,(Bv x k).length<=k*2^x.orders.length
 | 0=>Xab _
 | k+1=>by
   rw[B0,Xae,Nat.succ_mul];have:=tA x k;have:=xN x k (2^x.orders.length-1);have E:0<2^x.orders.length:=Nat.two_pow_pos _;omega
theorem WD{x:Instance}{kind set:Nat}{c:Column}(F:x.orders.length<=8)(h:c∈Ec x kind set):BestQ x kind set c:=by
 unfold Ec at h;split at h
 next E=>
   have:=Z8 (x:=x) (k:=kind) (set:=(set:Nat)) F (by simpa using E);rw[Xbf.1 h];exact this
 . cases h
theorem nT{x:Instance}{c:Column}(E:x.orders.length<=8)(h:c∈sO x):∃kind set:Nat,BestQ x kind set c:=by
 unfold sO Bv qM at h;obtain⟨kind,_,h⟩:=List.mem_flatMap.1 h;obtain⟨s,_,h⟩:=List.mem_flatMap.1 h;exact⟨kind,s+1,WD E h⟩
theorem GS(l:List Column)(c:Column):(⟨43,7,l.map aU++[aU c]⟩:Row)=cE (l++[c]):=by
 show _=(⟨43,7,(l++[c]).map aU⟩:Row);rw[Xar];rfl
theorem Lm{s n:Nat}(E:n<=8):shV .shr .i64 ((s:Nat):Int) ((n:Nat):Int)=((s/2^n:Nat):Int):=by
 rw[tT (by omega)];simp
theorem alT(x:Instance)(hE:EvalB x)(hn:x.orders.length<=8)(ht:x.types.length<=1000):NC prog 36 [.agg (aD x)] (cE (sO x)) (fun j=>.tup [.os j,int 0]):=by
 refine ncb (fun t=>t == 4) Tryz.func36 ?_;unfold Tryz.f36;simp only[gdS];simp only[go_sem];refine aL fun j ah=>?_
 generalize af:aI _ j _=HGj;have R:HGj j=some (cE []):=by rw[<-af,aA];try rfl
 clear af ah;simp only[go_sem,R];refine⟨fun ρ H=>∃(k:Nat) (j:Nat),k<=x.types.length/\ρ 1=.rp (aD x) 0/\ρ 11=int (x.types.length:Nat)/\ρ 12=int k/\ρ 4=.os j/\H j=some (cE (Bv x k)),fun ρ _=>x.types.length-aV (ρ 12),⟨0,j,Xab _,by simp only[go_sem],by simp only[go_sem,Xaa],(by simp only[go_sem];rfl),by simp only[go_sem],R⟩,?_⟩;rintro ρ H ⟨k,j,hk,J,E,F,I,R⟩;simp only[go_sem,J,E,F,I];refine aB (fun aa=>?_) (fun ac=>?_)
 . have aa:=ltB (by simpa using aa)
   have hs:=B0 x k;have am:=tA x k;have h8:2^x.orders.length<=256:=Xal (Xav (by decide) hn) (by decide);have hp:0<2^x.orders.length:=Nat.two_pow_pos _;have al:k*2^x.orders.length<=256000:=Xal (Nat.mul_le_mul (show k<=1000 by omega) h8) (by decide);generalize ap:Bv x k=A at *;simp only[go_sem,J,E,F,I];refine⟨fun ρ H=>∃m j:Nat,m<=2^x.orders.length-1/\ρ 1=.rp (aD x) 0/\ρ 5=int (k:Nat)/\ρ 6=int (m+1:Nat)/\ρ 11=int x.types.length/\ρ 12=int (k:Nat)/\ρ 4=.os j/\H j=some (cE (A++qM x k m)),fun ρ _=>2^x.orders.length-aV (ρ 6),⟨0,j,Xab _,by simp only[go_sem,J,E,F,I],by simp only[go_sem,J,E,F,I],(by simp only[go_sem,J,E,F,I];rfl),by simp only[go_sem,J,E,F,I],by simp only[go_sem,J,E,F,I],by simp only[go_sem,J,E,F,I],by simpa[qM]using R⟩,?_⟩;clear J I E F R;rintro ρ H ⟨m,j,hm,J,X,Y,E,F,I,R⟩;simp only[go_sem,J,I,X,Y,E,F,Xaa];refine⟨by omega,aB (fun ae=>?_) (fun ad=>?_)⟩
   . rw[Lm hn]at ae
     have ab:(m+1)/2^x.orders.length=0:=by
       have:(((m+1)/2^x.orders.length:Nat):Int)=0:=by simpa using ae
       omega
     have aj:m+1<2^x.orders.length:=(Nat.div_eq_zero_iff.1 ab).resolve_left (by omega);have U:=Ag x k m;have ao:=xN x k m;simp only[go_sem,J,I,X,Y,E,F];refine PC.use (ahP x (k:Nat) ((m+1:Nat):Int) hE hn) ?_;have ag:Ec x k (m+1)=if((pS x (k:Nat) ((m+1:Nat):Int)).2 == 0)=true then[(pS x (k:Nat) ((m+1:Nat):Int)).1]else[]:=rfl
     rw[ag]at U;generalize pS x (k:Nat) ((m+1:Nat):Int)=B at *;generalize qM x k m=KM at *;simp only[go_sem,J,I,X,Y,E,F];refine aL fun i7 Z=>?_
     have O:j≠i7:=aP R Z;simp only[go_sem,J,I,X,Y,E,F,R];refine aH (aA _ _ _) (by simp[cA]) ?_;generalize V:aI (aI _ i7 _) i7 _=HGi7;replace R:=kpR V O O R;have R7:HGi7 i7=some (cE [B.1]):=by rw[<-V,aA];try rfl
     clear V Z;simp only[go_sem,J,I,X,Y,E,F,R7,R];refine aB (fun hc=>?_) (fun hc=>?_)
     . rw[if_pos hc]at U
       simp only[go_sem,J,I,X,Y,E,F,R7];refine aZ R ⟨rfl,rfl⟩ (by simp only[go_sem]) (by simp only[Xaa,Xae,Xad,List.length_nil];omega) (fun j2 an=>?_);simp only[go_sem,J,I,X,Y,E,F,aT (show m+1<=4611686018427387904 by omega)];refine⟨⟨m+1,j2,by omega,rfl,rfl,?_⟩,by simp only[aE];omega⟩;rw[U,<-Xaw,aA];exact congrArg some (GS _ _)
     . rw[if_neg (by rw[hc];simp),Xai]at U
       simp only[go_sem,J,I,X,Y,E,F,aT (show m+1<=4611686018427387904 by omega)];refine⟨⟨m+1,j,by omega,rfl,rfl,?_⟩,by simp only[aE];omega⟩;rw[U];exact R
   . rw[Lm hn]at ad
     have ab:¬(m+1)/2^x.orders.length=0:=by
       have:¬(((m+1)/2^x.orders.length:Nat):Int)=0:=by simpa using ad
       omega
     have ak:¬m+1<2^x.orders.length:=fun h=>ab (Nat.div_eq_of_lt h)
     have ai:m=2^x.orders.length-1:=by omega
     subst ai;simp only[go_sem,J,I,E,F,aT (show k<=4611686018427387904 by omega)];refine⟨⟨k+1,j,aa,rfl,rfl,?_⟩,by simp only[aE];omega⟩;rw[hs];exact R
 have ac:=geB hk (by simpa using ac);subst ac;simp only[go_sem,J,E,F,I];exact⟨j,rfl,R⟩
end Sq
namespace Sq
open Go.Proofs.Tryz(prog)
open Rx (bF.cutO DI Dj BC)
open Mv (bJ bR aM)
theorem aaA{g:Nat}{cap:List AV}{p:Column->Bool}(l:List Column)(hl:l.length<=4000000000000000000)(X:aG prog g=true)(hg:∀v∈l,PC prog g ((.agg (aU v))::cap) (boo (p v))):
   PC prog 68 [.sl (l.map aU),.fn g cap] (int (nQ p l 0)):=by
 refine pcd Tryz.func68 ?_;unfold Tryz.f68;simp only[gdS];simp only[go_sem];refine⟨fun ρ _=>∃k:Nat,k<=l.length/\ρ 0=.sl (l.map aU)/\ρ 1=.fn g cap/\ρ 7=int l.length/\ρ 8=int k/\∀u∈l.take k,p u=false,fun ρ _=>l.length-aV (ρ 8),⟨0,Xab _,rfl,rfl,rfl,rfl,by simp⟩,?_⟩;rintro ρ H ⟨k,Z,h0,h1,U,I,J⟩;simp only[go_sem,h0,h1,U,I];refine aB (fun E=>?_) (fun F=>?_)
 . have E:=aQ E
   obtain⟨u,O⟩:=aN E;have Y:=inB E;simp only[go_sem,h0,h1,U,I,aC O,Y,X];refine PC.use (hg u (Xac O)) ?_;simp only[go_sem,h0,h1,U,I];refine aB (fun V=>?_) (fun V=>?_)
   . simp only[go_sem,I]
     exact bJ (by rw[kW J O V];omega)
   . simp only[go_sem,h0,h1,U,I,aT (show k<=4611686018427387904 by omega)]
     exact⟨⟨k+1,E,rfl,aM (p:=fun u=>p u=false) O V J⟩,by simp only[aE];omega⟩
 . have F:=aR Z F
   subst F;rw[Xag]at J;simp only[go_sem];exact bJ (by rw[jP J])
theorem Lw(u v:Column):nH (aU u) 0 (aU v)=aU v:=(rfl)
theorem ON{g:Nat}{cap cap':List AV}{p:Column->Bool}(l:List Column)(H0:aK)(F:Nat)(hj:H0 F=some ⟨43,7,l.map aU⟩)(hl:l.length<=1000000000)(aa:aG prog g=true)(hg:∀v∈l,PC prog g ((.agg (aU v))::cap') (boo (p v)))
   (hc:∀H:aK,(∀k row,k≠F->H0 k=some row->H k=some row)->ConvL H cap cap') {K:AV->aK->Prop}
   (hK:∀(I:Nat) (H':aK),(∀k row,k≠F->H0 k=some row->H' k=some row)->(H0 I=none\/I=F)->H' I=some ⟨43,7,(l.filter fun v=> !p v).map aU⟩->K (.os I) H'):
   bF prog 37 [.os F,.fn g cap] H0 K:=by
 have ac:bF prog 37 [.os F,.fn g cap] H0 fun a H'=>K a H'\/∃j i row,a=.oz j 0 i/\H' j=some row/\i<=row.es.length/\∀I,H' I=none->K (.os I) (aI (aI H' j none) I (some ⟨row.e,row.sz,row.es.take i⟩)):=by
   refine bF.body (c:=Tryz.f37.body.getD .skip) (fun _=>false) mixed Tryz.func37 rfl (by kernel_rfl) ?_;unfold Tryz.f37;simp only[gdS];simp only[go_sem];refine dP.use ⟨[.sl (l.map aU),.fn g cap'],.cons _ _ _ _ (.row _ _ _ hj (ConvE.refl _)) (.cons _ _ _ _ (.fn _ _ _ (hc H0 fun _ _ _ h=>h)) .nil),aaA l (by omega) aa hg,rfl⟩ ?_;simp only[go_sem];refine aB (fun hb=>?_) (fun hb=>?_)
   . have hm:∀y∈l,p y=false:=DI (Xbi 0) (by simpa using hb)
     simp only[go_sem];refine .inl (hK F H0 (fun _ _ _ h=>h) (.inr rfl) ?_);rw[List.filter_eq_self.2 (fun v Z=>by rw[hm v Z];rfl)];exact hj
   obtain⟨i,y,hi,hy,aq,ae⟩:=Dj (p:=p) (l:=l) (by simpa using hb);have am:=(List.getElem?_eq_some_iff.1 hy).1;rw[Int.zero_add]at hi;rw[hi];simp only[go_sem,aT (show i<=4611686018427387904 by omega)];refine⟨fun ρ H=>∃(k m:Nat) (E:List Column),k<=l.length/\m<k/\ρ 0=.os F/\ρ 1=.fn g cap/\ρ 5=int m/\ρ 6=int k/\H F=some ⟨43,7,E.map aU⟩/\E.length=l.length/\E.take m=(l.take k).filter (fun v=> !p v)/\E.drop k=l.drop k/\∀q row,q≠F->H0 q=some row->H q=some row,fun ρ _=>l.length-aV (ρ 6),⟨i+1,i,l,am,Nat.lt_succ_self _,by simp only[go_sem],by simp only[go_sem],(by simp only[go_sem]),(by simp only[go_sem]),hj,rfl,?_,rfl,fun _ _ _ h=>h⟩,?_⟩
   . rw[bQ hy,List.filter_append,List.filter_eq_self.2 (fun v Z=>by rw[ae v Z];rfl)]
     simp[aq]
   rintro ρ H ⟨k,m,E,hk,au,h0,h1,J,X,R,hE,ht,hd,hs⟩;simp only[go_sem,h0,h1,J,X,R,Xaa];refine aB (fun V=>?_) (fun ad=>?_)
   . have V:k<l.length:=by simp at V;omega
     obtain⟨v,Z⟩:=aN V;have ao:E[k]?=some v:=by
       have h2:=congrArg (fun L=>L[0]?) hd;simp only[List.getElem?_drop,Nat.add_zero]at h2;rw[h2,Z]
     have b1:((0:Int)<=(k:Nat)/\((k:Nat):Int)<((E.length:Nat):Int)):=by omega
     have b2:((0:Int)<=(m:Nat)/\((m:Nat):Int)<((E.length:Nat):Int)):=by omega
     simp only[go_sem,h0,h1,J,X,R,Xaa,aC ao,b1,aa];refine⟨by omega,aL fun i7 h7=>?_⟩;have af:F≠i7:=aP R h7;simp only[go_sem,h0,h1,J,X];refine aH (aA _ _ _) (by simp[cA]) ?_;generalize hG:aI (aI H i7 _) i7 _=HG;have R':HG F=some ⟨43,7,E.map aU⟩:=by rw[<-hG,aF _ _ _ _ af,aF _ _ _ _ af];exact R
     have R7:HG i7=some ⟨43,7,[aU v]⟩:=by rw[<-hG,aA];rfl
     have ab:∀q row,q≠F->H0 q=some row->HG q=some row:=fun q row Y h=>by
       have h2:=hs q row Y h;have:q≠i7:=fun e=>by rw[e,h7]at h2;cases h2
       rw[<-hG,aF _ _ _ _ this,aF _ _ _ _ this];exact h2
     clear hG h7 R hs;simp only[go_sem,h0,h1,J,X,R7,aa];refine dP.use ⟨(.agg (aU v))::cap',.cons _ _ _ _ (.refl _) (hc HG ab),hg v (Xac Z),rfl⟩ ?_;simp only[go_sem,h0,h1,J,X];refine gA (fun U H'=>U 0=.os F/\U 1=.fn g cap/\U 6=int k/\∃(m':Nat) (E':List Column),m'<k+1/\U 5=int m'/\H' F=some ⟨43,7,E'.map aU⟩/\E'.length=l.length/\E'.take m'=(l.take (k+1)).filter (fun v=> !p v)/\E'.drop (k+1)=l.drop (k+1)/\∀q row,q≠F->H0 q=some row->H' q=some row) ?_ fun K' ai _ _=>aB (fun hb=>?_) (fun hb=>?_)
     rotate_left
     . have hp:p v=false:=by simpa using hb
       simp only[go_sem,h0,J,R7,R',Xaa,b2];refine aH R' (by simp[cA];omega) ?_;simp only[go_sem,J,aT (show m<=4611686018427387904 by omega)];refine ai _ _ ⟨by simp only[go_sem,h0],by simp only[go_sem,h1],by simp only[go_sem,X],m+1,E.set m v,by omega,rfl,?_,by rw[List.length_set,hE],?_,?_,fun q row Y h=>by rw[aF _ _ _ _ Y];exact ab q row Y h⟩
       . rw[aA,List.map_set]
         obtain⟨u,hu⟩:=aN (l:=E) (k:=m) (by omega);rw[aC hu];exact congrArg (fun x=>some (⟨43,7,(E.map aU).set m x⟩:Row)) (Lw u v)
       . rw[BC E (by omega),ht,bQ Z,List.filter_append]
         simp[hp]
       . rw[List.drop_set_of_lt (by omega),<-List.drop_drop,hd,List.drop_drop]
     . have hp:p v=true:=by simpa using hb
       simp only[go_sem];refine ai _ _ ⟨by simp only[go_sem,h0],by simp only[go_sem,h1],by simp only[go_sem,X],m,E,by omega,by simp only[go_sem,J],R',hE,?_,?_,ab⟩
       . rw[ht,bQ Z,List.filter_append]
         simp[hp]
       . rw[<-List.drop_drop,hd,List.drop_drop]
     rintro ρ H ⟨h0,h1,X,m',E',ah,J,R,an,ap,al,ar⟩;simp only[go_sem,X,aT (show k<=4611686018427387904 by omega)];exact⟨⟨k+1,m',E',V,ah,h0,h1,J,rfl,R,an,ap,al,ar⟩,by simp only[aE];omega⟩
   . have ad:k=l.length:=by simp at ad;omega
     subst ad;rw[Xag]at ht;have av:m<=E.length:=by omega
     simp only[go_sem,h0,J,R,Xaa];refine⟨by omega,X3 aAN aAH R (.inr ⟨_,rfl,rfl⟩) rfl ?_⟩;simp only[go_sem,h0,J,aA];refine⟨⟨by omega,by simp;omega⟩,.inr ⟨F,m,_,rfl,aA _ _ _,?_,fun I O=>?_⟩⟩
     . simp;omega
     have ag:I≠F:=fun e=>by rw[e,aA]at O;cases O
     rw[aF _ _ _ _ ag]at O;have aj:H0 I=none:=by
       cases e:H0 I with
       | none=>rfl
       | some row=>rw[hs I row ag e]at O;cases O
     refine hK I _ (fun q row Y h=>?_) (.inl aj) ?_
     . have ak:q≠I:=fun e=>by rw[e,aj]at h;cases h
       rw[aF _ _ _ _ ak,aF _ _ _ _ Y,aF _ _ _ _ Y];exact hs q row Y h
     . rw[aA]
       refine congrArg (fun L=>some (⟨43,7,L⟩:Row)) ?_;rw[List.take_append_of_le_length (by simp;omega),List.take_append_of_le_length (by simp;omega),Xap (by simp;omega),<-List.map_take,ht]
 exact bF.cutO ac
end Sq
namespace Nu
open Go.Nu Go.So Go.Sb
structure ColsOk(cols:List Column)(rates:List ByteArray):Prop where
 set:∀c∈cols,0<=c.set/\c.set<=9223372036854775807
 cl:cols.length<=1048576
 rl:rates.length<=1048576
 rs:∀s∈rates,s.size<=1048576
end Nu
namespace Nu
open Go.Proofs.Tryz(prog)
open Go.Nu Go.So Go.Sb
theorem Uv{l:List Int}{d:Int}(h:wQ l d=true):1<=(l.length:Int)/\(l.length:Int)<=3/\(l.length:Int)=d/\∀n∈l,0<=n/\n<=1000:=by
 unfold wQ at h;split at h
 . cases h
 . next h1=>
   simp only[Xbq,not_or,Xcd,Xcg,bne_eq_false_iff_eq]at h1;have e:=eH.1 h1.1;exact⟨e.1,e.2,h1.2,fun n E=>eH.1 (Xaj.1 h n E)⟩
theorem W9{l:List Int}{d:Int}(h:fQ l d=true):(l.length:Int)=d/\∀n∈l,0<=n/\n<=1000:=by
 unfold fQ at h;split at h
 . next h1=>
   refine⟨h1,fun n E=>?_⟩;have:=Xaj.1 h n E;simp at this;omega
 . cases h
theorem Tp{x:Instance}(h:Acc x):LoadsOk x (jI x.types).toNat/\x.types≠[]:=by
 have E:x.types≠[]:=by
   intro h0;have:=h.types;rw[h0]at this;simp at this
 obtain⟨t,r,F⟩:=List.exists_cons_of_ne_nil E;have O:jI x.types=t.cap.length:=by rw[F];rfl
 have I:=Uv (h.type t (by rw[F];exact Xcl)).cap;have e:((jI x.types).toNat:Int)=jI x.types:=by omega
 refine⟨⟨by omega,by have:=h.orders;omega,by have:=h.types;omega,fun o J=>?_,fun t F=>?_⟩,E⟩
 . have:=W9 (h.order o J).load
   exact⟨by omega,this.2⟩
 . have:=Uv (h.type t F).cap
   exact⟨by omega,this.2.2.2⟩
theorem ahJ(c:Cut)(F:Nat)(h:0<=c.set)(E:c.set<9223372036854775808)(I:F<2^63):PC prog 159 [.agg (jM c),int F] (int (ER c.kind (c.set.toNat &&& F))):=by
 obtain⟨k,s,n⟩:=c;obtain⟨m,rfl⟩:=Int.eq_ofNat_of_zero_le h;have E:(m:Int)<9223372036854775808:=E;exact anE k n m F (by omega) I
end Nu
namespace Nu
open Go.Nu
open Dec (mP dT eY dY uG lQ)
def aBl(x:Instance):List Nat:=(List.range x.orders.length).filter (EW (fun _=>true) x.orders)
def G9(x:Instance):List Int:=(aBl x).map fun i:Nat=>(i:Int)
def alS(x:Instance)(k:Nat):List Int:=((List.range k).filter (EW (fun _=>true) x.orders)).map fun i:Nat=>(i:Int)
theorem Wt(x:Instance)(k:Nat):(alS x k).length<=k:=by
 unfold alS;rw[Xaa];exact Xal (Xcc _ _) (by rw[Xaz];exact Xah _)
theorem acI(x:Instance):(G9 x).length<=x.orders.length:=Wt x _
theorem HV{p q:Nat->Bool}{n:Nat}(h1:∀i,i<n->p i=q i)(E:∀i,n<=i->p i=false):∀m,(List.range (n+m)).filter p=(List.range n).filter q
 | 0=>List.filter_congr fun i hi=>h1 i (Xam.1 hi)
 | m+1=>by
   rw[<-Nat.add_assoc,Xbg,List.filter_append,HV h1 E m];simp[E (n+m) (by omega)]
theorem aeK(x:Instance)(h:x.orders.length<=62):gZ (Is x:Nat)=G9 x:=by
 unfold gZ oT G9 aBl
 congr 1
 obtain⟨m,hm⟩:∃m,63=x.orders.length+m:=⟨63-x.orders.length,by omega⟩;have F:∀i,(Is x).testBit i=(decide (i<x.orders.length)&&EW (fun _=>true) x.orders i):=fun i=>Hq _ _ _
 have E:∀i:Nat,dE ((Is x:Nat):Int) (i:Int)=(decide (i<x.orders.length)&&EW (fun _=>true) x.orders i):=by
   intro i;by_cases hi:i<=62
   . rw[kS hi,F]
   . unfold dE
     rw[decide_eq_false (show ¬((i:Int)<=62)by omega),decide_eq_false (show ¬i<x.orders.length by omega)];simp
 rw[hm];refine HV (fun i hi=>?_) (fun i hi=>?_) m
 . rw[E,decide_eq_true hi,Xbl]
 . rw[E,decide_eq_false (by omega),Bool.false_and]
def I0(b:Bool):Int:=if b=true then 1 else 0
def ZB(d:Decision):Bool:=d.kind == 3||d.kind == 4
theorem ZU(l:List Decision)(k:Nat):((l.take k).filter ZB).length<=k:=Xal (Xcc _ _) (by rw[Xao];omega)
theorem EZ{α:Type}{p:α->Bool}{l:List α}{k:Nat}{a:α}(h:l[k]?=some a):(l.take (k+1)).filter p=(l.take k).filter p++(if p a=true then[a]else[]):=by
 rw[bQ h,List.filter_append];by_cases E:p a=true
 . simp[E]
 . simp[E]
abbrev Lx(l:List Int):Row:=⟨3,1,l.map bW⟩
def aAg(x:Instance)(cuts:List Cut)(ds:List Decision):Nat:=(G9 x).length+x.types.length+cuts.length+(ds.filter ZB).length
structure MIn(x:Instance)(cuts:List Cut)(ds:List Decision):Prop where
 orders:x.orders.length<=62
 types:x.types.length<=1048576
 cl:cuts.length<=1048576
 dl:ds.length<=1048576
theorem Xw{α:Type}(p:α->Bool)(l:List α)(k:Nat):((l.take k).filter p).length<=k:=Xal (Xcc _ _) (by rw[Xao];omega)
def zR(x:Instance)(c:Column):List Int:=(G9 x).map fun i=>I0 (dE c.set i)
def tO(x:Instance)(c:Column)(k:Nat):List Int:=(List.range k).map fun t:Nat=>I0 (c.type == (t:Int))
def zI(c:Column)(cuts:List Cut):List Int:=cuts.map fun q=>ER q.kind (q.set.toNat &&& c.set.toNat)
def zJ(c:Column)(ds:List Decision):List Int:=(ds.filter ZB).map fun d=>I0 (c.type == d.a)
def yU(x:Instance)(c:Column)(cuts:List Cut)(ds:List Decision):List Int:=zR x c++tO x c x.types.length++zI c cuts++zJ c ds
structure ColB(c:Column):Prop where
 set:0<=c.set/\c.set<=9223372036854775807
structure CutsB(cuts:List Cut):Prop where
 set:∀q∈cuts,0<=q.set/\q.set<=9223372036854775807
end Nu
namespace Nu
open Go.Proofs.Tryz(prog)
open Go.Nu
open Dec (mP dT eY dY uG lQ)
theorem amP(d:Decision):PC prog 160 [.agg (bE d)] (boo (ZB d)):=by
 refine pcd Tryz.func160 ?_;unfold Tryz.f160;simp only[gdS];simp only[go_sem];exact .refl _
theorem Nj(b:Bool):PC prog 158 [boo b] (int (I0 b)):=by
 refine pcd Tryz.func158 ?_;unfold Tryz.f158;simp only[gdS];simp only[go_sem];refine aB (fun E=>?_) (fun E=>?_)
 . simp only[go_sem]
   subst E;exact .refl _
 . simp only[go_sem]
   subst E;exact .refl _
theorem alA(x:Instance)(c:Column)(cuts:List Cut)(ds:List Decision)(h:MIn x cuts ds)(hc:ColB c)(hq:CutsB cuts):
   PC prog 96 [.agg (aD x),.agg (aU c),.sl (cuts.map jM),.sl (ds.map bE)] (.sl ((yU x c cuts ds).map bW)):=by
 have h1:=h.orders;have h2:=h.types;have h3:=h.cl;have h4:=h.dl;have a0:=acI x;obtain⟨sn,av⟩:=Int.eq_ofNat_of_zero_le hc.set.1;have aq:sn<2^63:=by have:=hc.set.2;omega
 refine pcb (fun t=>t == 9) Tryz.func96 ?_;unfold Tryz.f96;simp only[gdS];simp only[go_sem];refine aL fun j ax=>?_
 generalize aw:aI _ j _=HGj;have R:HGj j=some (Lx []):=by rw[<-aw,aA];try rfl
 clear aw ax;simp only[go_sem,R];refine PC.use (amJ x h1) ?_;simp only[go_sem];refine PC.use (qE _) ?_;rw[aeK x h1];simp only[go_sem];refine⟨fun ρ H=>∃(k:Nat) (j:Nat),k<=(G9 x).length/\ρ 2=.sl (cuts.map jM)/\ρ 3=.sl (ds.map bE)/\ρ 4=.rp (aD x) 0/\ρ 5=.rp (aU c) 0/\ρ 19=.sl ((G9 x).map bW)/\ρ 20=int ((G9 x).length:Nat)/\ρ 21=int k/\ρ 9=.os j/\H j=some (Lx (((G9 x).take k).map fun i=>I0 (dE c.set i))),fun ρ _=>(G9 x).length-aV (ρ 21),⟨0,j,Xab _,by simp only[go_sem],by simp only[go_sem],by simp only[go_sem],by simp only[go_sem],by simp only[go_sem],by simp only[go_sem,Xaa],(by simp only[go_sem];rfl),by simp only[go_sem],R⟩,?_⟩;rintro ρ H ⟨k,j,hk,e2,O,e4,E,ah,af,ag,I,R⟩;simp only[go_sem,e2,O,e4,E,ah,af,ag,I];refine aB (fun F=>?_) (fun J=>?_)
 . have F:=ltB (by simpa using F)
   obtain⟨i,hi⟩:=aN F;have b1:=inB F;simp only[go_sem,e2,O,e4,E,ah,af,ag,I,aC hi,b1];refine PC.use (xO _ i) ?_;simp only[go_sem,e2,O,e4,E,ah,af,ag,I];refine PC.use (Nj _) ?_;simp only[go_sem,e2,O,e4,E,ah,af,ag,I];refine aZ R ⟨rfl,rfl⟩ ⟨rfl,trivial⟩ (by simp only[Xaa,Xao,Xad,List.length_nil];omega) (fun j' ar=>?_);simp only[go_sem,e2,O,e4,E,ah,af,ag,I,aT (show k<=4611686018427387904 by omega)];refine⟨⟨k+1,j',F,rfl,rfl,?_⟩,by simp only[aE];omega⟩;rw[bQ hi,Xar];exact pK rfl
 have J:=geB hk (by simpa using J);subst J;rw[Xag]at R
 change H j=some (Lx (zR x c))at R
 simp only[go_sem,e2,O,e4,E,ah,af,ag,I,Xaa];refine⟨fun ρ H=>∃(k:Nat) (j:Nat),k<=x.types.length/\ρ 2=.sl (cuts.map jM)/\ρ 3=.sl (ds.map bE)/\ρ 5=.rp (aU c) 0/\ρ 36=int (x.types.length:Nat)/\ρ 37=int k/\ρ 9=.os j/\H j=some (Lx (zR x c++tO x c k)),fun ρ _=>x.types.length-aV (ρ 37),⟨0,j,Xab _,by simp only[go_sem,e2,O,E],by simp only[go_sem,e2,O,E],by simp only[go_sem,e2,O,E],by simp only[go_sem,Xaa,e2,O,E],(by simp only[go_sem,e2,O,E];rfl),by simp only[go_sem,I],by simpa[tO]using R⟩,?_⟩;rintro ρ H ⟨k,j,hk,e2,O,E,ak,al,I,R⟩;simp only[go_sem,e2,O,E,ak,al,I];refine aB (fun F=>?_) (fun J=>?_)
 . have F:=ltB (by simpa using F)
   have ao:(zR x c++tO x c k).length<=62+k:=by unfold zR tO;simp only[Xae,Xaa,Xaz];omega
   simp only[go_sem,e2,O,E,ak,al,I];refine PC.use (Nj _) ?_;simp only[go_sem,e2,O,E,ak,al,I];refine aZ R ⟨rfl,rfl⟩ ⟨rfl,trivial⟩ (by simp only[Xaa,Xad,List.length_nil];omega) (fun j' ar=>?_);simp only[go_sem,e2,O,E,ak,al,I,aT (show k<=4611686018427387904 by omega)];refine⟨⟨k+1,j',F,rfl,rfl,?_⟩,by simp only[aE];omega⟩;have:tO x c (k+1)=tO x c k++[I0 (c.type == (k:Int))]:=by unfold tO;rw[Xbg,Xar];rfl
   rw[this,<-Xaw];exact pK rfl
 have J:=geB hk (by simpa using J);subst J;simp only[go_sem,e2,O,E,ak,al,I,Xaa];refine⟨fun ρ H=>∃(k:Nat) (j:Nat),k<=cuts.length/\ρ 3=.sl (ds.map bE)/\ρ 5=.rp (aU c) 0/\ρ 49=.sl (cuts.map jM)/\ρ 50=int (cuts.length:Nat)/\ρ 51=int k/\ρ 9=.os j/\H j=some (Lx (zR x c++tO x c x.types.length++zI c (cuts.take k))),fun ρ _=>cuts.length-aV (ρ 51),⟨0,j,Xab _,by simp only[go_sem,O,E],by simp only[go_sem,O,E],by simp only[go_sem,O,E],by simp only[go_sem,Xaa,O,E],(by simp only[go_sem,O,E];rfl),by simp only[go_sem,I],by simpa[zI]using R⟩,?_⟩;rintro ρ H ⟨k,j,hk,O,E,ad,aa,ab,I,R⟩;simp only[go_sem,O,E,ad,aa,ab,I];refine aB (fun F=>?_) (fun J=>?_)
 . have F:=ltB (by simpa using F)
   obtain⟨q,ap⟩:=aN F;have b1:=inB F;have az:=hq.set q (Xac ap);have ao:(zR x c++tO x c x.types.length++zI c (cuts.take k)).length<=62+1048576+1048576:=by unfold zR tO zI;simp only[Xae,Xaa,Xaz,Xao];omega
   simp only[go_sem,O,E,ad,aa,ab,I,aC ap,b1];refine aL fun an ai=>?_
   have Y:j≠an:=aP R ai;simp only[go_sem,O,E,ad,aa,ab,I,R];refine aH (aA _ _ _) (by simp[Ia]) ?_;generalize ae:aI (aI _ an _) an _=HGi14;replace R:=kpR ae Y Y R;have ay:HGi14 an=some (⟨115,3,[jM q]⟩):=by rw[<-ae,aA];try rfl
   clear ae ai;simp only[go_sem,O,E,ad,aa,ab,I,ay,R];rw[av];refine PC.use (ahJ q sn az.1 (by omega) aq) ?_;simp only[go_sem,O,E,ad,aa,ab,I];refine aZ R ⟨rfl,rfl⟩ ⟨rfl,trivial⟩ (by simp only[Xaa,Xad,List.length_nil];omega) (fun j' ar=>?_);simp only[go_sem,O,E,ad,aa,ab,I,aT (show k<=4611686018427387904 by omega)];refine⟨⟨k+1,j',F,rfl,rfl,?_⟩,by simp only[aE];omega⟩;have:zI c (cuts.take (k+1))=zI c (cuts.take k)++[ER q.kind (q.set.toNat &&& sn)]:=by unfold zI;rw[bQ ap,Xar,av];rfl
   rw[this,<-Xaw];exact pK rfl
 have J:=geB hk (by simpa using J);subst J;rw[Xag]at R;simp only[go_sem,O,E,ad,aa,ab,I,Xaa];refine⟨fun ρ H=>∃(k:Nat) (j:Nat),k<=ds.length/\ρ 5=.rp (aU c) 0/\ρ 63=.sl (ds.map bE)/\ρ 64=int (ds.length:Nat)/\ρ 65=int k/\ρ 9=.os j/\H j=some (Lx (zR x c++tO x c x.types.length++zI c cuts++zJ c (ds.take k))),fun ρ _=>ds.length-aV (ρ 65),⟨0,j,Xab _,by simp only[go_sem,E],by simp only[go_sem,E],by simp only[go_sem,Xaa,E],(by simp only[go_sem,E];rfl),by simp only[go_sem,I],by simpa[zJ]using R⟩,?_⟩;rintro ρ H ⟨k,j,hk,E,V,U,X,I,R⟩;simp only[go_sem,E,V,U,X,I];refine aB (fun F=>?_) (fun J=>?_)
 . have F:=ltB (by simpa using F)
   obtain⟨d,hd⟩:=aN F;have b1:=inB F;have hs:=EZ (p:=ZB) hd;have ao:(zR x c++tO x c x.types.length++zI c cuts++zJ c (ds.take k)).length<=62+1048576+1048576+1048576:=by
     have:=ZU ds k;unfold zR tO zI zJ;simp only[Xae,Xaa,Xaz];omega
   simp only[go_sem,E,V,U,X,I,aC hd,b1];refine aL fun am aj=>?_
   have Z:j≠am:=aP R aj;simp only[go_sem,E,V,U,X,I,R];refine aH (aA _ _ _) (by simp[nY]) ?_;generalize ac:aI (aI _ am _) am _=HGi16;replace R:=kpR ac Z Z R;have au:HGi16 am=some (⟨95,4,[bE d]⟩):=by rw[<-ac,aA];try rfl
   clear ac aj;simp only[go_sem,E,V,U,X,I,au,R];refine PC.use (amP d) ?_;simp only[go_sem,E,V,U,X,I];refine aB (fun hb=>?_) (fun hb=>?_)
   . rw[if_pos hb]at hs
     have:zJ c (ds.take (k+1))=zJ c (ds.take k)++[I0 (c.type == d.a)]:=by
       unfold zJ;rw[hs,Xar,Xbc,Xbs]
     simp only[go_sem,E,V,U,X,I,au];refine PC.use (Nj _) ?_;simp only[go_sem,E,V,U,X,I];refine aZ R ⟨rfl,rfl⟩ ⟨rfl,trivial⟩ (by simp only[Xaa,Xad,List.length_nil];omega) (fun j' ar=>?_);simp only[go_sem,E,V,U,X,I,aT (show k<=4611686018427387904 by omega)];refine⟨⟨k+1,j',F,rfl,rfl,?_⟩,by simp only[aE];omega⟩;rw[this,<-Xaw];exact pK rfl
   . rw[if_neg (by rw[hb];simp),Xai]at hs
     simp only[go_sem,E,V,U,X,I,aT (show k<=4611686018427387904 by omega)];refine⟨⟨k+1,j,F,rfl,rfl,?_⟩,by simp only[aE];omega⟩;have:zJ c (ds.take (k+1))=zJ c (ds.take k):=by unfold zJ;rw[hs]
     rw[this];exact R
 have J:=geB hk (by simpa using J);subst J;rw[Xag]at R;simp only[go_sem,E,V,U,X,I];exact .row _ _ _ R (ConvE.refl _)
def inM(cols:List Column)(ds:List Decision):List Column:=cols.filter fun c=>ds.all fun d=>eY d c.set
abbrev Vo(l:List Column):Row:=⟨43,7,l.map aU⟩
def eT(x:Instance)(c:Column)(cuts:List Cut)(ds:List Decision)(dual:List ByteArray):ByteArray×Int:=
 if dual.length≠(yU x c cuts ds).length then(emp,2)else if(tD (yU x c cuts ds) dual).2≠0 then(emp,(tD (yU x c cuts ds) dual).2)else LG (zed c.price) (tD (yU x c cuts ds) dual).1
theorem Su{n:Int}(h0: -9223372036854775808<=n)(h1:n<=9223372036854775807):(zed n).size<=8194:=by
 have:=Go.Nu.iQ (m:=n) (SS (k:=20) (by omega) (by omega));omega
theorem LB(b:Bool):I0 b=0\/I0 b=1:=by cases b <;> simp[I0]
theorem Zs(k:Int)(n:Nat):ER k n=0\/ER k n=1:=by unfold ER;split <;> simp
theorem VS{x:Instance}{c:Column}{cuts:List Cut}{ds:List Decision}{n:Int}(h:n∈yU x c cuts ds):n=0\/n=1:=by
 unfold yU zR tO zI zJ at h;simp only[Xau,Xbd]at h;rcases h with((⟨i,_,rfl⟩|⟨i,_,rfl⟩)|⟨i,_,rfl⟩)|⟨i,_,rfl⟩
 . exact LB _
 . exact LB _
 . exact Zs _ _
 . exact LB _
theorem TZ(x:Instance)(c:Column)(cuts:List Cut)(ds:List Decision)(dual:List ByteArray)(h:MIn x cuts ds)(Z:ColB c)(X:CutsB cuts)(I: -9223372036854775808<=c.price/\c.price<=9223372036854775807)(Y:dual.length<=1048576)(U:∀s∈dual,s.size<=1048576):
   PC prog 58 [.agg (aD x),.agg (aU c),.sl (cuts.map jM),.sl (ds.map bE),.sl (dual.map Go.Aw.D.gR)] (.tup [str (eT x c cuts ds dual).1,int (eT x c cuts ds dual).2]):=by
 refine pcd Tryz.func58 ?_;unfold Tryz.f58;simp only[gdS];simp only[go_sem];refine PC.use (alA x c cuts ds h Z X) ?_;have O:∀n∈yU x c cuts ds,-9223372036854775808<=n/\n<=9223372036854775807:=fun n V=>by rcases VS V with e|e <;> omega
 unfold eT;generalize yU x c cuts ds=L at *;simp only[go_sem,Xaa];refine aB (fun E=>?_) (fun E=>?_)
 . rw[if_pos (by simp at E;omega)]
   simp only[go_sem];exact .refl _
 rw[if_neg (by simp at E;omega)];simp only[go_sem];refine PC.use (ZQ L dual O Y U) ?_;have J:=Qf (ns:=L) (xs:=dual);generalize tD L dual=T at *;obtain⟨t,e⟩:=T;simp only[go_sem];refine aB (fun E=>?_) (fun E=>?_)
 . have F:e≠0:=by simpa using E
   rw[if_pos F];simp only[go_sem];exact .refl _
 have F:e=0:=by simpa using E
 rw[if_neg (by simpa using F)];have h8:=vH (J F);simp only[go_sem];refine PC.use (C0 c.price I.1 I.2) ?_;simp only[go_sem];have hz:=Su I.1 I.2;refine PC.use (AR (zed c.price) t (by omega) (by simp only at h8;omega)) ?_;simp only[go_sem];exact .refl _
end Nu
namespace Nu
open Go.Nu
abbrev atM(f:Nat->Nat)(i:Nat)(r:PRow):List AV:=[.os (f i),int r.kind,int r.right]
abbrev anV(f:Nat->Nat)(rows:List PRow):Row:=⟨200,3,rows.mapIdx (atM f)⟩
structure LinH(H:aK)(jr:Nat)(f:Nat->Nat)(rows:List PRow):Prop where
 row:H jr=some (anV f rows)
 coef:∀(i:Nat) (r:PRow),rows[i]?=some r->H (f i)=some (Lx r.coef)
 inj:∀i k,i<rows.length->k<rows.length->f i=f k->i=k
structure RowsS(H0 H:aK)(j:Nat)(f:Nat->Nat)(rows:List PRow):Prop where
 lin:LinH H j f rows
 keep:∀k row,H0 k=some row->H k=some row
 nj:H0 j=none
 nf:∀i,i<rows.length->H0 (f i)=none
def rowD(d:Decision):Option PRow:=if d.kind=3 then some ⟨[],1,d.n⟩else if d.kind=4 then some ⟨[],3,d.n⟩else none
def asC(k:Nat):List PRow:=List.replicate k ⟨[],2,1⟩
def avF(l:List VType):List PRow:=l.map fun t=>⟨[],1,t.count⟩
def auW(l:List Cut):List PRow:=l.map fun q=>⟨[],(Tn q).1,(Tn q).2⟩
def ayQ(l:List Decision):List PRow:=l.filterMap rowD
def JT(x:Instance)(cuts:List Cut)(ds:List Decision):List PRow:=asC (G9 x).length++avF x.types++auW cuts++ayQ ds
end Nu
namespace Nu
open Go.Proofs.Tryz(prog)
open Go.Nu
def cC(n N:Int):Bool:=decide (n<0)||decide (n>=N)
theorem jX(s:Score):(cD s).length=4:=(rfl)
theorem yC(s:Score):(cD s).getD 0 .any=int s.cost:=(rfl)
theorem xL(s:Score):(cD s).getD 1 .any=int s.moved:=(rfl)
theorem zF(s:Score):(cD s).getD 2 .any=int s.other:=(rfl)
theorem yE(s:Score):(cD s).getD 3 .any=int s.work:=(rfl)
theorem sF(s:Score):(cD s).take 4=cD s:=(rfl)
def cH:Score:=⟨0,0,0,0⟩
def anZ(s:Score):Int:=IntKind.i64.wrap (IntKind.i64.wrap (IntKind.i64.wrap (IntKind.i64.wrap (IntKind.i64.wrap (IntKind.i64.wrap (s.cost*16)+s.moved)*16)+s.other)*65536)+s.work)
def lZ(s:Score):Int×Int:=if(decide (s.cost<0)||decide (s.moved<0)||decide (s.other<0)||decide (s.work<0))=true then(0,2)
 else if(decide (s.cost>1073741824)||decide (s.moved>=16)||decide (s.other>=16)||decide (s.work>=65536))=true then(0,4)else(anZ s,0)
def L5(s:Score):Bool:=decide (s.cost>=0)&&decide (s.cost<=1073741824)&&decide (s.moved>=0)&&decide (s.moved<=15)&&decide (s.other>=0)&&decide (s.other<=15)&&decide (s.work>=0)&&decide (s.work<=65535)
theorem Wv(s:Score):PC prog 292 [.agg (cD s)] (boo (L5 s)):=by
 refine pcd Tryz.func292 ?_;unfold Tryz.f292;simp only[gdS];simp only[go_sem];exact .refl _
theorem RQ(s:Score):PC prog 252 [.agg (cD s)] (.tup [int (lZ s).1,int (lZ s).2]):=by
 unfold lZ;refine pcd Tryz.func252 ?_;unfold Tryz.f252;simp only[gdS];simp only[go_sem];refine aB (fun E=>?_) (fun E=>?_)
 . rw[if_pos E]
   simp only[go_sem];exact .refl _
 rw[if_neg (by rw[E];simp)];simp only[go_sem];refine PC.use (Wv s) ?_;simp only[go_sem];have e:(!L5 s)=(decide (s.cost>1073741824)||decide (s.moved>=16)||decide (s.other>=16)||decide (s.work>=65536)):=by
   unfold L5;simp only[Xaf,decide_eq_false_iff_not]at E;rw[Xas];simp;omega
 rw[<-e];refine aB (fun F=>?_) (fun F=>?_)
 . rw[if_pos F]
   simp only[go_sem];exact .refl _
 rw[if_neg (by rw[F];simp)];simp only[go_sem];exact .refl _
end Nu
namespace Nu
open Go.Nu
open Dec (mP dT eY dY uG lQ)
theorem Gp{x:Instance}{d:Nat}{q:Cut}(h:GF x d q=0):0<=q.set:=by
 unfold GF Mt at h;refine Decidable.byContradiction fun E=>?_
 rw[decide_eq_false (show ¬q.set>=0 by omega)]at h;simp at h;split at h
 . cases h
 . split at h
   . cases h
   . cases h
end Nu
namespace Nu
open Go.Nu
def abS(n:Int):Prop:= -9223372036854775808<=n/\n<=9223372036854775807
structure LinB(p:PLin):Prop where
 rows:p.rows.length<=1048576
 cost:p.cost.length<=1048576
 coef:∀r∈p.rows,∀n∈r.coef,abS n
 right:∀r∈p.rows,abS r.right
structure VarB(v:List ByteArray):Prop where
 len:v.length<=1048576
 size:∀s∈v,s.size<=1048576
end Nu
namespace Nu
open Go.Nu
open Dec (mP dT eY dY uG lQ)
def is0(s:ByteArray):Bool:=bl s == [48]
def is1(s:ByteArray):Bool:=bl s == [49]
def II(s:ByteArray):Bool:= !is0 s&& !is1 s
structure RightB(x:Instance)(cuts:List Cut)(ds:List Decision):Prop where
 types:∀t∈x.types,abS t.count
 cuts:∀q∈cuts,abS q.n
 ds:∀d∈ds,abS d.n
abbrev ordR(o:Order):Row:=⟨111,16,[bI o]⟩
abbrev arI(t:VType):Row:=⟨113,14,[bC t]⟩
abbrev insR(x:Instance):Row:=⟨30,6,[aD x]⟩
end Nu
end Go.Proofs.YtohmomanmikphaaGreatDoor
