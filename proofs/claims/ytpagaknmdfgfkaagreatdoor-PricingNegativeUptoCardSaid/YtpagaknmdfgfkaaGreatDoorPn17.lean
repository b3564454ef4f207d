import Derived.Test.YtpagaknmdfgfkaaGreatDoorPn15
import Derived.Test.YtpagaknmdfgfkaaGreatDoorPn16
set_option linter.unusedSimpArgs false
set_option linter.unusedVariables false
set_option linter.defProp false
set_option maxRecDepth 100000
namespace Go.Proofs.YtpagaknmdfgfkaaGreatDoor
open Go.Aw Go.Aw.D Go.Proofs Ty
namespace Sq
open Go.Proofs.Tryz
open Go.Proofs.YtpagaknmdfgfkaaGreatDoor.Nu (ltB geB)
open Mv (bP bS aO)
def atE(s:Score):Int:=IntKind.i64.wrap (IntKind.i64.wrap (IntKind.i64.wrap (IntKind.i64.wrap (IntKind.i64.wrap (IntKind.i64.wrap (s.cost*16)+s.moved)*16)+s.other)*65536)+s.work)
def oM(s:Score):Int×Int:=if(decide (s.cost<0)||decide (s.moved<0)||decide (s.other<0)||decide (s.work<0))=true then(0,2)
 else if(decide (s.cost>1073741824)||decide (s.moved>=16)||decide (s.other>=16)||decide (s.work>=65536))=true then(0,4)else(atE s,0)
def akP(s:Score):PC prog 263 [.agg (cE s)] (.agg (cE s)):=by
 refine pcd func263 rfl rfl ?_;simp only[go_sem];refine aN fun j E=>?_
 simp only[go_sem];refine aI (aB _ _ _) (by simp) ?_;simp only[go_sem];exact .refl _
def ZC(s:Score):PC prog 225 [.agg (cE s)] (.tup [int (oM s).1,int (oM s).2]):=by
 refine pcd func225 rfl rfl ?_;simp only[go_sem];refine aH (akP s) ?_;simp only[go_sem];refine aN fun j Y=>?_
 simp only[go_sem];refine cJ Y (by simp[lA]) fun T (R:T j=some (⟨289,4,[cE s]⟩)) N=>?_
 simp only[go_sem,R];refine⟨fun ρ H=>∃(k:Nat),k<=4/\ρ 1=.rp (cE s) 0/\ρ 9=.agg (cE s)/\ρ 10=int k/\(∀e∈[s.cost,s.moved,s.other,s.work].take k,¬e<0),fun ρ _=>4-aR (ρ 10),⟨0,Xaa _,rfl,rfl,(by simp only[go_sem];rfl),by simp⟩,?_⟩;rintro ρ H ⟨k,hk,X,e9,I,J⟩;simp only[go_sem,I];refine aA (fun E=>?_) (fun F=>?_)
 ·have E:k<4:=by simp at E;omega
  obtain⟨e,Z⟩:=aK (l:=[s.cost,s.moved,s.other,s.work]) (show k<[s.cost,s.moved,s.other,s.work].length from E);have hg:(cE s).getD k .any=int e:=by
   have:cE s=[s.cost,s.moved,s.other,s.work].map fun n=>int n:=rfl
   rw[this,List.getD,List.getElem?_map,Z];rfl
  simp only[go_sem,e9,I];refine⟨by omega,by omega,?_⟩;rw[Nat.mul_one,hg];simp only[go_sem];apply aA <;> intro O
  ·simp only[go_sem];have hm:=Xac Z;simp only[Xbc,List.not_mem_nil,or_false]at hm;have e:oM s=(0,2):=if_pos (by simp at O |-;rcases hm with h|h|h|h <;> omega);rw[e];exact .refl _
  ·simp only[go_sem,X,e9,I,aQ k];refine⟨⟨k+1,E,rfl,aO (p:=fun e:Int=>¬e<0) Z (by simpa using O) J⟩,msr E⟩
 have F:k=4:=by simp at F;omega
 subst F;have O:¬(decide (s.cost<0)||decide (s.moved<0)||decide (s.other<0)||decide (s.work<0))=true:=by have h0:=J s.cost (by simp);have h1:=J s.moved (by simp);have h2:=J s.other (by simp);have h3:=J s.work (by simp);simp;omega
 unfold oM;rw[if_neg O];simp only[go_sem,X,];apply aA <;> intro hc
 ·rw[if_pos hc];simp only[go_sem];exact .refl _
 rw[if_neg (by rw[hc];simp)];simp only[go_sem,X,];exact .refl _
def fH(x:Instance)(r:Route):Int×Int:=if((kK x r).2.2 != 0)=true then(0,(kK x r).2.2)else oM (kK x r).2.1
def ahR(x:Instance)(r:Route)(hx:EvalB x)(hr:r.visits.length<=1048575):PC prog 173 [.agg (aD x),.agg (bT r)] (.tup [int (fH x r).1,int (fH x r).2]):=by
 have hw:=ZC (kK x r).2.1;refine pcd func173 rfl rfl ?_;simp only[go_sem];refine aH (Vl x r hx hr) ?_;simp only[go_sem];refine fI fun Y J aa (F:J Y=some (dA (bR aX))) N=>?_
 simp only[go_sem];refine fI fun X O ab (T:O X=some (nR cL)) N=>?_
 replace F:=N F;obtain⟨E,F⟩:=F;simp only[go_sem];refine aI F (by simp[iP]) ?_;generalize I:aM _ Y _=HP;replace T:=kpA I (by first|exact ne_i7_i6|exact E.symm) T;replace F:HP Y=some (dA (bR (kK x r).1)):=upS I;simp only[go_sem];refine aI T (by simp[lA]) ?_;generalize I:aM _ X _=HP;replace F:=kpA I (by first|exact E|exact ne_i7_i6.symm) F;replace T:HP X=some (nR (kK x r).2.1):=upS I;simp only[go_sem];unfold fH;apply aA <;> intro Z
 ·rw[if_pos Z];simp only[go_sem];exact .refl _
 ·rw[if_neg (by rw[Z];simp)];simp only[go_sem,T];refine aH hw ?_;simp only[go_sem];exact .refl _
structure Sta where
 ready:Int
 driven:Int
def iM(s:Sta):List AV:=[int s.ready,int s.driven]
def IG(c:Sta):(iM c).length=2:=(rfl)
def adT(c:Sta):(iM c).getD 0 .any=int c.ready:=(rfl)
def agO(c:Sta):(iM c).getD 1 .any=int c.driven:=(rfl)
def Wf(c:Sta):(iM c).take 2=iM c:=(rfl)
attribute [go_sem] IG adT agO Wf
abbrev pU(l:List Sta):Row:=⟨228,2,l.map iM⟩
def Eg(s u:Sta):Bool:=s.ready == u.ready&&(s.driven == u.driven&&true)
def ahC(l:List Sta)(v:Sta)(hl:l.length<=1048576):PC prog 271 [.sl (l.map iM),.agg (iM v)] (int (pC (Eg v) l 0)):=by
 refine pcd func271 rfl rfl ?_;simp only[go_sem];refine⟨fun ρ _=>∃k:Nat,k<=l.length/\ρ 0=.sl (l.map iM)/\ρ 3=.rp (iM v) 0/\ρ 7=int l.length/\ρ 8=int k/\∀u∈l.take k,Eg v u=false,fun ρ _=>l.length-aR (ρ 8),⟨0,Xaa _,rfl,rfl,rfl,rfl,by simp⟩,?_⟩;rintro ρ H ⟨k,Z,h0,X,Y,O,J⟩;simp only[go_sem,Y,O];refine aA (fun E=>?_) (fun F=>?_)
 ·have E:=aV E;obtain⟨u,T⟩:=aK E;have b1:=inB E;simp only[go_sem,O];refine dK ?_;simp only[go_sem,h0,X,aC T,b1];apply aA <;> intro I
  ·have I:Eg v u=true:=I;simp only[go_sem];exact bP (by rw[lR J T I];omega)
  ·have I:Eg v u=false:=I;simp only[go_sem,h0,X,Y,O,aQ k];exact⟨⟨k+1,E,rfl,aO (p:=fun u=>Eg v u=false) T I J⟩,msr E⟩
 ·have F:=aW Z F;subst F;rw[Xad]at J;simp only[go_sem];exact bP (by rw[kP J])
def GI(l:List Sta)(v:Sta)(E:l.length<=1048576):PC prog 230 [.sl (l.map iM),.agg (iM v)] (boo (l.any (Eg v))):=by refine pcd func230 rfl rfl ?_;simp only[go_sem];refine aH (ahC l v E) ?_;simp only[go_sem];exact bS (rD l 0 (Xbq _))
def xF(l:List Sta)(s:Sta):List Sta:=if l.any (Eg s)=true then l else l++[s]
def FY(l:List Sta)(s:Sta):(xF l s).length<=l.length+1:=by unfold xF;split <;> simp
def alQ(l:List Visit)(E:l.length<=1048576):PC prog 179 [.sl (l.map aF)] (.cl (l.map aF)):=by refine pcd func179 rfl rfl ?_;simp only[go_sem];exact .refl _
def auI(s:Sta):NC prog 180 [.v (.slice none 0 0),.agg (iM s)] (pU [s]) .os:=by
 refine ncb (fun _=>false) func180 rfl rfl ?_;simp only[go_sem];refine bK.nil0 (PC.use (GI [] s (by decide)) ?_);simp only[go_sem];refine aA (fun E=>(by cases E)) (fun _=>?_);simp only[go_sem];refine alA arE (.inl rfl) (by simp) (by simp only[go_sem]) (by simp) fun j F=>?_
 simp only[go_sem];exact⟨j,rfl,aB _ _ _⟩
abbrev arU(j:Nat)(H:aG)(j':Nat)(H':aG):Prop:=∀k row,k≠j->H k=some row->k≠j'/\H' k=some row
def Vq(l:List Sta)(s:Sta){H:aG}{j:Nat}(R:H j=some (pU l))(Y:l.length<=1000000){K:AV->aG->Prop}(X:∀I H',H' I=some (pU (xF l s))->arU j H I H'->K (.os I) H'):
  bK prog 180 [.os j,.agg (iM s)] H K:=by
 refine bK.body (c:=f180.body.getD .skip) (fun _=>false) mixed func180 rfl (by kernel_rfl) ?_;unfold f180;simp only[Xbl];simp only[go_sem];refine eV.use ⟨[.sl (l.map iM),.agg (iM s)],.cons _ _ _ _ (.row _ _ _ R (ConvE.refl _)) (ConvL.refl _),GI l s (by omega),rfl⟩ ?_;simp only[go_sem];refine aA (fun J=>?_) (fun J=>?_)
 ·simp only[go_sem];refine X j H (by unfold xF;rw[if_pos J];exact R) fun k row F h=>⟨F,h⟩
 ·simp only[go_sem];refine aY R ⟨rfl,rfl⟩ (by simp only[go_sem]) (by simp;omega) (fun T O=>?_);simp only[go_sem];refine X T _ ?_ fun k row F h=>?_
  ·rw[aB];unfold xF;rw[if_neg (by rw[J];simp)];refine congrArg (fun l=>some (⟨228,2,l⟩:Row)) ?_;rw[Xam];rfl
  ·have E:k≠T:=fun e=>by subst e;rw[O]at h;cases h
   exact⟨E,by rw[aJ _ _ _ _ E,aJ _ _ _ _ F];exact h⟩
structure Sr where
 x:Instance
 kind:Nat
 set:Int
 total:Nat
 best:Column
 found:Bool
def xO(s:Sr):List AV:=aD s.x++([int (s.kind:Nat),int s.set,int (s.total:Nat)]++(aS s.best++[boo s.found]))
section
variable(s:Sr)
def LV:(xO s).length=17:=(rfl)
def anX:(xO s).getD 2 .any=.sl (s.x.types.map bF):=(rfl)
def aqM:(xO s).getD 3 .any=.sl (s.x.orders.map bJ):=(rfl)
def anJ:(xO s).getD 6 .any=int (s.kind:Nat):=(rfl)
def apZ:(xO s).getD 7 .any=int s.set:=(rfl)
def aoM:(xO s).getD 8 .any=int (s.total:Nat):=(rfl)
def ahJ:(xO s).getD 16 .any=boo s.found:=(rfl)
def apH:(xO s).take 6=aD s.x:=(rfl)
def Zf:(xO s).take 2=bD s.x.net:=(rfl)
def V3:((xO s).drop 9).take 7=aS s.best:=(rfl)
def aaO:(xO s).take 17=xO s:=(rfl)
end
attribute [go_sem] LV anX aqM anJ apZ aoM ahJ apH Zf V3 aaO
abbrev lZ(s:Sr):Row:=⟨174,17,[xO s]⟩
def mW(t:VType)(l:List Sta)(d dr:Int):List Sta:=xF (xF l ⟨d,dr⟩) ⟨W (d+t.rest),0⟩
def IP(t:VType)(l:List Sta)(d dr:Int):(mW t l d dr).length<=l.length+2:=by unfold mW;have h1:=FY (xF l ⟨d,dr⟩) ⟨W (d+t.rest),0⟩;have E:=FY l ⟨d,dr⟩;omega
def adG(s:Sr)(t:VType)(l:List Sta)(d dr:Int){H:aG}{E j:Nat}(ht:s.x.types[s.kind]?=some t)(RS:H E=some (lZ s))(R:H j=some (pU l))(hl:l.length<=900000){K:AV->aG->Prop}
  (hK:∀Z H',H' Z=some (pU (mW t l d dr))->arU j H Z H'->K (.os Z) H'):bK prog 117 [.op E 0 0,.os j,int d,int dr] H K:=by
 have aa:E≠j:=fun e=>by subst e;rw[RS]at R;cases R
 have hk:=(List.getElem?_eq_some_iff.1 ht).1;have b1:=inB hk;have g1:=aC (f:=bF) ht;have h1:=FY l ⟨d,dr⟩;refine bK.body (c:=f117.body.getD .skip) (fun _=>false) mixed func117 rfl (by kernel_rfl) ?_;unfold f117;simp only[Xbl];simp only[go_sem];refine Vq l ⟨d,dr⟩ R (by omega) fun j1 H1 R1 X=>?_
 obtain⟨n1,J⟩:=X E _ aa RS;simp only[go_sem];refine fV [E] [(0,true),(1,true),(2,true),(3,true),(4,true),(5,true),(6,true),(7,true),(8,true),(9,true),(10,true),(11,true),(12,true),(13,true),(14,true),(15,true),(16,false),(17,true)] (by simp[J]) (by kernel_rfl) fun Hp Hr hp hr _ ae=>?_
 have F:=(hp E (by simp)).trans J;simp only[go_sem,g1,b1,F];have ab:Hr j1=some (pU (xF l ⟨d,dr⟩)):=(hr j1 (by simpa using n1.symm)).trans R1;refine Vq (xF l ⟨d,dr⟩) ⟨W (d+t.rest),0⟩ ab (by omega) fun j2 H2 R2 ac=>?_
 simp only[go_sem];refine fun h0 Hm Y O=>?_
 have T:j2≠E:=fun e=>by have:=h0 E (by simp);rw[<-e,R2]at this;cases this
 simp only[go_sem];refine hK j2 Hm ((O j2 (by simpa using T)).trans R2) fun k row ad I=>?_
 obtain⟨m1,m2⟩:=X k row ad I;by_cases e:k=E
 ·subst e;exact⟨T.symm,(Y k (by simp)).trans m2⟩
 ·obtain⟨m3,m4⟩:=ac k row m1 ((hr k (by simpa using e)).trans m2);exact⟨m3,(O k (by simpa using e)).trans m4⟩
def aeS(s:Sr)(t:VType)(d dr:Int){H:aG}{F:Nat}(ht:s.x.types[s.kind]?=some t)(RS:H F=some (lZ s)){K:AV->aG->Prop}
  (hK:∀j' H',H' j'=some (pU (mW t [] d dr))->(∀k row,H k=some row->k≠j'/\H' k=some row)->K (.os j') H'):bK prog 117 [.op F 0 0,.v (.slice none 0 0),int d,int dr] H K:=by
 have hk:=(List.getElem?_eq_some_iff.1 ht).1;have b1:=inB hk;have g1:=aC (f:=bF) ht;refine bK.body (c:=f117.body.getD .skip) (fun _=>false) mixed func117 rfl (by kernel_rfl) ?_;unfold f117;simp only[Xbl];simp only[go_sem];refine NC.use (auI ⟨d,dr⟩) fun E O=>?_
 have n1:F≠E:=fun e=>by rw[e,O]at RS;cases RS
 have X:aM H E (some (pU [⟨d,dr⟩])) F=some (lZ s):=(aJ _ _ _ _ n1).trans RS;have R1:aM H E (some (pU [⟨d,dr⟩])) E=some (pU [⟨d,dr⟩]):=aB _ _ _;have ac:∀k row,H k=some row->k≠E/\aM H E (some (pU [⟨d,dr⟩])) k=some row:=fun k row h=>by
  have T:k≠E:=fun e=>by rw[e,O]at h;cases h
  exact⟨T,(aJ _ _ _ _ T).trans h⟩
 generalize aM H E (some (pU [⟨d,dr⟩]))=H1 at *;simp only[go_sem];refine fV [F] [(0,true),(1,true),(2,true),(3,true),(4,true),(5,true),(6,true),(7,true),(8,true),(9,true),(10,true),(11,true),(12,true),(13,true),(14,true),(15,true),(16,false),(17,true)] (by simp[X]) (by kernel_rfl) fun Hp Hr hp hr _ ae=>?_
 have I:=(hp F (by simp)).trans X;simp only[go_sem,g1,b1,I];have ab:Hr E=some (pU [⟨d,dr⟩]):=(hr E (by simpa using n1.symm)).trans R1;refine Vq [⟨d,dr⟩] ⟨W (d+t.rest),0⟩ ab (by simp) fun j2 H2 R2 ad=>?_
 simp only[go_sem];refine fun h0 Hm aa Y=>?_
 have Z:j2≠F:=fun e=>by have:=h0 F (by simp);rw[<-e,R2]at this;cases this
 simp only[go_sem];refine hK j2 Hm ((Y j2 (by simpa using Z)).trans R2) fun k row J=>?_
 obtain⟨m1,m2⟩:=ac k row J;by_cases e:k=F
 ·subst e;exact⟨Z.symm,(aa k (by simp)).trans m2⟩
 ·obtain⟨m3,m4⟩:=ad k row m1 ((hr k (by simpa using e)).trans m2);exact⟨m3,(Y k (by simpa using e)).trans m4⟩
def Ea(n:Network)(t:VType)(src:Int)(st:Stop)(out:List Sta)(a:Sta):List Sta:=
 let g:=fO n t.profile src st.place a.ready
 if(g.2.2 != 0||decide (W (W (a.driven+g.1)-a.ready)>t.drive))=true then out
 else if((Rx.nE st g.1).2 != 0)=true then out
 else mW t out (Rx.nE st g.1).1 (W (W (a.driven+g.1)-a.ready))
def yA(n:Network)(t:VType)(src:Int)(st:Stop)(l:List Sta):List Sta:=l.foldl (Ea n t src st) []
def akX(n:Network)(t:VType)(src:Int)(st:Stop)(out:List Sta)(a:Sta):(Ea n t src st out a).length<=out.length+2:=by
 unfold Ea;simp only;split
 ·omega
 ·split
  ·omega
  ·exact IP _ _ _ _
def Dp(n:Network)(t:VType)(src:Int)(st:Stop)(l:List Sta):∀k,((l.take k).foldl (Ea n t src st) []).length<=2*k
 | 0=>by simp
 | k+1=>by
  have h:=Dp n t src st l k;by_cases E:k<l.length
  ·obtain⟨c,F⟩:=aK E;rw[jX F];exact Xal (akX n t src st _ c) (by omega)
  ·rw[Xan (by omega)];rw[Xan (by omega)]at h;omega
def aeW(H0:aG)(js:Nat)(s:Sr)(t:VType)(hj:H0 js=some (lZ s))(ht:s.x.types[s.kind]?=some t)(src:Int)(l:List Sta)(st:Stop)(hn:NetOk s.x.net)(hl:l.length<=400000):
  LC prog 178 [.op js 0 0,int src,.sl (l.map iM),.agg (eJ st)] H0 (.sl ((yA s.x.net t src st l).map iM)):=by
 have hk:=(List.getElem?_eq_some_iff.1 ht).1;have b1:=inB hk;have g1:=aC (f:=bF) ht;refine LC.body (c:=f178.body.getD .skip) (fun t=>t == 10) mixed func178 rfl (by kernel_rfl) ?_;unfold f178;simp only[Xbl];simp only[go_sem];have U:=Sup.refl H0;have aa:=U.at hj;refine fV [js] [(0,true),(1,true),(2,true),(3,true),(4,true),(5,true),(6,true),(7,true),(8,true),(9,true),(10,true),(11,false),(12,false)] (by simp[aa]) (by kernel_rfl) fun Hp Hr hp hr _ av=>?_
 have T:=(hp js (by simp)).trans aa;simp only[go_sem,g1,b1,T];refine aN fun i9 aw=>?_
 simp only[go_sem];refine aI (aB _ _ _) (by simp[jH]) ?_;refine Au hr aw fun ao=>?_
 have ai:=U.none ao;generalize ah:aM (aM _ i9 _) i9 _=HGi9;replace U:=Sup.eq ((U.upd ai _).upd ai _) ah;have Z:HGi9 i9=some ((⟨95,14,[bF t]⟩:Row)):=by rw[<-ah,aB];try rfl
 simp only[go_sem];refine aN fun j aq=>?_
 have ab:i9≠j:=bE Z aq;have ar:=U.none aq;generalize al:aM _ j _=HGj;replace U:=Sup.eq (U.upd ar _) al;replace Z:=(congrFun al.symm i9).trans ((aJ _ _ _ _ ab).trans Z);have R:HGj j=some (pU []):=by rw[<-al,aB];try rfl
 simp only[go_sem];refine⟨fun ρ H=>∃(k:Nat) (j:Nat),k<=l.length/\ρ 0=.op js 0 0/\ρ 1=int src/\ρ 7=.rp (eJ st) 0/\ρ 9=.op i9 0 0/\ρ 28=.sl (l.map iM)/\ρ 29=int (l.length:Nat)/\ρ 30=int k/\ρ 10=.os j/\Sup H0 H/\H0 j=none/\H i9=some (⟨95,14,[bF t]⟩:Row)/\H j=some (pU ((l.take k).foldl (Ea s.x.net t src st) [])),fun ρ _=>l.length-aR (ρ 30),⟨0,j,Xaa _,rfl,rfl,rfl,rfl,rfl,rfl,(by simp only[go_sem];rfl),rfl,U,ar,Z,R⟩,?_⟩;rintro ρ H ⟨k,j,hk,e0,e1,e7,e9,af,ad,ac,ag,U,nj,Z,R⟩;simp only[go_sem,ad,ac];refine aA (fun F=>?_) (fun aj=>?_)
 ·have F:=ltB (by simpa using F);obtain⟨a,ha⟩:=aK F;have d1:=inB F;have hs:=jX (f:=Ea s.x.net t src st) (b:=([]:List Sta)) ha;have ax:=Dp s.x.net t src st l k;generalize (l.take k).foldl (Ea s.x.net t src st) []=out at *;have au:i9≠j:=fun e=>by subst e;rw[Z]at R;cases R
  simp only[go_sem,af,ac,aC ha,d1];refine aN fun O Y=>?_
  have I:j≠O:=bE R Y;have E:i9≠O:=bE Z Y;simp only[go_sem];refine aI (aB _ _ _) (by simp[IG]) ?_;have X:=U.none Y;generalize J:aM (aM _ O _) O _=HGi12;replace U:=Sup.eq ((U.upd X _).upd X _) J;replace R:=kpR J I I R;replace Z:=kpR J E E Z;have ae:HGi12 O=some ((⟨228,2,[iM a]⟩:Row)):=by rw[<-J,aB];try rfl
  simp only[go_sem];have aa:=U.at hj;have ne:js≠O:=Sup.ne (Sup.refl H0) hj X;refine fV [js,i9,O] [(0,true),(1,true),(2,true),(3,true),(4,true),(5,true),(6,true),(7,true),(8,true),(9,true),(10,true),(11,true),(12,false),(13,true),(14,true),(15,true),(16,true),(17,true),(18,true),(19,true)] (by simp[aa,Z,ae]) (by kernel_rfl) fun Hp Hr hp hr _ av=>?_
  have T:=(hp js (by simp)).trans aa;have ap:=(hp i9 (by simp)).trans Z;have an:=(hp O (by simp)).trans ae;simp only[go_sem,e0,e1,e7,e9,T,ap,an];refine aH (alF s.x.net t.profile src st.place a.ready hn) ?_;simp only[go_sem];refine qJ hr ?_;have ha:Ea s.x.net t src st out a=(if((fO s.x.net t.profile src st.place a.ready).2.2 != 0||decide (W (W (a.driven+(fO s.x.net t.profile src st.place a.ready).1)-a.ready)>t.drive))=true then out
   else if((Rx.nE st (fO s.x.net t.profile src st.place a.ready).1).2 != 0)=true then out
   else mW t out (Rx.nE st (fO s.x.net t.profile src st.place a.ready).1).1 (W (W (a.driven+(fO s.x.net t.profile src st.place a.ready).1)-a.ready))):=rfl
  rw[ha]at hs;generalize fO s.x.net t.profile src st.place a.ready=g at *;simp only[go_sem,e9,Z,ae];apply aA <;> intro c1
  ·have c1:(g.2.2 != 0||decide (W (W (a.driven+g.1)-a.ready)>t.drive))=true:=c1;rw[if_pos c1]at hs;simp only[go_sem,e0,e1,e7,e9,af,ad,ac,ag,aQ k];refine⟨⟨k+1,j,F,rfl,rfl,U,nj,Z,?_⟩,msr F⟩;rw[hs];exact R
  have c1:(g.2.2 != 0||decide (W (W (a.driven+g.1)-a.ready)>t.drive))=false:=c1;rw[if_neg (fun h=>Bool.noConfusion (c1.symm.trans h))]at hs;simp only[go_sem,e7,];refine aH (Rx.aeM st g.1) ?_;simp only[go_sem];generalize Rx.nE st g.1=dp at *;apply aA <;> intro c2
  ·rw[if_pos c2]at hs;simp only[go_sem,e0,e1,e7,e9,af,ad,ac,ag,aQ k];refine⟨⟨k+1,j,F,rfl,rfl,U,nj,Z,?_⟩,msr F⟩;rw[hs];exact R
  rw[if_neg (fun h=>Bool.noConfusion (c2.symm.trans h))]at hs;simp only[go_sem,e0,ag,ae];refine adG s t out dp.1 (W (W (a.driven+g.1)-a.ready)) ht aa R (by omega) fun j2 H2 R2 am=>?_
  simp only[go_sem,e0,e1,e7,e9,af,ad,ac,aQ k];refine⟨⟨k+1,j2,F,rfl,rfl,fun q row hq=>?_,?_,(am i9 _ au Z).2,?_⟩,msr F⟩
  ·have ak:q≠j:=fun e=>by subst e;rw[nj]at hq;cases hq
   exact(am q row ak (U q row hq)).2
  ·cases e:H0 j2 with
   | none=>rfl
   | some row=>
    have ak:j2≠j:=fun e2=>by subst e2;rw[nj]at e;cases e
    exact absurd rfl (am j2 row ak (U j2 row e)).1
  ·rw[hs];exact R2
 have aj:=geB hk (by simpa using aj);subst aj;rw[Xad]at R;simp only[go_sem,ag];exact⟨U,[j],by simpa using nj,.row _ _ _ (by simp;exact R) (ConvE.refl _)⟩
def ajL(H0:aG)(I:Nat)(s:Sr)(t:VType)(d dr:Int)(J:s.x.types[s.kind]?=some t)(X:H0 I=some (lZ s)):
  LC prog 117 [.op I 0 0,.v (.slice none 0 0),int d,int dr] H0 (.sl ((mW t [] d dr).map iM)):=fun K T=>
 bK.data (aeS s t d dr J X fun F H' R E=>⟨fun k row h=>(E k row h).2,[F],fun k O=>by
  have e:k=F:=by simpa using O
  subst e;cases Y:H0 k with
  | none=>rfl
  | some row=>exact absurd rfl (E k row Y).1,.row _ _ _ (by simp;exact R) (ConvE.refl _)⟩) T
end Sq
namespace Sq
open Go.Proofs.Tryz
open Go.Proofs.YtpagaknmdfgfkaaGreatDoor.Nu (ltB geB)
open Mv (bP bS aO)
def uQ(a b:Column):Bool:=if(a.price != b.price)=true then decide (a.price<b.price)else decide (SR a.route.visits b.route.visits<0)
def adQ(a b:Column)(F:a.route.visits.length<=1048576):PC prog 175 [.agg (aS a),.agg (aS b)] (boo (uQ a b)):=by
 refine pcd func175 rfl rfl ?_;simp only[go_sem];unfold uQ;apply aA <;> intro E
 ·rw[if_pos E];simp only[go_sem];exact .refl _
 ·rw[if_neg (by rw[E];simp)];simp only[go_sem];refine aH (apU a.route.visits b.route.visits F) ?_;simp only[go_sem];exact .refl _
def sL(best:Column)(fd:Bool)(next:Column):Column:=if(!fd||uQ next best)=true then next else best
abbrev uB(c:Column):Row:=⟨43,7,[aS c]⟩
def cO:Column:=⟨0,0,0,⟨0,0,[],[]⟩⟩
def apD(best:Column)(X:Bool)(next:Column)(Z:next.route.visits.length<=1048576):PC prog 174 [.agg (aS best),boo X,.agg (aS next),.v (.func (.func 175) #[] #[])] (.agg (aS (sL best X next))):=by
 have T:aE prog 175=true:=by kernel_rfl
 have J:=adQ next best Z
 refine pcd func174 rfl rfl ?_;simp only[go_sem];refine fI fun I F Y (E:F I=some (uB cO)) N=>?_
 simp only[go_sem,T];refine⟨_,fun _=>J.q rfl,?_⟩;simp only[go_sem];unfold sL;apply aA <;> intro J
 ·rw[if_pos J];simp only[go_sem];refine aI E (by simp[cP]) ?_;generalize O:aM _ I _=HP;replace E:HP I=some (uB next):=upS O;simp only[go_sem,E];exact .refl _
 ·rw[if_neg (fun h=>Bool.noConfusion (J.symm.trans h))];simp only[go_sem];refine aI E (by simp[cP]) ?_;generalize O:aM _ I _=HP;replace E:HP I=some (uB best):=upS O;simp only[go_sem,E];exact .refl _
def mD(s:Sr)(l:List Visit):Route:=⟨(s.kind:Nat),0,[],l⟩
def Jc(s:Sr)(l:List Visit)(p:Int):Column:=⟨(s.kind:Nat),s.set,p,mD s l⟩
def K4(s:Sr)(l:List Visit):Sr:=if((fH s.x (mD s l)).2 == 0)=true then { s with best:=sL s.best s.found (Jc s l (fH s.x (mD s l)).1),found:=true }else s
def wE(t:VType)(rec:Sr->List Visit->Int->List Sta->Sr)(l:List Visit)(src:Int)(st:List Sta)(s:Sr)(v:Visit):Sr:=
 if((eQ s.x v).2 != 0)=true then s
 else if(yA s.x.net t src (eQ s.x v).1 st).length=0 then s
 else rec s (l++[v]) (eQ s.x v).1.place (yA s.x.net t src (eQ s.x v).1 st)
def nL(t:VType):Nat->Sr->List Visit->Int->List Sta->Sr
 | 0,s,_,_,_=>s
 | f+1,s,l,src,st=>if((l.length:Int) == (s.total:Int))=true then K4 s l else(pA s.x s.set l).foldl (wE t (nL t f) l src st) s
structure SameB(s s':Sr):Prop where
 x:s'.x=s.x
 kind:s'.kind=s.kind
 set:s'.set=s.set
 total:s'.total=s.total
structure SrB(t:VType)(s:Sr):Prop where
 ty:s.x.types[s.kind]?=some t
 ev:EvalB s.x
 before:s.x.before.length<=1048576
 orders:s.x.orders.length<=60
 total:s.total<=16
theorem SameB.refl(s:Sr):SameB s s:=⟨rfl,rfl,rfl,rfl⟩
def SameB.trans{a b c:Sr}(h:SameB a b)(g:SameB b c):SameB a c:=⟨g.x.trans h.x,g.kind.trans h.kind,g.set.trans h.set,g.total.trans h.total⟩
def SameB.b{t:VType}{a b:Sr}(h:SameB a b)(g:SrB t a):SrB t b:=⟨by rw[h.x,h.kind];exact g.ty,by rw[h.x];exact g.ev,by rw[h.x];exact g.before,by rw[h.x];exact g.orders,by rw[h.total];exact g.total⟩
def aaR(s:Sr)(l:List Visit):SameB s (K4 s l):=by unfold K4;split <;> exact⟨rfl,rfl,rfl,rfl⟩
def I2{α:Type}{g:Sr->α->Sr}(E:∀a v,SameB a (g a v)):∀(l:List α) (a:Sr),SameB a (l.foldl g a)
 | [],a=>.refl a
 | v::l,a=>(E a v).trans (I2 E l (g a v))
def sX(t:VType):∀(f:Nat) (s:Sr) (l:List Visit) (src:Int) (st:List Sta),SameB s (nL t f s l src st)
 | 0,s,_,_,_=>.refl s
 | f+1,s,l,src,st=>by
  unfold nL;split
  ·exact aaR s l
  ·refine I2 (fun a v=>?_) _ _;unfold wE;split
   ·exact .refl a
   ·split
    ·exact .refl a
    ·exact sX t f _ _ _ _
def auU{H:aG}{j:Nat}:(fun q=>if q∈[j]then none else H q)=aM H j none:=funext fun q=>by simp only[aM,Xaw]
def GA{l:List Nat}{H0 H X:aG}{K:Env->aG->Prop}{ρ:Env}{O E:Nat}{a b:Row}{r5:Option Row}(hr:∀k,k∉l->X k=H k)(hn:E∉l)(h5:X O=none)(U:Sup (aM H0 E (some a)) H)
  (h:∀F:aG,F E=some b->Sup (aM H0 E (some b)) F->K ρ F):sS l H K ρ (aM (aM (aM X O r5) O none) E (some b)):=fun h0 F h1 Y=>by
 refine h F ((Y E hn).trans (aB _ _ _)) fun k row J=>?_
 by_cases e:k=E
 ·subst e;rw[aB]at J;rw[Y k hn,aB];exact J
 ·rw[aJ _ _ _ _ e]at J;have Z:=U k row (by rw[aJ _ _ _ _ e];exact J);by_cases T:k∈l
  ·rw[h1 k T];exact Z
  ·have I:k≠O:=fun e2=>by rw[<-e2,hr k T,Z]at h5;cases h5
   rw[Y k T,aJ _ _ _ _ e,aJ _ _ _ _ I,aJ _ _ _ _ I,hr k T];exact Z
abbrev agF(t:VType)(js f:Nat):Prop:=∀(s:Sr) (_:SrB t s) (H0:aG) (_:H0 js=some (lZ s)) (l:List Visit) (src:Int) (st:List Sta) (_:l.length<=s.total) (_:s.total-l.length<f) (_:st.length<=2^(l.length+1)),
 MC prog 116 [.op js 0 0,.sl (l.map aF),int src,.sl (st.map iM)] H0 (aM H0 js (some (lZ (nL t f s l src st)))) (.tup [])
def Ml(t:VType)(F f:Nat)(an:∀f',f=f'+1->agF t F f'):agF t F f:=by
 intro s ax H0 ar l src st bx hf bp;obtain⟨f,rfl⟩:∃f',f=f'+1:=⟨f-1,by omega⟩;have an:=an f rfl;have bu:=ax.total;have hj:=ar;have eW:nL t (f+1) s l src st=if((l.length:Int) == (s.total:Int))=true then K4 s l else(pA s.x s.set l).foldl (wE t (nL t f) l src st) s:=rfl
 generalize nL t (f+1) s l src st=RW at *;refine MC.body (c:=f116.body.getD .skip) (fun _=>false) (Uh ar) mixed func116 rfl (by kernel_rfl) ?_;unfold f116;simp only[Xbl];simp only[go_sem,hj,Xab];have U:=Sup.refl H0;refine aA (fun hb=>?_) (fun hb=>?_)
 ·rw[if_pos hb]at eW;subst eW;have eE:K4 s l=if((fH s.x (mD s l)).2 == 0)=true then { s with best:=sL s.best s.found (Jc s l (fH s.x (mD s l)).1),found:=true }else s:=rfl
  have hP:=ahR s.x (mD s l) ax.ev (by show l.length<=1048575;omega);simp only[go_sem,hj];refine aN fun j8 a4=>?_
  have aa:F≠j8:=bE hj a4;simp only[go_sem];refine aI (aB _ _ _) (by simp[]) ?_;have a0:=U.none a4;generalize aq:aM (aM _ j8 _) j8 _=HGj8;replace U:=Sup.eq ((U.upd a0 _).upd a0 _) aq;replace hj:=kpR aq aa aa hj;have R8:HGj8 j8=some ((⟨41,4,[bT (mD s l)]⟩:Row)):=by rw[<-aq,aB];try rfl
  simp only[go_sem,];refine fV [F,j8] [(0,true),(1,true),(2,true),(3,true),(4,true),(5,false),(6,true),(7,true),(8,true),(9,true),(10,true)] (by simp[hj,R8]) (by kernel_rfl) fun Hp Hr hp hr _ av=>?_
  have ac:=(hp F (by simp)).trans hj;have au:=(hp j8 (by simp)).trans R8;simp only[go_sem,ac,au];refine aH hP ?_;generalize fH s.x (mD s l)=pr at *;simp only[go_sem];refine qJ hr ?_;simp only[go_sem];refine aA (fun hc=>?_) (fun hc=>?_)
  case refine_2=>rw[if_neg (fun h=>Bool.noConfusion (hc.symm.trans h))]at eE;rw[eE];simp only[go_sem];refine OP.flat ?_ _;rw[PQ ar];exact U
  rw[if_pos hc]at eE;simp only[go_sem];refine fV [F,j8] [(0,true),(1,true),(2,true),(3,true),(4,true),(5,true),(6,true),(7,true),(8,true),(9,true),(10,true),(11,false),(12,false)] (by simp[hj,R8]) (by kernel_rfl) fun Hp Hr hp hr _ av=>?_
  have ac:=(hp F (by simp)).trans hj;have au:=(hp j8 (by simp)).trans R8;simp only[go_sem,ac,au];refine aN fun ag bi=>?_
  simp only[go_sem];refine aI (aB _ _ _) (by simp[Am]) ?_;refine Au hr bi fun ao=>?_
  have T:F≠ag:=bE hj ao;have ak:=U.none ao;generalize ad:aM (aM _ ag _) ag _=HGj11;replace U:=Sup.eq ((U.upd ak _).upd ak _) ad;replace hj:=kpR ad T T hj;have az:HGj11 ag=some (uB (Jc s l pr.1)):=by rw[<-ad,aB];try rfl
  simp only[go_sem,];have hF:=apD s.best s.found (Jc s l pr.1) (by show l.length<=1048576;omega);generalize bz:sL s.best s.found (Jc s l pr.1)=fb at *;have a9:F≠ag:=fun e=>by subst e;rw[hj]at az;cases az
  refine D0 [ag] (.q 0 (.q 1 (.q 2 (.q 3 (.q 5 (.q 6 (.q 7 (.q 9 (.a2 4 (.a1 8 (.a1 10 (.q 11 (.q 12 (.a1 13 .nil))))) 8 (.a1 4 (.a1 10 (.q 11 (.q 12 (.a1 13 .nil)))))))))))))) (fun E H'=>E 0=.op F 0 0/\H' F=some (lZ { s with best:=fb })/\Sup (aM H0 F (some (lZ { s with best:=fb }))) H') (by simp[az]) (by kernel_rfl) (fun K' ab Hp Hr hp hr _ av=>?_) ?_
  ·have bc:=(hp ag (by simp)).trans az;have ai:=(hr F (by simpa using a9)).trans hj;simp only[go_sem,bc];refine tL ?_ ?_
   ·simp only[go_sem,ai];refine aH hF ?_;simp only[go_sem];refine aI ai (by simp[cP]) ?_;simp only[go_sem];refine sW hr (by simpa using a9) (ab _ _ ⟨rfl,(aB _ _ _).trans rfl,?_⟩);exact U.set F (some (lZ { s with best:=fb }))
   ·simp only[go_sem,ai];refine aH hF ?_;simp only[go_sem];refine aI ai (by simp[cP]) ?_;simp only[go_sem];refine sW hr (by simpa using a9) (ab _ _ ⟨rfl,(aB _ _ _).trans rfl,?_⟩);exact U.set F (some (lZ { s with best:=fb }))
  rintro ρ H ⟨e0,R,U⟩;simp only[go_sem,e0];refine dP so4 R (by simp[]) ?_;simp only[go_sem];rw[eE];refine OP.flat ?_ _;exact Sup.set2 U (some (lZ { s with best:=fb,found:=true }))
 rw[if_neg (fun h=>Bool.noConfusion (hb.symm.trans h))]at eW;subst eW;have bt:l.length<s.total:=by simp at hb;omega
 have bv:=ax.orders;have bk:=DA s.x s.set l s.x.orders.length;simp only[go_sem];refine fV [F] [(0,true),(1,true),(2,true),(3,true),(4,true),(5,true),(6,true),(7,true),(8,true),(11,true),(9,false),(10,true)] (by simp[hj]) (by kernel_rfl) fun Hp Hr hp hr _ av=>?_
 have ac:=(hp F (by simp)).trans hj;simp only[go_sem,ac];refine aH (amE s.x s.set l (by omega) ax.before (by omega)) ?_;have bk:(pA s.x s.set l).length<=120:=Xal bk (by omega);generalize pA s.x s.set l=vs at *;simp only[go_sem,Xab];refine qJ hr ?_;have bw:st.length<=131072:=Xal bp (Xal (Xau (by decide) (show l.length+1<=17 by omega)) (by decide));refine⟨fun ρ H=>∃(k:Nat) (a:Sr),k<=vs.length/\ρ 0=.op F 0 0/\ρ 1=.sl (l.map aF)/\ρ 2=int src/\ρ 3=.sl (st.map iM)/\ρ 77=.sl (vs.map aF)/\ρ 78=int (vs.length:Nat)/\ρ 79=int k/\a=(vs.take k).foldl (wE t (nL t f) l src st) s/\SameB s a/\H F=some (lZ a)/\Sup (aM H0 F (some (lZ a))) H,fun ρ _=>vs.length-aR (ρ 79),⟨0,s,Xaa _,rfl,rfl,rfl,rfl,rfl,rfl,(by simp only[go_sem];rfl),rfl,SameB.refl s,ar,by rw[PQ ar];exact Sup.refl H0⟩,?_⟩;rintro ρ H ⟨k,a,hk,e0,e1,e2,e3,Z,Y,O,ha,hS,R,U⟩;simp only[go_sem,Y,O];refine aA (fun ae=>?_) (fun a5=>?_)
 ·have ae:=ltB (by simpa using ae);obtain⟨v,hv⟩:=aK ae;have b1:=inB ae;have hs:=jX (f:=wE t (nL t f) l src st) (b:=s) hv;rw[<-ha]at hs;have a6:=hS.b ax;have eX:wE t (nL t f) l src st a v=if((eQ a.x v).2 != 0)=true then a
   else if(yA a.x.net t src (eQ a.x v).1 st).length=0 then a
   else nL t f a (l++[v]) (eQ a.x v).1.place (yA a.x.net t src (eQ a.x v).1 st):=rfl
  have bn:SameB a (wE t (nL t f) l src st a v):=by
   unfold wE;split
   ·exact .refl a
   ·split
    ·exact .refl a
    ·exact sX t f _ _ _ _
  generalize wE t (nL t f) l src st a v=EV at *;have bj:=XT a.x v;generalize b0:eQ a.x v=sv at *;simp only[go_sem,Z,O,aC hv,b1];refine aN fun J ap=>?_
  have X:F≠J:=bE R ap;simp only[go_sem,];refine aI (aB _ _ _) (by simp[dG]) ?_;have aw:=U.none ap;generalize ah:aM (aM _ J _) J _=HGi13;replace U:=Sup.eq ((U.upd aw _).upd aw _) ah;replace R:=kpR ah X X R;have I:HGi13 J=some ((⟨112,2,[aF v]⟩:Row)):=by rw[<-ah,aB];try rfl
  simp only[go_sem,];refine D0 [F,J] (.q 0 (.q 1 (.q 2 (.q 3 (.q 4 (.q 5 (.a2 6 (.q 7 (.q 8 (.q 9 (.a1 10 (.a1 11 (.q 12 .nil)))))) 10 (.a1 6 (.q 7 (.q 8 (.q 9 (.a1 11 (.q 12 .nil))))))))))))) (fun E H'=>E 0=.op F 0 0/\E 1=.sl (l.map aF)/\E 2=int src/\E 3=.sl (st.map iM)/\E 77=.sl (vs.map aF)/\E 78=int vs.length/\E 79=int (k:Nat)/\E 13=.op J 0 0/\E 15=int sv.2/\∃aj,E 14=.op aj 0 0/\H' aj=some (⟨91,4,[eJ sv.1]⟩:Row)/\H' J=some (⟨112,2,[aF v]⟩:Row)/\H' F=some (lZ a)/\Sup (aM H0 F (some (lZ a))) H') (by simp[R,I]) (by kernel_rfl) (fun K' ab Hp Hr hp hr _ av=>?_) ?_
  ·have bq:=(hp F (by simp)).trans R;have af:=(hp J (by simp)).trans I;simp only[go_sem,e0,bq,af];refine tL ?_ ?_
   ·simp only[go_sem,];refine aH bj ?_;simp only[go_sem,];refine aN fun j8 a8=>?_
    simp only[go_sem,];refine aI (aB _ _ _) (by simp[iC]) ?_;simp only[go_sem];refine Au hr a8 fun h8=>ab _ _ ⟨by simp only[go_sem,e0,],by simp only[go_sem,e1,],by simp only[go_sem,e2,],by simp only[go_sem,e3,],by simp only[go_sem,Z,],Y,O,by simp only[go_sem,],rfl,j8,rfl,aB _ _ _,(aJ _ _ _ _ (bE I h8)).trans ((aJ _ _ _ _ (bE I h8)).trans I),(aJ _ _ _ _ (bE R h8)).trans ((aJ _ _ _ _ (bE R h8)).trans R),(U.upd (U.none h8) _).upd (U.none h8) _⟩
   ·simp only[go_sem,];refine aN fun j8 a8=>?_
    simp only[go_sem,];refine aH bj ?_;simp only[go_sem,];refine aI (aB _ _ _) (by simp[iC]) ?_;simp only[go_sem];refine Au hr a8 fun h8=>ab _ _ ⟨by simp only[go_sem,e0,],by simp only[go_sem,e1,],by simp only[go_sem,e2,],by simp only[go_sem,e3,],by simp only[go_sem,Z,],Y,O,by simp only[go_sem,],rfl,j8,rfl,aB _ _ _,(aJ _ _ _ _ (bE I h8)).trans ((aJ _ _ _ _ (bE I h8)).trans I),(aJ _ _ _ _ (bE R h8)).trans ((aJ _ _ _ _ (bE R h8)).trans R),(U.upd (U.none h8) _).upd (U.none h8) _⟩
  rintro ρ H ⟨e0,e1,e2,e3,Z,Y,O,br,bo,aj,bh,am,I,R,U⟩;simp only[go_sem,bo];refine aA (fun c1=>?_) (fun c1=>?_)
  ·rw[if_pos c1]at eX;simp only[go_sem,e0,e1,e2,e3,Z,Y,O,aQ k];exact⟨⟨k+1,a,ae,rfl,by rw[hs,eX],hS,R,U⟩,by simp only[aL];omega⟩
  rw[if_neg (fun h=>Bool.noConfusion (c1.symm.trans h))]at eX;have bm:=aeW H F a t R a6.ty src st sv.1 a6.ev.net (by omega);have al:=Dp a.x.net t src sv.1 st st.length;rw[Xad]at al;replace al:(yA a.x.net t src sv.1 st).length<=2*st.length:=al;generalize yA a.x.net t src sv.1 st=nx at *;simp only[go_sem,e0,e2,e3,bh,am];refine LC.use bm ?_;simp only[go_sem,Xab];refine aA (fun c2=>?_) (fun c2=>?_)
  case refine_2=>
   have hz:nx.length=0:=by simp at c2;simp[c2]
   rw[if_pos hz]at eX;simp only[go_sem,e0,e1,e2,e3,Z,Y,O,aQ k];exact⟨⟨k+1,a,ae,rfl,by rw[hs,eX],hS,R,U⟩,by simp only[aL];omega⟩
  have hz:¬nx.length=0:=by simp at c2;omega
  rw[if_neg hz]at eX;have be:F≠J:=fun e=>by subst e;rw[R]at I;cases I
  have bb:F≠aj:=fun e=>by subst e;rw[R]at am;cases am
  simp only[go_sem,];have bf:(l++[v]).length=l.length+1:=by simp
  have a7:=fun(Hx:aG) (hx:Hx F=some (lZ a))=>an a a6 Hx hx (l++[v]) sv.1.place nx (by rw[bf,hS.total];omega) (by rw[bf,hS.total];omega) (by rw[bf,Xbj];omega)
  rw[<-eX]at a7;refine D0 [J,aj] (.q 0 (.q 1 (.q 3 (.q 6 (.q 7 (.q 8 (.a2 2 (.a1 4 (.a1 5 (.a1 9 .nil))) 4 (.a1 2 (.a1 5 (.a1 9 .nil)))))))))) (fun E H'=>E 0=.op F 0 0/\E 1=.sl (l.map aF)/\E 2=int src/\E 3=.sl (st.map iM)/\E 77=.sl (vs.map aF)/\E 78=int vs.length/\E 79=int (k:Nat)/\H' F=some (lZ EV)/\Sup (aM H0 F (some (lZ EV))) H') (by simp[I,am]) (by kernel_rfl) (fun K' ab Hp Hr hp hr _ av=>?_) ?_
  ·have af:=(hp J (by simp)).trans I;have bg:=(hp aj (by simp)).trans am;have ay:=(hr F (by simp[be,bb])).trans R;simp only[go_sem,e0,e1,br,bh,af,bg];refine tL ?_ ?_
   ·simp only[go_sem,];refine aH (alQ l (by omega)) ?_;simp only[go_sem,];refine YL auF (.inl rfl) (by simp) (zS dG l) (by simp only[go_sem]) (by simp;omega) fun j5 h5=>?_
    have n5:F≠j5:=bE ay h5;simp only[go_sem,];refine bK.frz [j5] (args':=[.op F 0 0,.sl (l.map aF++[aF v]),int sv.1.place,.sl (nx.map iM)]) (.cons _ _ _ _ (.refl _) (.cons _ _ _ _ (.row _ _ _ (by simp;exact aB _ _ _) (ConvE.refl _)) (.cons _ _ _ _ (.refl _) (.cons _ _ _ _ (.refl _) .nil)))) ?_;rw[auU,show l.map aF++[aF v]=(l++[v]).map aF by simp];refine MC.use (a7 _ ((aJ _ _ _ _ n5).trans ((aJ _ _ _ _ n5).trans ay))) ?_;simp only[go_sem,];refine GA hr (by simp[be,bb]) h5 U fun Hm bd ba=>ab _ _ ⟨by simp only[go_sem,e0,],by simp only[go_sem,e1,],by simp only[go_sem,e2,],by simp only[go_sem,e3,],by simp only[go_sem,Z,],by simp only[go_sem,Y,],by simp only[go_sem,O,],bd,ba⟩
   ·simp only[go_sem,];refine aH (alQ l (by omega)) ?_;simp only[go_sem,];refine YL auF (.inl rfl) (by simp) (zS dG l) (by simp only[go_sem]) (by simp;omega) fun j5 h5=>?_
    have n5:F≠j5:=bE ay h5;simp only[go_sem,];refine bK.frz [j5] (args':=[.op F 0 0,.sl (l.map aF++[aF v]),int sv.1.place,.sl (nx.map iM)]) (.cons _ _ _ _ (.refl _) (.cons _ _ _ _ (.row _ _ _ (by simp;exact aB _ _ _) (ConvE.refl _)) (.cons _ _ _ _ (.refl _) (.cons _ _ _ _ (.refl _) .nil)))) ?_;rw[auU,show l.map aF++[aF v]=(l++[v]).map aF by simp];refine MC.use (a7 _ ((aJ _ _ _ _ n5).trans ((aJ _ _ _ _ n5).trans ay))) ?_;simp only[go_sem,];refine GA hr (by simp[be,bb]) h5 U fun Hm bd ba=>ab _ _ ⟨by simp only[go_sem,e0,],by simp only[go_sem,e1,],by simp only[go_sem,e2,],by simp only[go_sem,e3,],by simp only[go_sem,Z,],by simp only[go_sem,Y,],by simp only[go_sem,O,],bd,ba⟩
  rintro ρ H ⟨e0,e1,e2,e3,Z,Y,O,R,U⟩;simp only[go_sem,e0,e1,e2,e3,Z,Y,O,aQ k];exact⟨⟨k+1,EV,ae,rfl,hs.symm,hS.trans bn,R,U⟩,by simp only[aL];omega⟩
 have a5:=geB hk (by simpa using a5);subst a5;rw[Xad]at ha;rw[<-ha];simp only[go_sem];exact OP.flat U _
end Sq
namespace Sq
open Go.Proofs.YtpagaknmdfgfkaaGreatDoor.Nu (ltB geB)
open Mv (bP bS aO)
def YJ(t:VType)(E:Nat):∀f,agF t E f
 | 0=>Ml t E 0 (fun F e=>by omega)
 | f + 1 => Ml t E (f + 1) (fun F e => by
     obtain rfl:F=f:=by omega
     exact YJ t E F)
def kC(x:Instance)(set:Int)(l:List Visit):Prop:=∀p v q,l=p++v::q->v∈pA x set p
def kC.nil{x:Instance}{set:Int}:kC x set []:=fun p v q h=>by simp at h
def kC.snoc{x:Instance}{set:Int}{l:List Visit}(h:kC x set l){v:Visit}(F:v∈pA x set l):kC x set (l++[v]):=fun p w q e=>by
 rcases List.eq_nil_or_concat q with rfl|⟨q',u,rfl⟩
 ·obtain⟨rfl,E⟩:=List.append_inj' e rfl;cases E;exact F
 ·rw[List.concat_eq_append,show p++w::(q'++[u])=(p++w::q')++[u]by simp]at e;obtain⟨rfl,E⟩:=List.append_inj' e rfl;exact h p w q' rfl
def Cc(s:Sr):Prop:=s.found=true->∃l,s.best=Jc s l (fH s.x (mD s l)).1/\(fH s.x (mD s l)).2=0/\kC s.x s.set l/\l.length=s.total
def Wr{s:Sr}(h:Cc s){l:List Visit}(J:kC s.x s.set l)(O:l.length=s.total):Cc (K4 s l):=by
 unfold K4;split
 next E=>
  have E:(fH s.x (mD s l)).2=0:=by simpa using E
  intro _;show ∃l',sL s.best s.found (Jc s l (fH s.x (mD s l)).1)=Jc s l' (fH s.x (mD s l')).1/\(fH s.x (mD s l')).2=0/\kC s.x s.set l'/\l'.length=s.total;unfold sL;split
  ·exact⟨l,rfl,E,J,O⟩
  next F=>
   have I:s.found=true:=by
    cases e:s.found with
    | true=>rfl
    | false=>rw[e]at F;simp at F
   exact h I
 ·exact h
def I7{l:List Visit}{g:Sr->Visit->Sr}{E:Sr}(F:∀a v,SameB E a->Cc a->v∈pA E.x E.set l->SameB E (g a v)/\Cc (g a v)):∀(vs:List Visit) (a:Sr),(∀v∈vs,v∈pA E.x E.set l)->SameB E a->Cc a->Cc (vs.foldl g a)
 | [],a,_,_,h=>h
 | v::vs,a,hv,hs,h=>by obtain⟨h1,J⟩:=F a v hs h (hv v (by simp));exact I7 F vs (g a v) (fun u I=>hv u (by simp[I])) h1 J
def GT(t:VType):∀(f:Nat) (s:Sr) (l:List Visit) (src:Int) (st:List Sta),Cc s->kC s.x s.set l->Cc (nL t f s l src st)
 | 0,s,_,_,_,h,_=>h
 | f+1,s,l,src,st,h,hl=>by
  unfold nL;split
  next J=>exact Wr h hl (by simp at J;omega)
  ·refine I7 (l:=l) (fun a v E I F=>?_) _ s (fun v F=>F) (SameB.refl s) h;unfold wE;split
   ·exact⟨E,I⟩
   ·split
    ·exact⟨E,I⟩
    ·refine⟨E.trans (sX t f _ _ _ _),GT t f _ _ _ _ I ?_⟩;rw[E.x,E.set];exact hl.snoc F
def tM(x:Instance)(l:List Int):Nat:=(l.map fun i=>(fX x.orders i).length).sum
def jO(x:Instance)(set:Int):Nat:=tM x (dD set)
def Uo(x:Instance){l:List Int}{k:Nat}{i:Int}(h:l[k]?=some i):tM x (l.take (k+1))=tM x (l.take k)+(fX x.orders i).length:=by unfold tM;rw[bA h];simp
def IJ(x:Instance):∀l:List Int,tM x l<=2*l.length
 | []=>Xaf _
 | i::l=>by have h1:=IJ x l;have E:=vW x.orders i;unfold tM at h1 |-;simp only[Xba,List.sum_cons,Xai];omega
def Wp(x:Instance)(l:List Int)(k:Nat):tM x (l.take k)<=2*k:=by have h1:=IJ x (l.take k);rw[Xap]at h1;omega
def M7{set:Int}{n:Nat}(h:∀i:Nat,n<=i->dO set (i:Int)=false):∀d,rN set (n+d)=rN set n
 | 0=>rfl
 | d+1=>by rw[<-Nat.add_assoc,oB,h (n+d) (by omega),M7 h d];simp
def ajY{set:Int}{n:Nat}(h0:0<=set)(h1:set<2^n)(i:Nat)(F:n<=i):dO set (i:Int)=false:=by
 obtain⟨m,rfl⟩:=Int.eq_ofNat_of_zero_le h0;by_cases E:i<=62
 ·rw[jF (by omega) (by omega),Xao];refine Xcv (Xbu (m:=2^n) ?_ (Xau (by decide) F))
  exact_mod_cast h1
 ·unfold dO;rw[decide_eq_false (show ¬(i:Int)<=62 by omega)];simp
def XY{set:Int}{n:Nat}(h0:0<=set)(h1:set<2^n)(E:n<=63):(dD set).length<=n:=by have h:=M7 (ajY h0 h1) (63-n);unfold dD;rw[show 63=n+(63-n)by omega,h];exact nU set n
def vI{x:Instance}{set:Int}{n:Nat}(h0:0<=set)(h1:set<2^n)(E:n<=63):jO x set<=2*n:=by have I:=XY h0 h1 E;have F:=IJ x (dD set);unfold jO;omega
def Kh{α:Type}{o:Option α}{f:α->Prop}{a:α}(h:o=some a)(E:f a):cC o f:=by subst h;exact E
abbrev kY(t:VType):Row:=⟨95,14,[bF t]⟩
end Sq
namespace Sq
open Go.Proofs.Tryz
open Go.Proofs.YtpagaknmdfgfkaaGreatDoor.Nu (ltB geB)
open Mv (bP bS aO)
def KT(x:Instance)(kind set:Int):Bool:=((decide (kind<0)||decide (kind>=(x.types.length:Int)))||decide (set<=0))||(shV .shr .i64 set (x.orders.length:Nat) != 0)
def Da(x:Instance)(kind:Nat)(set:Int)(t:VType):Sr:=nL t 17 ⟨x,kind,set,jO x set,cO,false⟩ [] t.src (mW t [] t.start 0)
def rG(x:Instance)(kind set:Int):Column×Int:=
 if KT x kind set=true then(cO,2)
 else if(xP x set != 0)=true then(cO,24)
 else match x.types[kind.toNat]? with
 | none=>(cO,24)
 | some t=>if(Da x kind.toNat set t).found=true then((Da x kind.toNat set t).best,0)else(cO,24)
def anZ(x:Instance)(kind set:Int)(hE:EvalB x)(hn:x.orders.length<=8):PC prog 65 [.agg (aD x),int kind,int set] (.tup [.agg (aS (rG x kind set).1),int (rG x kind set).2]):=by
 refine pcb (fun t=>t == 43||t == 75) func65 rfl rfl ?_;simp only[go_sem];have E:rG x kind set=((if KT x kind set=true then(cO,2)
  else if(xP x set != 0)=true then(cO,24)
  else match x.types[kind.toNat]? with
  | none=>(cO,24)
  | some t=>if(Da x kind.toNat set t).found=true then((Da x kind.toNat set t).best,0)else(cO,24)):Column×Int):=rfl
 generalize rG x kind set=RP at *;refine aN fun I av=>?_
 generalize ar:aM _ I _=HG6;have F:HG6 I=some (uB cO):=by rw[<-ar,aB];try rfl
 clear ar av;simp only[go_sem,Xab];refine⟨fun _=>by omega,aA (fun hb=>?_) (fun hb=>?_)⟩
 ·simp only[go_sem];refine aI F (by simp only[go_sem]) ?_;generalize E:aM _ I _=HP;replace F:HP I=some (uB cO):=by rw[<-E,aB];rfl
  clear E;simp only[go_sem,F];have hb:KT x kind set=true:=hb;rw[if_pos hb]at E;rw[E];exact .refl _
 have aq:KT x kind set=false:=hb;rw[if_neg (by rw[aq];simp)]at E;obtain⟨⟨⟨hk0,hk1⟩,hs0⟩,hs1⟩:((0<=kind/\kind<x.types.length)/\0<set)/\shV .shr .i64 set (x.orders.length:Nat)=0:=by simpa using hb
 rw[wD (by omega)]at hs1;obtain⟨k0,rfl⟩:=Int.eq_ofNat_of_zero_le hk0;have hk:k0<x.types.length:=by omega
 obtain⟨t,ht⟩:=aK hk;have bk:=inB hk;have al:set<2^x.orders.length:=by
  have hp:(0:Int)<2^x.orders.length:=Int.pow_pos (by decide);rcases Xcf set (2^x.orders.length)with h|h
  ·exact h
  ·have:=Int.le_ediv_of_mul_le hp (show 1*2^x.orders.length<=set by omega);omega
 have hM:=vI (x:=x) (by omega) al (by omega);have az:=XY (by omega) al (by omega);rw[show jO x set=tM x (dD set)from rfl]at *;simp only[go_sem];refine aH (abR x set (by omega) hE.apart hE.before) ?_;rw[Xao,ht]at E;unfold Da at E;simp only at E;rw[show jO x set=tM x (dD set)from rfl]at E;simp only[go_sem];apply aA <;> intro ao
 ·simp only[go_sem];refine aI F (by simp only[go_sem]) ?_;generalize E:aM _ I _=HP;replace F:HP I=some (uB cO):=by rw[<-E,aB];rfl
  clear E;simp only[go_sem,F];rw[if_pos ao]at E;rw[E];exact .refl _
 rw[if_neg (by rw[ao];simp)]at E;clear hb ao aq;simp only[go_sem];refine Kh (a:=xO ⟨x,k0,set,0,cO,false⟩) rfl ⟨by rw[LV];decide,?_⟩;refine aN fun J ak=>?_
 have ah:I≠J:=bE F ak;simp only[go_sem];generalize ap:aM _ J _=HGs;replace F:=(congrFun ap.symm I).trans ((aJ _ _ _ _ ah).trans F);have R:HGs J=some (lZ ⟨x,k0,set,0,cO,false⟩):=by rw[<-ap,aB]
 clear ap ak;refine aH (oH set) ?_;simp only[go_sem,Xab];have ag:=nU set 63
 change (dD set).length<=63 at ag
 generalize dD set=M at *;clear az;have a0:M.length<=63:=ag;refine⟨fun ρ H=>∃(k:Nat),k<=M.length/\ρ 1=int (k0:Nat)/\ρ 3=.rp (aD x) 0/\ρ 6=.op I 0 0/\ρ 8=.op J 0 0/\ρ 45=.sl (M.map bC)/\ρ 46=int (M.length:Nat)/\ρ 47=int k/\H I=some (uB cO)/\H J=some (lZ ⟨x,k0,set,tM x (M.take k),cO,false⟩),fun ρ _=>M.length-aR (ρ 47),⟨0,Xaa _,rfl,rfl,rfl,rfl,rfl,rfl,(by simp only[go_sem];rfl),F,R⟩,?_⟩;clear F R;rintro ρ H ⟨k,ay,e1,e3,e6,e8,af,ac,Y,F,R⟩;simp only[go_sem,ac,Y];refine aA (fun ae=>?_) (fun am=>?_)
 ·have ae:=ltB (by simpa using ae);obtain⟨i,hi⟩:=aK ae;have b1:=inB ae;have hs:=Uo x hi;have hb:=Wp x M k;have hV:=vW x.orders i;generalize tM x (M.take k)=T at *;simp only[go_sem,af,Y,aC hi,b1];refine D0 [] (.q 0 (.q 1 (.q 2 (.q 4 (.q 5 (.q 6 (.a2 3 (.a1 7 (.q 8 (.q 9 (.q 10 (.q 11 (.a1 12 .nil)))))) 7 (.q 8 (.a1 3 (.q 9 (.q 10 (.q 11 (.a1 12 .nil)))))))))))))
   (fun O H'=>O 1=int (k0:Nat)/\O 3=.rp (aD x) 0/\O 6=.op I 0 0/\O 8=.op J 0 0/\O 45=.sl (M.map bC)/\O 46=int (M.length:Nat)/\O 47=int (k:Nat)/\H' I=some (uB cO)/\H' J=some (lZ ⟨x,k0,set,tM x (M.take (k+1)),cO,false⟩)) (by simp) (by kernel_rfl) (fun K' au Hp Hr hp hr _ ax=>?_) ?_
  ·have X:=(hr J (by simp)).trans R;simp only[go_sem,e3,e8,];refine tL ?_ ?_
   ·simp only[go_sem,X];refine aH (vH x.orders i) ?_;simp only[go_sem,Xab];refine dP so3 X (by simp[]) ?_;simp only[go_sem];refine sW hr (by simp) (au _ _ ⟨by simp only[go_sem,e1,],by simp only[go_sem,e3,],by simp only[go_sem,e6,],by simp only[go_sem,e8,],by simp only[go_sem,af,],ac,Y,?_,?_⟩)
    ·rw[aJ _ _ _ _ ah];exact F
    rw[hs,aB];refine congrArg (fun l=>some (⟨174,17,[l]⟩:Row)) ?_;rw[aU (by omega)];rfl
   ·simp only[go_sem];refine aH (vH x.orders i) ?_;simp only[go_sem,X,Xab];refine dP so3 X (by simp[]) ?_;simp only[go_sem];refine sW hr (by simp) (au _ _ ⟨by simp only[go_sem,e1,],by simp only[go_sem,e3,],by simp only[go_sem,e6,],by simp only[go_sem,e8,],by simp only[go_sem,af,],ac,Y,?_,?_⟩)
    ·rw[aJ _ _ _ _ ah];exact F
    rw[hs,aB];refine congrArg (fun l=>some (⟨174,17,[l]⟩:Row)) ?_;rw[aU (by omega)];rfl
  clear F R e1 e3 e6 e8 af ac Y;rintro ρ H ⟨e1,e3,e6,e8,af,ac,Y,F,R⟩;simp only[go_sem,e1,e3,e6,e8,af,ac,Y,aQ k];exact⟨⟨k+1,ae,rfl,F,R⟩,msr ae⟩
 have am:=geB ay (by simpa using am);subst am;rw[Xad]at R;simp only[go_sem,e1,e3,aC ht,bk];refine aN fun aa Z=>?_
 have ab:J≠aa:=bE R Z;have aj:I≠aa:=bE F Z;simp only[go_sem];refine aI (aB _ _ _) (by simp[jH]) ?_;generalize ai:aM (aM _ aa _) aa _=HGi;replace F:=kpR ai aj aj F;replace R:=kpR ai ab ab R;have an:HGi aa=some (kY t):=by rw[<-ai,aB];try rfl
 clear ai Z;simp only[go_sem];refine fV [aa] [(0,true),(1,true),(2,true),(3,true),(4,true),(5,true),(6,false),(7,false)] (by simp[an]) (by kernel_rfl) fun Hp Hr hp hr _ ax=>?_
 have aw:=(hp aa (by simp)).trans an;have X:=(hr J (by simpa using ab)).trans R;simp only[go_sem,e8,aw];refine LC.use (ajL Hr J _ t t.start 0 ht X) ?_;simp only[go_sem];refine MC.use (YJ t J 17 ⟨x,k0,set,tM x M,cO,false⟩ ⟨ht,hE,hE.before,by show x.orders.length<=60;omega,by show tM x M<=16;omega⟩ Hr X [] t.src (mW t [] t.start 0) (Xaa _) (by show tM x M-0<17;omega) (IP t [] t.start 0)) ?_;have hB:=sX t 17 ⟨x,k0,set,tM x M,cO,false⟩ [] t.src (mW t [] t.start 0);generalize nL t 17 ⟨x,k0,set,tM x M,cO,false⟩ [] t.src (mW t [] t.start 0)=s' at *;simp only[go_sem];refine sW hr (by simpa using ab) ?_;have R2:aM HGi J (some (lZ s')) J=some (lZ s'):=aB _ _ _;have ad:aM HGi J (some (lZ s')) I=some (uB cO):=(aJ _ _ _ _ ah).trans F;generalize aM HGi J (some (lZ s'))=HX at *;clear F R an;simp only[go_sem,e8,R2];apply aA <;> intro hb
 ·simp only[go_sem,e6,];refine aI ad (by simp only[go_sem]) ?_;generalize E:aM _ I _=HP;replace ad:HP I=some (uB cO):=by rw[<-E,aB];rfl
  clear E;simp only[go_sem,e6,ad];rw[if_neg (by simpa using hb)]at E;rw[E];exact .refl _
 simp only[go_sem,e6,e8,R2];refine aI ad (by simp[cP]) ?_;generalize E:aM _ I _=HP;replace ad:HP I=some (uB s'.best):=by rw[<-E,aB];rfl
 clear E;simp only[go_sem,e6,ad];rw[if_pos (by simpa using hb)]at E;rw[E];exact .refl _
structure BestQ(x:Instance)(k:Nat)(set:Int)(c:Column):Prop where
 lt:k<x.types.length
 pos:0<set
 top:set<2^x.orders.length
 is:∃l,c=⟨(k:Nat),set,(fH x ⟨(k:Nat),0,[],l⟩).1,⟨(k:Nat),0,[],l⟩⟩/\(fH x ⟨(k:Nat),0,[],l⟩).2=0/\kC x set l/\l.length=jO x set
def acS{x:Instance}{k:Nat}{set:Int}(hn:x.orders.length<=8)(h:(rG x (k:Nat) set).2=0):BestQ x k set (rG x (k:Nat) set).1:=by
 unfold rG at h |-;split at h
 ·exact absurd h (by decide)
 split at h
 ·exact absurd h (by decide)
 next hb _=>
 rw[Xao]at *;split at h
 ·exact absurd h (by decide)
 next t ht=>
 split at h
 case isFalse=>exact absurd h (by decide)
 next O=>
 have F:KT x (k:Nat) set=false:=by simpa using hb
 unfold KT at F;obtain⟨⟨⟨hk0,hk1⟩,hs0⟩,hs1⟩:((0<=(k:Int)/\(k:Int)<x.types.length)/\0<set)/\shV .shr .i64 set (x.orders.length:Nat)=0:=by simpa using F
 rw[wD (by omega)]at hs1;have J:set<2^x.orders.length:=by
  have Z:(0:Int)<2^x.orders.length:=Int.pow_pos (by decide);rcases Xcf set (2^x.orders.length)with h|h
  ·exact h
  ·have:=Int.le_ediv_of_mul_le Z (show 1*2^x.orders.length<=set by omega);omega
 rw[if_neg hb,if_neg (by assumption)];simp only[O,if_true];have E:=sX t 17 ⟨x,k,set,jO x set,cO,false⟩ [] t.src (mW t [] t.start 0);obtain⟨l,z1,X,T,Y⟩:=GT t 17 ⟨x,k,set,jO x set,cO,false⟩ [] t.src (mW t [] t.start 0) (fun h=>Bool.noConfusion h) kC.nil O;unfold Da;generalize nL t 17 ⟨x,k,set,jO x set,cO,false⟩ [] t.src (mW t [] t.start 0)=s' at *;have I:mD s' l=⟨(k:Nat),0,[],l⟩:=by unfold mD;rw[E.kind]
 rw[I,E.x]at X;rw[E.x,E.set]at T;rw[E.total]at Y;refine⟨by omega,hs0,J,l,?_,X,T,Y⟩;rw[z1];unfold Jc;rw[I,E.x,E.set,E.kind]
abbrev cD(l:List Column):Row:=⟨43,7,l.map aS⟩
def Gl(x:Instance)(kind set:Nat):List Column:=if((rG x (kind:Nat) (set:Nat)).2 == 0)=true then[(rG x (kind:Nat) (set:Nat)).1]else[]
def tA(x:Instance)(kind m:Nat):List Column:=(List.range m).flatMap fun s=>Gl x kind (s+1)
def BC(x:Instance)(k:Nat):List Column:=(List.range k).flatMap fun kind=>tA x kind (2^x.orders.length-1)
def tX(x:Instance):List Column:=BC x x.types.length
def BQ(x:Instance)(kind m:Nat):tA x kind (m+1)=tA x kind m++Gl x kind (m+1):=by unfold tA;rw[Xbi,Xcd];simp
def zZ(x:Instance)(k:Nat):BC x (k+1)=BC x k++tA x k (2^x.orders.length-1):=by unfold BC;rw[Xbi,Xcd];simp
def aaD(x:Instance)(kind set:Nat):(Gl x kind set).length<=1:=by unfold Gl;split <;> simp
def wM(x:Instance)(kind:Nat):∀m,(tA x kind m).length<=m
 | 0=>Xaf _
 | m+1=>by rw[BQ,Xae];have:=wM x kind m;have:=aaD x kind (m+1);omega
def vB(x:Instance):∀k,(BC x k).length<=k*2^x.orders.length
 | 0=>Xaa _
 | k+1=>by rw[zZ,Xae,Nat.succ_mul];have:=vB x k;have:=wM x k (2^x.orders.length-1);have E:0<2^x.orders.length:=Nat.two_pow_pos _;omega
def abJ{x:Instance}{kind set:Nat}{c:Column}(F:x.orders.length<=8)(h:c∈Gl x kind set):BestQ x kind set c:=by
 unfold Gl at h;split at h
 next E=>have:=acS (x:=x) (k:=kind) (set:=(set:Nat)) F (by simpa using E);rw[Xaw.1 h];exact this
 ·cases h
def nN{x:Instance}{c:Column}(E:x.orders.length<=8)(h:c∈tX x):∃kind set:Nat,BestQ x kind set c:=by unfold tX BC tA at h;obtain⟨kind,_,h⟩:=List.mem_flatMap.1 h;obtain⟨s,_,h⟩:=List.mem_flatMap.1 h;exact⟨kind,s+1,abJ E h⟩
def Ih(l:List Column)(c:Column):(⟨43,7,l.map aS++[aS c]⟩:Row)=cD (l++[c]):=by show _=(⟨43,7,(l++[c]).map aS⟩:Row);rw[Xam];rfl
def Ob{s n:Nat}(E:n<=8):shV .shr .i64 ((s:Nat):Int) ((n:Nat):Int)=((s/2^n:Nat):Int):=by rw[wD (by omega)];simp
def arM(x:Instance)(hE:EvalB x)(hn:x.orders.length<=8)(ht:x.types.length<=1000):NC prog 37 [.agg (aD x)] (cD (tX x)) (fun j=>.tup [.os j,int 0]):=by
 refine ncb (fun t=>t == 4) func37 rfl rfl ?_;simp only[go_sem];refine fI fun j ad ai (R:ad j=some (cD [])) N=>?_
 simp only[go_sem];refine⟨fun ρ H=>∃(k:Nat) (j:Nat),k<=x.types.length/\ρ 1=.rp (aD x) 0/\ρ 11=int (x.types.length:Nat)/\ρ 12=int k/\ρ 4=.os j/\H j=some (cD (BC x k)),fun ρ _=>x.types.length-aR (ρ 12),⟨0,j,Xaa _,rfl,rfl,(by simp only[go_sem];rfl),rfl,R⟩,?_⟩;rintro ρ H ⟨k,j,hk,X,F,E,Y,R⟩;simp only[go_sem,F,E];refine aA (fun J=>?_) (fun T=>?_)
 ·have J:=ltB (by simpa using J);have hs:=zZ x k;have al:=vB x k;have h8:2^x.orders.length<=256:=Xal (Xau (by decide) hn) (by decide);have hp:0<2^x.orders.length:=Nat.two_pow_pos _;have ak:k*2^x.orders.length<=256000:=Xal (Nat.mul_le_mul (show k<=1000 by omega) h8) (by decide);generalize aj:BC x k=A at *;simp only[go_sem,E];refine⟨fun ρ H=>∃m j:Nat,m<=2^x.orders.length-1/\ρ 1=.rp (aD x) 0/\ρ 5=int (k:Nat)/\ρ 6=int (m+1:Nat)/\ρ 11=int x.types.length/\ρ 12=int (k:Nat)/\ρ 4=.os j/\H j=some (cD (A++tA x k m)),fun ρ _=>2^x.orders.length-aR (ρ 6),⟨0,j,Xaa _,by simp only[go_sem,X,],by simp only[go_sem],(by simp only[go_sem];rfl),by simp only[go_sem,F,],E,Y,by simpa[tA]using R⟩,?_⟩;rintro ρ H ⟨m,j,hm,X,e5,e6,F,E,Y,R⟩;simp only[go_sem,X,e6,Xab];refine⟨by omega,aA (fun ac=>?_) (fun Z=>?_)⟩
  ·rw[Ob hn]at ac;have O:(m+1)/2^x.orders.length=0:=by
    have:(((m+1)/2^x.orders.length:Nat):Int)=0:=by simpa using ac
    omega
   have ag:m+1<2^x.orders.length:=(Nat.div_eq_zero_iff.1 O).resolve_left (by omega);have I:=BQ x k m;have am:=wM x k m;simp only[go_sem,X,e5,e6,];refine aH (anZ x (k:Nat) ((m+1:Nat):Int) hE hn) ?_;have ae:Gl x k (m+1)=if((rG x (k:Nat) ((m+1:Nat):Int)).2 == 0)=true then[(rG x (k:Nat) ((m+1:Nat):Int)).1]else[]:=rfl
   rw[ae]at I;generalize rG x (k:Nat) ((m+1:Nat):Int)=B at *;generalize tA x k m=KM at *;simp only[go_sem];refine aN fun i7 ab=>?_
   simp only[go_sem];refine cJ ab (by simp[cP]) fun aa (R7:aa i7=some (cD [B.1])) N=>?_
   replace R:=(N R).2;simp only[go_sem];apply aA <;> intro hc
   ·rw[if_pos hc]at I;simp only[go_sem,Y,R7];refine aY R ⟨rfl,rfl⟩ (by simp only[go_sem]) (by simp;omega) (fun j2 an=>?_);simp only[go_sem,X,e5,e6,F,E,mC (show m+1<=4611686018427387904 by omega)];refine⟨⟨m+1,j2,by omega,rfl,rfl,?_⟩,by simp only[aL];omega⟩;rw[I,<-Xaq,aB];exact congrArg some (Ih _ _)
   ·rw[if_neg (by rw[hc];simp),Xah]at I;simp only[go_sem,X,Y,e5,e6,F,E,mC (show m+1<=4611686018427387904 by omega)];refine⟨⟨m+1,j,by omega,rfl,rfl,?_⟩,by simp only[aL];omega⟩;rw[I];exact R
  ·rw[Ob hn]at Z;have O:¬(m+1)/2^x.orders.length=0:=by
    have:¬(((m+1)/2^x.orders.length:Nat):Int)=0:=by simpa using Z
    omega
   have ah:¬m+1<2^x.orders.length:=fun h=>O (Nat.div_eq_of_lt h)
   have af:m=2^x.orders.length-1:=by omega
   subst af;simp only[go_sem,X,Y,F,E,aQ k];refine⟨⟨k+1,j,J,rfl,rfl,?_⟩,msr J⟩;rw[hs];exact R
 have T:=geB hk (by simpa using T);subst T;simp only[go_sem,Y];exact⟨j,rfl,R⟩
end Sq
namespace Sq
open Go.Proofs.Tryz
open Rx (bK.cutO Fh FH C6)
open Mv (bP bS aO)
def akU{g:Nat}{cap:List AV}{p:Column->Bool}(l:List Column)(hl:l.length<=4000000000000000000)(T:aE prog g=true)(hg:∀v∈l,PC prog g ((.agg (aS v))::cap) (boo (p v))):
  PC prog 66 [.sl (l.map aS),.fn g cap] (int (pC p l 0)):=by
 refine pcd func66 rfl rfl ?_;simp only[go_sem];refine⟨fun ρ _=>∃k:Nat,k<=l.length/\ρ 0=.sl (l.map aS)/\ρ 1=.fn g cap/\ρ 7=int l.length/\ρ 8=int k/\∀u∈l.take k,p u=false,fun ρ _=>l.length-aR (ρ 8),⟨0,Xaa _,rfl,rfl,rfl,rfl,by simp⟩,?_⟩;rintro ρ H ⟨k,Z,h0,h1,X,O,I⟩;simp only[go_sem,X,O];refine aA (fun E=>?_) (fun F=>?_)
 ·have E:=aV E;obtain⟨u,J⟩:=aK E;have b1:=inB E;simp only[go_sem,h0,h1,O,aC J,b1,T];refine aH (hg u (Xac J)) ?_;simp only[go_sem];apply aA <;> intro Y
  ·simp only[go_sem];exact bP (by rw[lR I J Y];omega)
  ·simp only[go_sem,h0,h1,X,O,aQ k];exact⟨⟨k+1,E,rfl,aO (p:=fun u=>p u=false) J Y I⟩,msr E⟩
 ·have F:=aW Z F;subst F;rw[Xad]at I;simp only[go_sem];exact bP (by rw[kP I])
def NK(u v:Column):oN (aS u) 0 (aS v)=aS v:=(rfl)
def RL{g:Nat}{cap cap':List AV}{p:Column->Bool}(l:List Column)(H0:aG)(F:Nat)(hj:H0 F=some ⟨43,7,l.map aS⟩)(hl:l.length<=1000000000)(ad:aE prog g=true)(hg:∀v∈l,PC prog g ((.agg (aS v))::cap') (boo (p v)))
  (hc:∀H:aG,(∀k row,k≠F->H0 k=some row->H k=some row)->ConvL H cap cap') {K:AV->aG->Prop}
  (hK:∀(I:Nat) (H':aG),(∀k row,k≠F->H0 k=some row->H' k=some row)->(H0 I=none\/I=F)->H' I=some ⟨43,7,(l.filter fun v=> !p v).map aS⟩->K (.os I) H'):
  bK prog 38 [.os F,.fn g cap] H0 K:=by
 have ab:bK prog 38 [.os F,.fn g cap] H0 fun a H'=>K a H'\/∃j i row,a=.oz j 0 i/\H' j=some row/\i<=row.es.length/\∀I,H' I=none->K (.os I) (aM (aM H' j none) I (some ⟨row.e,row.sz,row.es.take i⟩)):=by
  refine bK.body (c:=f38.body.getD .skip) (fun _=>false) mixed func38 rfl (by kernel_rfl) ?_;unfold f38;simp only[Xbl];simp only[go_sem];refine eV.use ⟨[.sl (l.map aS),.fn g cap'],.cons _ _ _ _ (.row _ _ _ hj (ConvE.refl _)) (.cons _ _ _ _ (.fn _ _ _ (hc H0 fun _ _ _ h=>h)) .nil),akU l (by omega) ad hg,rfl⟩ ?_;simp only[go_sem];apply aA <;> intro hb
  ·have hm:∀y∈l,p y=false:=Fh (Xbq 0) (by simpa using hb);simp only[go_sem];refine .inl (hK F H0 (fun _ _ _ h=>h) (.inr rfl) ?_);rw[List.filter_eq_self.2 (fun v X=>by rw[hm v X];rfl)];exact hj
  obtain⟨i,y,hi,hy,am,ai⟩:=FH (p:=p) (l:=l) (by simpa using hb);have aq:=(List.getElem?_eq_some_iff.1 hy).1;rw[Int.zero_add]at hi;rw[hi];simp only[go_sem,aQ i];refine⟨fun ρ H=>∃(k m:Nat) (E:List Column),k<=l.length/\m<k/\ρ 0=.os F/\ρ 1=.fn g cap/\ρ 5=int m/\ρ 6=int k/\H F=some ⟨43,7,E.map aS⟩/\E.length=l.length/\E.take m=(l.take k).filter (fun v=> !p v)/\E.drop k=l.drop k/\∀q row,q≠F->H0 q=some row->H q=some row,fun ρ _=>l.length-aR (ρ 6),⟨i+1,i,l,aq,Nat.lt_succ_self _,rfl,rfl,rfl,rfl,hj,rfl,?_,rfl,fun _ _ _ h=>h⟩,?_⟩
  ·rw[bA hy,List.filter_append,List.filter_eq_self.2 (fun v X=>by rw[ai v X];rfl)];simp[am]
  rintro ρ H ⟨k,m,E,hk,au,h0,h1,Z,h6,R,hE,ht,hd,hs⟩;simp only[go_sem,h0,h6,R,Xab];refine aA (fun O=>?_) (fun aa=>?_)
  ·have O:k<l.length:=by simp at O;omega
   obtain⟨v,X⟩:=aK O;have al:E[k]?=some v:=by have h2:=congrArg (fun L=>L[0]?) hd;simp only[List.getElem?_drop,Nat.add_zero]at h2;rw[h2,X]
   have b1:((0:Int)<=(k:Nat)/\((k:Nat):Int)<((E.length:Nat):Int)):=by omega
   have b2:((0:Int)<=(m:Nat)/\((m:Nat):Int)<((E.length:Nat):Int)):=by omega
   simp only[go_sem,h0,h6,R,Xab,aC al,b1];refine⟨by omega,aN fun i7 h7=>?_⟩;have ae:F≠i7:=bE R h7;simp only[go_sem];refine aI (aB _ _ _) (by simp[cP]) ?_;generalize hG:aM (aM H i7 _) i7 _=HG;have R':HG F=some ⟨43,7,E.map aS⟩:=by rw[<-hG,aJ _ _ _ _ ae,aJ _ _ _ _ ae];exact R
   have R7:HG i7=some ⟨43,7,[aS v]⟩:=by rw[<-hG,aB];rfl
   have ac:∀q row,q≠F->H0 q=some row->HG q=some row:=fun q row Y h=>by
    have h2:=hs q row Y h;have:q≠i7:=fun e=>by rw[e,h7]at h2;cases h2
    rw[<-hG,aJ _ _ _ _ this,aJ _ _ _ _ this];exact h2
   clear hG h7 R hs;simp only[go_sem,h1,R7,ad];refine eV.use ⟨(.agg (aS v))::cap',.cons _ _ _ _ (.refl _) (hc HG ac),hg v (Xac X),rfl⟩ ?_;simp only[go_sem];refine gU (fun T H'=>T 0=.os F/\T 1=.fn g cap/\T 6=int k/\∃(m':Nat) (E':List Column),m'<k+1/\T 5=int m'/\H' F=some ⟨43,7,E'.map aS⟩/\E'.length=l.length/\E'.take m'=(l.take (k+1)).filter (fun v=> !p v)/\E'.drop (k+1)=l.drop (k+1)/\∀q row,q≠F->H0 q=some row->H' q=some row) ?_ fun K' aj _ _=>aA (fun hb=>?_) (fun hb=>?_)
   rotate_left
   ·have hp:p v=false:=by simpa using hb
    simp only[go_sem,h0,Z,R7,R',Xab,b2];refine aI R' (by simp[cP];omega) ?_;simp only[go_sem,Z,aQ m];refine aj _ _ ⟨h0,h1,h6,m+1,E.set m v,by omega,rfl,?_,by rw[Xcb,hE],?_,?_,fun q row Y h=>by rw[aJ _ _ _ _ Y];exact ac q row Y h⟩
    ·rw[aB,List.map_set];obtain⟨u,hu⟩:=aK (l:=E) (k:=m) (by omega);rw[aC hu];exact congrArg (fun x=>some (⟨43,7,(E.map aS).set m x⟩:Row)) (NK u v)
    ·rw[C6 E (by omega),ht,bA X,List.filter_append];simp[hp]
    ·rw[List.drop_set_of_lt (by omega),<-List.drop_drop,hd,List.drop_drop]
   ·have hp:p v=true:=by simpa using hb
    simp only[go_sem];refine aj _ _ ⟨h0,h1,h6,m,E,by omega,Z,R',hE,?_,?_,ac⟩
    ·rw[ht,bA X,List.filter_append];simp[hp]
    ·rw[<-List.drop_drop,hd,List.drop_drop]
   rintro ρ H ⟨h0,h1,h6,m',E',af,Z,R,an,ao,ak,ap⟩;simp only[go_sem,h6,aQ k];exact⟨⟨k+1,m',E',O,af,h0,h1,Z,rfl,R,an,ao,ak,ap⟩,msr O⟩
  ·have aa:k=l.length:=by simp at aa;omega
   subst aa;rw[Xad]at ht;have av:m<=E.length:=by omega
   simp only[go_sem,h0,Z,R,Xab];refine⟨by omega,agV awX awK R (.inr ⟨_,rfl,rfl⟩) rfl ?_⟩;simp only[go_sem,h0,Z,aB];refine⟨⟨by omega,by simp;omega⟩,.inr ⟨F,m,_,rfl,aB _ _ _,?_,fun I J=>?_⟩⟩
   ·simp;omega
   have ag:I≠F:=fun e=>by rw[e,aB]at J;cases J
   rw[aJ _ _ _ _ ag]at J;have ah:H0 I=none:=by
    cases e:H0 I with
    | none=>rfl
    | some row=>rw[hs I row ag e]at J;cases J
   refine hK I _ (fun q row Y h=>?_) (.inl ah) ?_
   ·have ar:q≠I:=fun e=>by rw[e,ah]at h;cases h
    rw[aJ _ _ _ _ ar,aJ _ _ _ _ Y,aJ _ _ _ _ Y];exact hs q row Y h
   ·rw[aB];refine congrArg (fun L=>some (⟨43,7,L⟩:Row)) ?_;rw[List.take_append_of_le_length (by simp;omega),List.take_append_of_le_length (by simp;omega),Xan (by simp;omega),<-List.map_take,ht]
 exact bK.cutO ab
end Sq
namespace Nu
open Go.Nu Go.So Go.Sb
end Nu
namespace Nu
open Go.Proofs.Tryz
open Go.Nu Go.So Go.Sb
def YC{l:List Int}{d:Int}(h:Af l d=true):1<=(l.length:Int)/\(l.length:Int)<=3/\(l.length:Int)=d/\∀n∈l,0<=n/\n<=1000:=by
 unfold Af at h;split at h
 ·cases h
 ·next h1=>
  simp only[Xcm,not_or,Xcu,Xbw,bne_eq_false_iff_eq]at h1;have e:=kV.1 h1.1;exact⟨e.1,e.2,h1.2,fun n E=>kV.1 (Xaj.1 h n E)⟩
def aaU{l:List Int}{d:Int}(h:eZ l d=true):(l.length:Int)=d/\∀n∈l,0<=n/\n<=1000:=by
 unfold eZ at h;split at h
 ·next h1=>
  refine⟨h1,fun n E=>?_⟩;have:=Xaj.1 h n E;simp at this;omega
 ·cases h
def Ue{x:Instance}(h:Acc x):LoadsOk x (kL x.types).toNat/\x.types≠[]:=by
 have E:x.types≠[]:=by intro h0;have:=h.types;rw[h0]at this;simp at this
 obtain⟨t,r,F⟩:=List.exists_cons_of_ne_nil E;have O:kL x.types=t.cap.length:=by rw[F];rfl
 have I:=YC (h.type t (by rw[F];exact Xcq)).cap;have e:((kL x.types).toNat:Int)=kL x.types:=by omega
 refine⟨⟨by omega,by have:=h.orders;omega,by have:=h.types;omega,fun o J=>?_,fun t F=>?_⟩,E⟩
 ·have:=aaU (h.order o J).load;exact⟨by omega,this.2⟩
 ·have:=YC (h.type t F).cap;exact⟨by omega,this.2.2.2⟩
def aqD(c:Cut)(F:Nat)(h:0<=c.set)(E:c.set<9223372036854775808)(I:F<2^63):PC prog 126 [.agg (dS c),int F] (int (AY c.kind (c.set.toNat &&& F))):=by obtain⟨k,s,n⟩:=c;obtain⟨m,rfl⟩:=Int.eq_ofNat_of_zero_le h;have E:(m:Int)<9223372036854775808:=E;exact avJ k n m F (by omega) I
def aqZ(c:Cut)(F:Nat)(h:0<=c.set)(E:c.set<9223372036854775808)(I:F<2^63):PC prog 152 [.agg (dS c),int F] (int (AY c.kind (c.set.toNat &&& F))):=by obtain⟨k,s,n⟩:=c;obtain⟨m,rfl⟩:=Int.eq_ofNat_of_zero_le h;have E:(m:Int)<9223372036854775808:=E;exact ajQ k n m F (by omega) I
end Nu
namespace Nu
open Go.Proofs.Tryz
open Go.Nu
open Dec (nZ eF fL eH uX mM)
def axK(x:Instance):List Nat:=(List.range x.orders.length).filter (GM (fun _=>true) x.orders)
def sN(x:Instance):List Int:=(axK x).map fun i:Nat=>(i:Int)
def LX(x:Instance)(k:Nat):List Int:=((List.range k).filter (GM (fun _=>true) x.orders)).map fun i:Nat=>(i:Int)
def Uk{x:Instance}{k:Nat}{o:Order}(h:x.orders[k]?=some o):LX x (k+1)=LX x k++(if o.off=true then[]else[(k:Int)]):=by unfold LX;rw[Xbi,List.filter_append,Xam];have e:=J9 (q:=fun _=>true) h;rw[Xbh]at e;cases E:o.off <;> simp[e,E]
def MT(x:Instance)(k:Nat):(LX x k).length<=k:=by unfold LX;rw[Xab];exact Xal (Xcn _ _) (by rw[Xbd];exact Xaf _)
def ES(x:Instance):(sN x).length<=x.orders.length:=MT x _
def IN{p q:Nat->Bool}{n:Nat}(h1:∀i,i<n->p i=q i)(E:∀i,n<=i->p i=false):∀m,(List.range (n+m)).filter p=(List.range n).filter q
 | 0=>List.filter_congr fun i F=>h1 i (Xat.1 F)
 | m+1=>by rw[<-Nat.add_assoc,Xbi,List.filter_append,IN h1 E m];simp[E (n+m) (by omega)]
def YM(x:Instance)(h:x.orders.length<=62):dD (amY x:Nat)=sN x:=by
 unfold dD rN sN axK
 congr 1
 obtain⟨m,hm⟩:∃m,63=x.orders.length+m:=⟨63-x.orders.length,by omega⟩;have I:∀i,(amY x).testBit i=(decide (i<x.orders.length)&&GM (fun _=>true) x.orders i):=fun i=>Du _ _ _
 have E:∀i:Nat,dO ((amY x:Nat):Int) (i:Int)=(decide (i<x.orders.length)&&GM (fun _=>true) x.orders i):=by
  intro i;by_cases F:i<=62
  ·rw[jF F,I]
  ·unfold dO;rw[decide_eq_false (show ¬((i:Int)<=62)by omega),decide_eq_false (show ¬i<x.orders.length by omega)];simp
 rw[hm];refine IN (fun i F=>?_) (fun i F=>?_) m
 ·rw[E,decide_eq_true F,Xaz]
 ·rw[E,decide_eq_false (by omega),Bool.false_and]
def D7(b:Bool):Int:=if b=true then 1 else 0
def Be(d:Decision):Bool:=d.kind == 3||d.kind == 4
def D3(l:List Decision)(k:Nat):((l.take k).filter Be).length<=k:=Xal (Xcn _ _) (by rw[Xap];omega)
def xN{α:Type}{p:α->Bool}{l:List α}{k:Nat}{a:α}(h:l[k]?=some a):(l.take (k+1)).filter p=(l.take k).filter p++(if p a=true then[a]else[]):=by
 rw[bA h,List.filter_append];by_cases E:p a=true
 ·simp[E]
 ·simp[E]
def NN(b:Bool):PC prog 150 [boo b] (int (D7 b)):=by
 refine pcd func150 rfl rfl ?_;simp only[go_sem];apply aA <;> intro E
 ·simp only[go_sem];subst E;exact .refl _
 ·simp only[go_sem];subst E;exact .refl _
def aqX(s:Nat)(i:Int)(E:s<2^63):PC prog 151 [int s,int i] (boo (dO s i)):=by
 refine pcd func151 rfl rfl ?_;simp only[go_sem];refine⟨fun _=>by decide,?_⟩;refine cB ?_;unfold dO;rw[decide_eq_true (show((s:Nat):Int)>=0 by omega),Xaz];by_cases h:0<=i/\i<=62
 ·obtain⟨n,rfl⟩:=Int.eq_ofNat_of_zero_le h.1;rw[show IntKind.u64.wrap ((n:Nat):Int)=((n:Nat):Int)from by show((n:Nat):Int)%18446744073709551616=_;omega,wD (by omega)];have e:((2:Int)^n)=((2^n:Nat):Int):=by norm_cast
  rw[e,<-Int.natCast_ediv,Xcs (Int.natCast_nonneg _),Xao,e,<-Int.natCast_ediv]
 ·have:(decide (i>=0)&&decide (i<=62))=false:=by simp;omega
  rw[this];rfl
def YK(d:Decision):PC prog 83 [.agg (aT d)] (boo (Be d)):=by refine pcd func83 rfl rfl ?_;simp only[go_sem];exact .refl _
abbrev vY(l:List Int):Row:=⟨3,1,l.map bC⟩
def KA(x:Instance)(h:x.orders.length<=1048576):PC prog 82 [.agg (aD x)] (.sl ((sN x).map bC)):=by
 refine pcb (fun t=>t == 3) func82 rfl rfl ?_;simp only[go_sem];refine aN fun j hj=>?_
 simp only[go_sem];refine⟨fun ρ H=>∃(k:Nat) (j:Nat),k<=x.orders.length/\ρ 1=.rp (aD x) 0/\ρ 4=int k/\ρ 3=.os j/\H j=some (vY (LX x k)),fun ρ _=>x.orders.length-aR (ρ 4),⟨0,j,Xaa _,rfl,(by simp only[go_sem];rfl),rfl,aB _ _ _⟩,?_⟩;rintro ρ H ⟨k,j,Z,J,I,T,R⟩;simp only[go_sem,J,I];refine aA (fun E=>?_) (fun F=>?_)
 ·have E:=ltB (by simpa using E);obtain⟨o,X⟩:=aK E;have b1:=inB E;have hl:=MT x k;have O:=Uk X;simp only[go_sem,J,I,aC X,b1];apply aA <;> intro Y
  ·rw[if_neg (by simpa using Y)]at O;simp only[go_sem,I,T];refine aY R ⟨rfl,rfl⟩ ⟨rfl,trivial⟩ (by simp;omega) (fun j' aa=>?_);simp only[go_sem,J,I,aQ k];refine⟨⟨k+1,j',E,rfl,rfl,?_⟩,msr E⟩;rw[O];exact kZ rfl
  ·rw[if_pos (by simpa using Y),Xah]at O;simp only[go_sem,J,I,T,aQ k];exact⟨⟨k+1,j,E,rfl,rfl,by rw[O];exact R⟩,msr E⟩
 have F:=geB Z (by simpa using F);subst F;simp only[go_sem,T];exact .row _ _ _ R (ConvE.refl _)
def RJ(x:Instance)(cuts:List Cut)(ds:List Decision):Nat:=(sN x).length+x.types.length+cuts.length+(ds.filter Be).length
structure MIn(x:Instance)(cuts:List Cut)(ds:List Decision):Prop where
 orders:x.orders.length<=62
 types:x.types.length<=1048576
 cl:cuts.length<=1048576
 dl:ds.length<=1048576
def aiX(x:Instance)(cuts:List Cut)(ds:List Decision)(h:MIn x cuts ds):PC prog 47 [.agg (aD x),.sl (cuts.map dS),.sl (ds.map aT)] (int (RJ x cuts ds:Nat)):=by
 have h1:=h.orders;have h2:=h.types;have h3:=h.cl;have h4:=h.dl;have Z:=ES x;refine pcd func47 rfl rfl ?_;simp only[go_sem];refine mX [(0,true),(3,true),(4,true),(5,true),(7,true),(8,true),(1,false),(2,false),(6,false),(9,false),(10,false)] (by kernel_rfl) ?_;simp only[go_sem,Xab];refine aH (KA x (by omega)) ?_;have w1:IntKind.i64.wrap (((sN x).length:Int)+(x.types.length:Int))=(((sN x).length+x.types.length:Nat):Int):=by rw[aU (by omega)];omega
 have w2:IntKind.i64.wrap ((((sN x).length+x.types.length:Nat):Int)+(cuts.length:Int))=(((sN x).length+x.types.length+cuts.length:Nat):Int):=by rw[aU (by omega)];omega
 simp only[go_sem,Xab,w1,w2];refine⟨fun ρ H=>∃(k:Nat),k<=ds.length/\ρ 2=.sl (ds.map aT)/\ρ 8=int k/\ρ 7=int ((sN x).length+x.types.length+cuts.length+((ds.take k).filter Be).length:Nat),fun ρ _=>ds.length-aR (ρ 8),⟨0,Xaa _,rfl,(by simp only[go_sem];rfl),by simp only[go_sem];rfl⟩,?_⟩;rintro ρ H ⟨k,hk,T,I,O⟩;simp only[go_sem,T,I];refine aA (fun E=>?_) (fun F=>?_)
 ·have E:=ltB (by simpa using E);obtain⟨d,X⟩:=aK E;have b1:=inB E;have J:=xN (p:=Be) X;have hl:=D3 ds k;simp only[go_sem,T,I,aC X,b1];refine aH (YK d) ?_;simp only[go_sem];apply aA <;> intro Y
  ·rw[if_pos Y]at J;have w:IntKind.i64.wrap (((((sN x).length+x.types.length+cuts.length+((ds.take k).filter Be).length:Nat)):Int)+1)=(((sN x).length+x.types.length+cuts.length+((ds.take (k+1)).filter Be).length:Nat):Int):=by rw[J,Xae,aU (by omega)];simp;omega
   simp only[go_sem,T,I,O,w,aQ k];exact⟨⟨k+1,E,rfl,rfl⟩,msr E⟩
  ·rw[if_neg (by rw[Y];simp),Xah]at J;simp only[go_sem,T,I,O,aQ k];exact⟨⟨k+1,E,rfl,by rw[J]⟩,msr E⟩
 have F:=geB hk (by simpa using F);subst F;rw[Xad]at O;simp only[go_sem,O];exact .refl _
def acE{α:Type}(p:α->Bool)(l:List α)(k:Nat):((l.take k).filter p).length<=k:=Xal (Xcn _ _) (by rw[Xap];omega)
def oQ(x:Instance)(c:Column):List Int:=(sN x).map fun i=>D7 (dO c.set i)
def lM(x:Instance)(c:Column)(k:Nat):List Int:=(List.range k).map fun t:Nat=>D7 (c.type == (t:Int))
def oS(c:Column)(cuts:List Cut):List Int:=cuts.map fun q=>AY q.kind (q.set.toNat &&& c.set.toNat)
def oR(c:Column)(ds:List Decision):List Int:=(ds.filter Be).map fun d=>D7 (c.type == d.a)
def nK(x:Instance)(c:Column)(cuts:List Cut)(ds:List Decision):List Int:=oQ x c++lM x c x.types.length++oS c cuts++oR c ds
structure ColB(c:Column):Prop where
 set:0<=c.set/\c.set<=9223372036854775807
structure CutsB(cuts:List Cut):Prop where
 set:∀q∈cuts,0<=q.set/\q.set<=9223372036854775807
def ZN(x:Instance)(c:Column)(cuts:List Cut)(ds:List Decision)(h:MIn x cuts ds)(hc:ColB c)(hq:CutsB cuts):
  PC prog 87 [.agg (aD x),.agg (aS c),.sl (cuts.map dS),.sl (ds.map aT)] (.sl ((nK x c cuts ds).map bC)):=by
 have h1:=h.orders;have h2:=h.types;have h3:=h.cl;have h4:=h.dl;have ai:=ES x;obtain⟨sn,Y⟩:=Int.eq_ofNat_of_zero_le hc.set.1;have X:sn<2^63:=by have:=hc.set.2;omega
 refine pcb (fun t=>t == 9) func87 rfl rfl ?_;simp only[go_sem];refine aN fun j hj=>?_
 simp only[go_sem];refine aH (KA x (by omega)) ?_;simp only[go_sem];refine⟨fun ρ H=>∃(k:Nat) (j:Nat),k<=(sN x).length/\ρ 2=.sl (cuts.map dS)/\ρ 3=.sl (ds.map aT)/\ρ 4=.rp (aD x) 0/\ρ 5=.rp (aS c) 0/\ρ 10=.sl ((sN x).map bC)/\ρ 11=int k/\ρ 9=.os j/\H j=some (vY (((sN x).take k).map fun i=>D7 (dO c.set i))),fun ρ _=>(sN x).length-aR (ρ 11),⟨0,j,Xaa _,rfl,rfl,rfl,rfl,rfl,(by simp only[go_sem];rfl),rfl,aB _ _ _⟩,?_⟩;rintro ρ H ⟨k,j,hk,Z,J,e4,I,ad,ac,O,R⟩;simp only[go_sem,ad,ac];refine aA (fun E=>?_) (fun F=>?_)
 ·have E:=ltB (by simpa using E);obtain⟨i,hi⟩:=aK E;have b1:=inB E;simp only[go_sem,b1];refine mX [(0,true),(1,true),(2,true),(3,true),(4,true),(5,true),(6,true),(7,false),(8,false),(9,false),(10,false),(11,false)] (by kernel_rfl) ?_;simp only[go_sem,I,ad,ac,O,aC hi,b1,Y];refine aH (aqX sn i X) ?_;simp only[go_sem];refine aH (NN _) ?_;simp only[go_sem];refine aY R ⟨rfl,rfl⟩ ⟨rfl,trivial⟩ (by simp only[Xab,Xap,Xai,List.length_nil];omega) (fun j' af=>?_);simp only[go_sem,Z,J,e4,I,ad,ac,aQ k];refine⟨⟨k+1,j',E,rfl,rfl,?_⟩,msr E⟩;rw[bA hi,Xam,Y];exact kZ rfl
 have F:=geB hk (by simpa using F);subst F;rw[Xad]at R
 change H j=some (vY (oQ x c))at R
 simp only[go_sem];refine⟨fun ρ H=>∃(k:Nat) (j:Nat),k<=x.types.length/\ρ 2=.sl (cuts.map dS)/\ρ 3=.sl (ds.map aT)/\ρ 4=.rp (aD x) 0/\ρ 5=.rp (aS c) 0/\ρ 12=int k/\ρ 9=.os j/\H j=some (vY (oQ x c++lM x c k)),fun ρ _=>x.types.length-aR (ρ 12),⟨0,j,Xaa _,by simp only[go_sem,Z,],by simp only[go_sem,J,],e4,I,(by simp only[go_sem];rfl),O,by simpa[lM]using R⟩,?_⟩;rintro ρ H ⟨k,j,hk,Z,J,e4,I,ae,O,R⟩;simp only[go_sem,e4,ae];refine aA (fun E=>?_) (fun F=>?_)
 ·have E:=ltB (by simpa using E);have aa:(oQ x c++lM x c k).length<=62+k:=by unfold oQ lM;simp only[Xae,Xab,Xbd];omega
  simp only[go_sem,I,ae,O];refine aH (NN _) ?_;simp only[go_sem];refine aY R ⟨rfl,rfl⟩ ⟨rfl,trivial⟩ (by simp only[Xab,Xai,List.length_nil];omega) (fun j' af=>?_);simp only[go_sem,Z,J,e4,I,ae,aQ k];refine⟨⟨k+1,j',E,rfl,rfl,?_⟩,msr E⟩;have:lM x c (k+1)=lM x c k++[D7 (c.type == (k:Int))]:=by unfold lM;rw[Xbi,Xam];rfl
  rw[this,<-Xaq];exact kZ rfl
 have F:=geB hk (by simpa using F);subst F;simp only[go_sem];refine⟨fun ρ H=>∃(k:Nat) (j:Nat),k<=cuts.length/\ρ 2=.sl (cuts.map dS)/\ρ 3=.sl (ds.map aT)/\ρ 5=.rp (aS c) 0/\ρ 13=int k/\ρ 9=.os j/\H j=some (vY (oQ x c++lM x c x.types.length++oS c (cuts.take k))),fun ρ _=>cuts.length-aR (ρ 13),⟨0,j,Xaa _,by simp only[go_sem,Z,],J,I,(by simp only[go_sem];rfl),O,by simpa[oS]using R⟩,?_⟩;rintro ρ H ⟨k,j,hk,Z,J,I,ag,O,R⟩;simp only[go_sem,Z,ag];refine aA (fun E=>?_) (fun F=>?_)
 ·have E:=ltB (by simpa using E);obtain⟨q,ab⟩:=aK E;have b1:=inB E;have ah:=hq.set q (Xac ab);have aa:(oQ x c++lM x c x.types.length++oS c (cuts.take k)).length<=62+1048576+1048576:=by unfold oQ lM oS;simp only[Xae,Xab,Xbd,Xap];omega
  simp only[go_sem,b1];refine mX [(0,true),(1,true),(2,true),(3,true),(4,true),(5,true),(6,true),(7,false),(8,false),(9,false),(10,false)] (by kernel_rfl) ?_;simp only[go_sem,Z,I,ag,O,aC ab,b1,Y];refine aH (aqZ q sn ah.1 (by omega) X) ?_;simp only[go_sem];refine aY R ⟨rfl,rfl⟩ ⟨rfl,trivial⟩ (by simp only[Xab,Xai,List.length_nil];omega) (fun j' af=>?_);simp only[go_sem,Z,J,I,ag,aQ k];refine⟨⟨k+1,j',E,rfl,rfl,?_⟩,msr E⟩;have:oS c (cuts.take (k+1))=oS c (cuts.take k)++[AY q.kind (q.set.toNat &&& sn)]:=by unfold oS;rw[bA ab,Xam,Y];rfl
  rw[this,<-Xaq];exact kZ rfl
 have F:=geB hk (by simpa using F);subst F;rw[Xad]at R;simp only[go_sem];refine⟨fun ρ H=>∃(k:Nat) (j:Nat),k<=ds.length/\ρ 3=.sl (ds.map aT)/\ρ 5=.rp (aS c) 0/\ρ 14=int k/\ρ 9=.os j/\H j=some (vY (oQ x c++lM x c x.types.length++oS c cuts++oR c (ds.take k))),fun ρ _=>ds.length-aR (ρ 14),⟨0,j,Xaa _,J,I,(by simp only[go_sem];rfl),O,by simpa[oR]using R⟩,?_⟩;rintro ρ H ⟨k,j,hk,J,I,T,O,R⟩;simp only[go_sem,J,T];refine aA (fun E=>?_) (fun F=>?_)
 ·have E:=ltB (by simpa using E);obtain⟨d,hd⟩:=aK E;have b1:=inB E;have hs:=xN (p:=Be) hd;have aa:(oQ x c++lM x c x.types.length++oS c cuts++oR c (ds.take k)).length<=62+1048576+1048576+1048576:=by have:=D3 ds k;unfold oQ lM oS oR;simp only[Xae,Xab,Xbd];omega
  simp only[go_sem,J,T,aC hd,b1];refine aH (YK d) ?_;simp only[go_sem];apply aA <;> intro hb
  ·rw[if_pos hb]at hs;have:oR c (ds.take (k+1))=oR c (ds.take k)++[D7 (d.a == c.type)]:=by unfold oR;rw[hs,Xam,Xba,Xbz,show(d.a == c.type)=(c.type == d.a)from BEq.comm]
   simp only[go_sem];refine mX [(0,true),(1,true),(2,true),(3,true),(4,true),(5,true),(6,true),(7,true),(8,true),(9,false),(10,false),(11,false),(12,false)] (by kernel_rfl) ?_;simp only[go_sem,J,I,T,O,aC hd,b1];refine aH (NN _) ?_;simp only[go_sem];refine aY R ⟨rfl,rfl⟩ ⟨rfl,trivial⟩ (by simp only[Xab,Xai,List.length_nil];omega) (fun j' af=>?_);simp only[go_sem,J,I,T,aQ k];refine⟨⟨k+1,j',E,rfl,rfl,?_⟩,msr E⟩;rw[this,<-Xaq];exact kZ rfl
  ·rw[if_neg (by rw[hb];simp),Xah]at hs;simp only[go_sem,J,I,T,O,aQ k];refine⟨⟨k+1,j,E,rfl,rfl,?_⟩,msr E⟩;have:oR c (ds.take (k+1))=oR c (ds.take k):=by unfold oR;rw[hs]
   rw[this];exact R
 have F:=geB hk (by simpa using F);subst F;rw[Xad]at R;simp only[go_sem,O];exact .row _ _ _ R (ConvE.refl _)
def auZ(d:Decision):PC prog 127 [.agg (aT d)] (boo (Be d)):=by refine pcd func127 rfl rfl ?_;simp only[go_sem];exact .refl _
def Rc(b:Bool):PC prog 125 [boo b] (int (D7 b)):=by
 refine pcd func125 rfl rfl ?_;simp only[go_sem];apply aA <;> intro E
 ·simp only[go_sem];subst E;exact .refl _
 ·simp only[go_sem];subst E;exact .refl _
def aoT(x:Instance)(c:Column)(cuts:List Cut)(ds:List Decision)(h:MIn x cuts ds)(hc:ColB c)(hq:CutsB cuts):
  PC prog 72 [.agg (aD x),.agg (aS c),.sl (cuts.map dS),.sl (ds.map aT)] (.sl ((nK x c cuts ds).map bC)):=by
 have h1:=h.orders;have h2:=h.types;have h3:=h.cl;have h4:=h.dl;have az:=ES x;obtain⟨sn,ak⟩:=Int.eq_ofNat_of_zero_le hc.set.1;have ag:sn<2^63:=by have:=hc.set.2;omega
 refine pcb (fun t=>t == 9) func72 rfl rfl ?_;simp only[go_sem];refine fI fun j ar au (R:ar j=some (vY [])) N=>?_
 clear N au;simp only[go_sem];refine aH (arH x h1) ?_;simp only[go_sem];refine aH (oH _) ?_;rw[YM x h1];simp only[go_sem];refine⟨fun ρ H=>∃(k:Nat) (j:Nat),k<=(sN x).length/\ρ 2=.sl (cuts.map dS)/\ρ 3=.sl (ds.map aT)/\ρ 4=.rp (aD x) 0/\ρ 5=.rp (aS c) 0/\ρ 19=.sl ((sN x).map bC)/\ρ 20=int ((sN x).length:Nat)/\ρ 21=int k/\ρ 9=.os j/\H j=some (vY (((sN x).take k).map fun i=>D7 (dO c.set i))),fun ρ _=>(sN x).length-aR (ρ 21),⟨0,j,Xaa _,rfl,rfl,rfl,rfl,rfl,rfl,(by simp only[go_sem];rfl),rfl,R⟩,?_⟩;rintro ρ H ⟨k,j,hk,e2,Z,e4,I,an,ap,ae,J,R⟩;simp only[go_sem,ap,ae];refine aA (fun E=>?_) (fun F=>?_)
 ·have E:=ltB (by simpa using E);obtain⟨i,hi⟩:=aK E;have b1:=inB E;simp only[go_sem,I,an,ae,J,aC hi,b1];refine aH (yE _ i) ?_;simp only[go_sem];refine aH (Rc _) ?_;simp only[go_sem];refine aY R ⟨rfl,rfl⟩ ⟨rfl,trivial⟩ (by simp only[Xab,Xap,Xai,List.length_nil];omega) (fun j' ai=>?_);simp only[go_sem,e2,Z,e4,I,an,ap,ae,aQ k];refine⟨⟨k+1,j',E,rfl,rfl,?_⟩,msr E⟩;rw[bA hi,Xam];exact kZ rfl
 have F:=geB hk (by simpa using F);subst F;rw[Xad]at R
 change H j=some (vY (oQ x c))at R
 simp only[go_sem,e4,Xab];refine⟨fun ρ H=>∃(k:Nat) (j:Nat),k<=x.types.length/\ρ 2=.sl (cuts.map dS)/\ρ 3=.sl (ds.map aT)/\ρ 5=.rp (aS c) 0/\ρ 36=int (x.types.length:Nat)/\ρ 37=int k/\ρ 9=.os j/\H j=some (vY (oQ x c++lM x c k)),fun ρ _=>x.types.length-aR (ρ 37),⟨0,j,Xaa _,by simp only[go_sem,e2,],Z,I,by simp only[go_sem],(by simp only[go_sem];rfl),J,by simpa[lM]using R⟩,?_⟩;rintro ρ H ⟨k,j,hk,e2,Z,I,am,ad,J,R⟩;simp only[go_sem,am,ad];refine aA (fun E=>?_) (fun F=>?_)
 ·have E:=ltB (by simpa using E);have Y:(oQ x c++lM x c k).length<=62+k:=by unfold oQ lM;simp only[Xae,Xab,Xbd];omega
  simp only[go_sem,I,ad,J];refine aH (Rc _) ?_;simp only[go_sem];refine aY R ⟨rfl,rfl⟩ ⟨rfl,trivial⟩ (by simp only[Xab,Xai,List.length_nil];omega) (fun j' ai=>?_);simp only[go_sem,e2,Z,I,am,ad,aQ k];refine⟨⟨k+1,j',E,rfl,rfl,?_⟩,msr E⟩;have:lM x c (k+1)=lM x c k++[D7 (c.type == (k:Int))]:=by unfold lM;rw[Xbi,Xam];rfl
  rw[this,<-Xaq];exact kZ rfl
 have F:=geB hk (by simpa using F);subst F;simp only[go_sem,e2,Xab];refine⟨fun ρ H=>∃(k:Nat) (j:Nat),k<=cuts.length/\ρ 3=.sl (ds.map aT)/\ρ 5=.rp (aS c) 0/\ρ 49=.sl (cuts.map dS)/\ρ 50=int (cuts.length:Nat)/\ρ 51=int k/\ρ 9=.os j/\H j=some (vY (oQ x c++lM x c x.types.length++oS c (cuts.take k))),fun ρ _=>cuts.length-aR (ρ 51),⟨0,j,Xaa _,Z,I,by simp only[go_sem],by simp only[go_sem],(by simp only[go_sem];rfl),J,by simpa[oS]using R⟩,?_⟩;rintro ρ H ⟨k,j,hk,Z,I,aq,ao,ab,J,R⟩;simp only[go_sem,ao,ab];refine aA (fun E=>?_) (fun F=>?_)
 ·have E:=ltB (by simpa using E);obtain⟨q,aa⟩:=aK E;have b1:=inB E;have ax:=hq.set q (Xac aa);have Y:(oQ x c++lM x c x.types.length++oS c (cuts.take k)).length<=62+1048576+1048576:=by unfold oQ lM oS;simp only[Xae,Xab,Xbd,Xap];omega
  simp only[go_sem,aq,ab,aC aa,b1];refine aN fun ay O=>?_
  simp only[go_sem];refine cJ O (by simp[Ab]) fun ac (aw:ac ay=some (⟨102,3,[dS q]⟩)) N=>?_
  replace R:=(N R).2;clear N O;simp only[go_sem,I,J,aw];rw[ak];refine aH (aqD q sn ax.1 (by omega) ag) ?_;simp only[go_sem];refine aY R ⟨rfl,rfl⟩ ⟨rfl,trivial⟩ (by simp only[Xab,Xai,List.length_nil];omega) (fun j' ai=>?_);simp only[go_sem,Z,I,aq,ao,ab,aQ k];refine⟨⟨k+1,j',E,rfl,rfl,?_⟩,msr E⟩;have:oS c (cuts.take (k+1))=oS c (cuts.take k)++[AY q.kind (q.set.toNat &&& sn)]:=by unfold oS;rw[bA aa,Xam,ak];rfl
  rw[this,<-Xaq];exact kZ rfl
 have F:=geB hk (by simpa using F);subst F;rw[Xad]at R;simp only[go_sem,Z,Xab];refine⟨fun ρ H=>∃(k:Nat) (j:Nat),k<=ds.length/\ρ 5=.rp (aS c) 0/\ρ 63=.sl (ds.map aT)/\ρ 64=int (ds.length:Nat)/\ρ 65=int k/\ρ 9=.os j/\H j=some (vY (oQ x c++lM x c x.types.length++oS c cuts++oR c (ds.take k))),fun ρ _=>ds.length-aR (ρ 65),⟨0,j,Xaa _,I,rfl,by simp only[go_sem],(by simp only[go_sem];rfl),J,by simpa[oR]using R⟩,?_⟩;rintro ρ H ⟨k,j,hk,I,ah,af,X,J,R⟩;simp only[go_sem,af,X];refine aA (fun E=>?_) (fun F=>?_)
 ·have E:=ltB (by simpa using E);obtain⟨d,hd⟩:=aK E;have b1:=inB E;have hs:=xN (p:=Be) hd;have Y:(oQ x c++lM x c x.types.length++oS c cuts++oR c (ds.take k)).length<=62+1048576+1048576+1048576:=by have:=D3 ds k;unfold oQ lM oS oR;simp only[Xae,Xab,Xbd];omega
  simp only[go_sem,ah,X,aC hd,b1];refine aN fun av T=>?_
  simp only[go_sem];refine cJ T (by simp[mL]) fun aj (al:aj av=some (⟨128,4,[aT d]⟩)) N=>?_
  replace R:=(N R).2;clear N T;simp only[go_sem,al];refine aH (auZ d) ?_;simp only[go_sem];apply aA <;> intro hb
  ·rw[if_pos hb]at hs;have:oR c (ds.take (k+1))=oR c (ds.take k)++[D7 (c.type == d.a)]:=by unfold oR;rw[hs,Xam,Xba,Xbz]
   simp only[go_sem,I,J,al];refine aH (Rc _) ?_;simp only[go_sem];refine aY R ⟨rfl,rfl⟩ ⟨rfl,trivial⟩ (by simp only[Xab,Xai,List.length_nil];omega) (fun j' ai=>?_);simp only[go_sem,I,ah,af,X,aQ k];refine⟨⟨k+1,j',E,rfl,rfl,?_⟩,msr E⟩;rw[this,<-Xaq];exact kZ rfl
  ·rw[if_neg (by rw[hb];simp),Xah]at hs;simp only[go_sem,I,ah,af,X,J,aQ k];refine⟨⟨k+1,j,E,rfl,rfl,?_⟩,msr E⟩;have:oR c (ds.take (k+1))=oR c (ds.take k):=by unfold oR;rw[hs]
   rw[this];exact R
 have F:=geB hk (by simpa using F);subst F;rw[Xad]at R;simp only[go_sem,J];exact .row _ _ _ R (ConvE.refl _)
def inM(cols:List Column)(ds:List Decision):List Column:=cols.filter fun c=>ds.all fun d=>fL d c.set
abbrev XB(l:List Column):Row:=⟨43,7,l.map aS⟩
def cM(x:Instance)(c:Column)(cuts:List Cut)(ds:List Decision)(dual:List ByteArray):ByteArray×Int:=
 if dual.length≠(nK x c cuts ds).length then(emp,2)else if(lE (nK x c cuts ds) dual).2≠0 then(emp,(lE (nK x c cuts ds) dual).2)else DT (zed c.price) (lE (nK x c cuts ds) dual).1
def Iv{n:Int}(h0: -9223372036854775808<=n)(h1:n<=9223372036854775807):(zed n).size<=8194:=by have:=Go.Nu.dR (m:=n) (O4 (k:=20) (by omega) (by omega));omega
def OC(b:Bool):D7 b=0\/D7 b=1:=by cases b <;> simp[D7]
def akL(k:Int)(n:Nat):AY k n=0\/AY k n=1:=by unfold AY;split <;> simp
def MS{x:Instance}{c:Column}{cuts:List Cut}{ds:List Decision}{n:Int}(h:n∈nK x c cuts ds):n=0\/n=1:=by
 unfold nK oQ lM oS oR at h;simp only[Xbb,Xbe]at h;rcases h with((⟨i,_,rfl⟩|⟨i,_,rfl⟩)|⟨i,_,rfl⟩)|⟨i,_,rfl⟩
 ·exact OC _
 ·exact OC _
 ·exact akL _ _
 ·exact OC _
def Vy(x:Instance)(c:Column)(cuts:List Cut)(ds:List Decision)(dual:List ByteArray)(h:MIn x cuts ds)(Y:ColB c)(hq:CutsB cuts)(F: -9223372036854775808<=c.price/\c.price<=9223372036854775807)(Z:dual.length<=1048576)(hs:∀s∈dual,s.size<=1048576):
  PC prog 43 [.agg (aD x),.agg (aS c),.sl (cuts.map dS),.sl (ds.map aT),.sl (dual.map Go.Aw.D.fJ)] (.tup [str (cM x c cuts ds dual).1,int (cM x c cuts ds dual).2]):=by
 refine pcd func43 rfl rfl ?_;simp only[go_sem];refine aH (aoT x c cuts ds h Y hq) ?_;have O:∀n∈nK x c cuts ds,-9223372036854775808<=n/\n<=9223372036854775807:=fun n hn=>by rcases MS hn with e|e <;> omega
 unfold cM;generalize nK x c cuts ds=L at *;simp only[go_sem,Xab];refine aA (fun E=>?_) (fun E=>?_)
 ·rw[if_pos (by simp at E;omega)];simp only[go_sem];exact .refl _
 rw[if_neg (by simp at E;omega)];simp only[go_sem];refine aH (agZ L dual O Z hs) ?_;have J:=Ha (ns:=L) (xs:=dual);generalize lE L dual=T at *;obtain⟨t,e⟩:=T;simp only[go_sem];refine aA (fun E=>?_) (fun E=>?_)
 ·have I:e≠0:=by simpa using E
  rw[if_pos I];simp only[go_sem];exact .refl _
 have I:e=0:=by simpa using E
 rw[if_neg (by simpa using I)];have X:=nS (J I);simp only[go_sem];refine aH (Et c.price F.1 F.2) ?_;simp only[go_sem];have hz:=Iv F.1 F.2;refine aH (B6 (zed c.price) t (by omega) (by simp only at X;omega)) ?_;simp only[go_sem];exact .refl _
end Nu
namespace Nu
open Go.Proofs.Tryz
open Go.Nu
abbrev GU(f:Nat->Nat)(i:Nat)(r:PRow):List AV:=[.os (f i),int r.kind,int r.right]
abbrev ahH(f:Nat->Nat)(rows:List PRow):Row:=⟨184,3,rows.mapIdx (GU f)⟩
def QO(f:Nat->Nat)(k c:Nat):Nat->Nat:=fun i=>if i=k then c else f i
structure LinH(H:aG)(jr:Nat)(f:Nat->Nat)(rows:List PRow):Prop where
 row:H jr=some (ahH f rows)
 coef:∀(i:Nat) (r:PRow),rows[i]?=some r->H (f i)=some (vY r.coef)
 inj:∀i k,i<rows.length->k<rows.length->f i=f k->i=k
def acJ(f:Nat->Nat)(rows:List PRow)(c:Nat)(F E:Int):rows.mapIdx (GU f)++[[.os c,int F,int E]]=(rows++[(⟨[],F,E⟩:PRow)]).mapIdx (GU (QO f rows.length c)):=by
 rw[List.mapIdx_append]
 congr 1
 ·refine List.ext_getElem? fun i=>?_
  rw[List.getElem?_mapIdx,List.getElem?_mapIdx];cases h:rows[i]? with
  | none=>rfl
  | some r=>have I:=(List.getElem?_eq_some_iff.1 h).1;show some (GU f i r)=some (GU (QO f rows.length c) i r);unfold GU QO;rw[if_neg (by omega)]
 ·simp[GU,QO]
structure RowsS(H0 H:aG)(j:Nat)(f:Nat->Nat)(rows:List PRow):Prop where
 lin:LinH H j f rows
 keep:∀k row,H0 k=some row->H k=some row
 nj:H0 j=none
 nf:∀i,i<rows.length->H0 (f i)=none
def Mz{H0 H:aG}(h:∀k row,H0 k=some row->H k=some row){c:Nat}(E:H c=none):H0 c=none:=by
 cases e:H0 c with
 | none=>rfl
 | some row=>rw[h c row e]at E;cases E
def LinH.ne{H:aG}{j:Nat}{f:Nat->Nat}{rows:List PRow}(h:LinH H j f rows){i:Nat}(I:i<rows.length):f i≠j:=fun e=>by obtain⟨r,E⟩:=aK I;have h1:=h.coef i r E;rw[e,h.row]at h1;have F:(ahH f rows).e=(vY r.coef).e:=congrArg Row.e (Option.some.inj h1);exact absurd (show(184:Nat)=3 from F) (by decide)
def LinH.new{H:aG}{j:Nat}{f:Nat->Nat}{rows:List PRow}(h:LinH H j f rows){i:Nat}(E:H i=none)(a:Option Row):LinH (aM H i a) j f rows:=by
 refine⟨?_,fun k r F=>?_,h.inj⟩
 ·rw[aJ _ _ _ _ (fun e=>by subst e;rw[h.row]at E;cases E)];exact h.row
 ·have:=h.coef k r F;rw[aJ _ _ _ _ (fun e=>by rw[e,E]at this;cases this)];exact this
def RowsS.new{H0 H:aG}{j:Nat}{f:Nat->Nat}{rows:List PRow}(h:RowsS H0 H j f rows){i:Nat}(E:H i=none)(a b:Option Row):RowsS H0 (aM (aM H i a) i b) j f rows:=by
 have e:aM (aM H i a) i b=aM H i b:=by
  funext k;by_cases e:k=i
  ·subst e;rw[aB,aB]
  ·rw[aJ _ _ _ _ e,aJ _ _ _ _ e,aJ _ _ _ _ e]
 rw[e];refine⟨h.lin.new E b,fun k row F=>?_,h.nj,h.nf⟩;have:=h.keep k row F;rw[aJ _ _ _ _ (fun e=>by subst e;rw[E]at this;cases this)];exact this
def RowsS.app{H0 H:aG}{j:Nat}{f:Nat->Nat}{rows:List PRow}(h:RowsS H0 H j f rows){c j':Nat}(Z:H c=none)(O:aM H c (some (vY [])) j'=none)(kd rt:Int):
  RowsS H0 (aM (aM (aM H c (some (vY []))) j none) j' (some ⟨184,3,rows.mapIdx (GU f)++[[.os c,int kd,int rt]]⟩)) j' (QO f rows.length c) (rows++[⟨[],kd,rt⟩]):=by
 have aa:c≠j':=fun e=>by subst e;rw[aB]at O;cases O
 have J:H j'=none:=by rwa [aJ _ _ _ _ aa.symm]at O
 have ac:c≠j:=fun e=>by subst e;rw[h.lin.row]at Z;cases Z
 refine⟨⟨?_,fun i r X=>?_,fun i k T Y E=>?_⟩,fun k row Y=>?_,Mz h.keep J,fun i T=>?_⟩
 ·rw[aB,acJ]
 ·unfold QO;by_cases e:i=rows.length
  ·subst e;rw[if_pos rfl,aJ _ _ _ _ aa,aJ _ _ _ _ ac,aB];have:r=⟨[],kd,rt⟩:=by simpa using X.symm
   rw[this]
  ·have ab:i<rows.length:=by have:=(List.getElem?_eq_some_iff.1 X).1;rw[Xae]at this;simp at this;omega
   rw[if_neg e];rw[List.getElem?_append_left ab]at X;have F:=h.lin.coef i r X;rw[aJ _ _ _ _ (fun e=>by rw[e,J]at F;cases F),aJ _ _ _ _ (h.lin.ne ab),aJ _ _ _ _ (fun e=>by rw[e,Z]at F;cases F)];exact F
 ·have I : ∀ i, i < rows.length -> f i ≠ c := fun i T e => by obtain⟨r,X⟩:=aK T;have:=h.lin.coef i r X;rw[e,Z]at this;cases this
  rw[Xae]at T Y;simp at T Y;unfold QO at E;by_cases e1:i=rows.length
  ·by_cases e2:k=rows.length
   ·omega
   ·rw[if_pos e1,if_neg e2]at E;exact absurd E.symm (I k (by omega))
  ·by_cases e2:k=rows.length
   ·rw[if_neg e1,if_pos e2]at E;exact absurd E (I i (by omega))
   ·rw[if_neg e1,if_neg e2]at E;exact h.lin.inj i k (by omega) (by omega) E
 ·have F:=h.keep k row Y;rw[aJ _ _ _ _ (fun e=>by rw[e,J]at F;cases F),aJ _ _ _ _ (fun e=>by rw[e,h.nj]at Y;cases Y),aJ _ _ _ _ (fun e=>by rw[e,Z]at F;cases F)];exact F
 ·unfold QO;by_cases e:i=rows.length
  ·rw[if_pos e];exact Mz h.keep Z
  ·rw[if_neg e];rw[Xae]at T;simp at T;exact h.nf i (by omega)
def TE(d:Decision):Option PRow:=if d.kind=3 then some ⟨[],1,d.n⟩else if d.kind=4 then some ⟨[],3,d.n⟩else none
def Gp(k:Nat):List PRow:=List.replicate k ⟨[],2,1⟩
def A4(l:List VType):List PRow:=l.map fun t=>⟨[],1,t.count⟩
def A9(l:List Cut):List PRow:=l.map fun q=>⟨[],(N2 q).1,(N2 q).2⟩
def xD(l:List Decision):List PRow:=l.filterMap TE
def EU(x:Instance)(cuts:List Cut)(ds:List Decision):List PRow:=Gp (sN x).length++A4 x.types++A9 cuts++xD ds
def Nr(ds:List Decision):(xD ds).length=(ds.filter Be).length:=by
 unfold xD;induction ds with
 | nil=>rfl
 | cons d l ih=>
  rw[List.filterMap_cons,List.filter_cons];by_cases E:d.kind=3
  ·rw[show TE d=some ⟨[],1,d.n⟩from if_pos E,if_pos (show Be d=true by simp[Be,E])]
   try simp only[Xai,ih]
  ·by_cases F:d.kind=4
   ·rw[show TE d=some ⟨[],3,d.n⟩from(if_neg E).trans (if_pos F),if_pos (show Be d=true by simp[Be,F])]
    try simp only[Xai,ih]
   ·rw[show TE d=none from(if_neg E).trans (if_neg F),if_neg (show ¬Be d=true by simp[Be,E,F])]
    try exact ih
def ZR(x:Instance)(cuts:List Cut)(ds:List Decision):(EU x cuts ds).length=RJ x cuts ds:=by unfold EU Gp A4 A9 RJ;simp only[Xae,Xab,List.length_replicate,Nr]
def IX{ds:List Decision}{k:Nat}{d:Decision}(h:ds[k]?=some d):xD (ds.take (k+1))=xD (ds.take k)++(TE d).toList:=by
 unfold xD;rw[bA h,List.filterMap_append]
 congr 1
def aoJ(x:Instance)(cuts:List Cut)(ds:List Decision)(h:MIn x cuts ds)(H0:aG)(K:AV->aG->Prop)(hK:∀j f Hn,RowsS H0 Hn j f (EU x cuts ds)->K (.os j) Hn):
  bK prog 71 [.agg (aD x),.sl (cuts.map dS),.sl (ds.map aT)] H0 K:=by
 have h1:=h.orders;have h2:=h.types;have h3:=h.cl;have h4:=h.dl;have ap:=ES x;refine bK.body (c:=f71.body.getD .skip) (fun t=>t == 7||t == 23||t == 37||t == 55||t == 72||t == 80) mixed func71 rfl (by kernel_rfl) ?_;unfold f71;simp only[Xbl];simp only[go_sem];refine aN fun j hj=>?_
 have S:RowsS H0 (aM H0 j (some ⟨184,3,[]⟩)) j id []:=by refine⟨⟨aB _ _ _,fun i r hr=>(by simp at hr),fun i k hi=>absurd hi (by simp)⟩,fun k row Y=>?_,hj,fun i hi=>absurd hi (by simp)⟩;rw[aJ _ _ _ _ (fun e=>by subst e;rw[hj]at Y;cases Y)];exact Y
 generalize aM H0 j _=H1 at S |-;simp only[go_sem];refine aH (arH x h1) ?_;simp only[go_sem];refine aH (oH _) ?_;rw[YM x h1];simp only[go_sem,Xab];refine⟨fun ρ H=>∃(k:Nat) (j:Nat) (f:Nat->Nat),k<=(sN x).length/\ρ 1=.sl (cuts.map dS)/\ρ 2=.sl (ds.map aT)/\ρ 3=.rp (aD x) 0/\ρ 19=int ((sN x).length:Nat)/\ρ 20=int k/\ρ 7=.os j/\RowsS H0 H j f (Gp k),fun ρ _=>(sN x).length-aR (ρ 20),⟨0,j,id,Xaa _,rfl,rfl,rfl,rfl,(by simp only[go_sem];rfl),rfl,S⟩,?_⟩;rintro ρ H ⟨k,j,f,Y,e1,e2,e3,ai,ak,X,S⟩;simp only[go_sem,ai,ak];refine aA (fun E=>?_) (fun F=>?_)
 ·have E:=ltB (by simpa using E);simp only[go_sem,X];refine aN fun c O=>?_
  have R:=(S.lin.new O (some (vY []))).row;refine aY R ⟨rfl,rfl⟩ ⟨rfl,trivial⟩ (by simp only[List.length_mapIdx,Gp,List.length_replicate,Xai,List.length_nil];omega) (fun j' I=>?_);have T:=S.app O I 2 1;have e:Gp (k+1)=Gp k++[⟨[],2,1⟩]:=List.replicate_succ';rw[<-e]at T;simp only[go_sem,e1,e2,e3,ai,ak,aQ k];exact⟨⟨k+1,j',_,E,rfl,rfl,T⟩,msr E⟩
 have F:=geB Y (by simpa using F);subst F;simp only[go_sem,e3,Xab];generalize hB:Gp (sN x).length=B at S;have aq:B.length<=62:=by rw[<-hB];unfold Gp;rw[List.length_replicate];omega
 refine⟨fun ρ H=>∃(k:Nat) (j:Nat) (f:Nat->Nat),k<=x.types.length/\ρ 1=.sl (cuts.map dS)/\ρ 2=.sl (ds.map aT)/\ρ 28=.sl (x.types.map bF)/\ρ 29=int (x.types.length:Nat)/\ρ 30=int k/\ρ 7=.os j/\RowsS H0 H j f (B++A4 (x.types.take k)),fun ρ _=>x.types.length-aR (ρ 30),⟨0,j,f,Xaa _,e1,e2,by simp only[go_sem],by simp only[go_sem],(by simp only[go_sem];rfl),X,by simpa[A4]using S⟩,?_⟩;rintro ρ H ⟨k,j,f,Y,e1,e2,aj,af,ad,X,S⟩;simp only[go_sem,af,ad];refine aA (fun E=>?_) (fun F=>?_)
 ·have E:=ltB (by simpa using E);obtain⟨t,ht⟩:=aK E;have b1:=inB E;have ac:(B++A4 (x.types.take k)).length<=62+k:=by unfold A4;simp only[Xae,Xab,Xap];omega
  simp only[go_sem,aj,ad,aC ht,b1];refine aN fun i9 h9=>?_
  simp only[go_sem];refine aI (aB _ _ _) (by simp[jH]) ?_;have J:=S.new h9;generalize hG:aM (aM H i9 _) i9 _=HG;replace J:RowsS H0 HG j f (B++A4 (x.types.take k)):=by rw[<-hG];exact J _ _
  have R9:HG i9=some (⟨95,14,[bF t]⟩:Row):=by rw[<-hG,aB];rfl
  clear hG h9;simp only[go_sem,X,R9];refine aN fun c O=>?_
  have R:=(J.lin.new O (some (vY []))).row;refine aY R ⟨rfl,rfl⟩ ⟨rfl,trivial⟩ (by simp only[List.length_mapIdx,Xai,List.length_nil];omega) (fun j' I=>?_);have T:=J.app O I 1 t.count;have e:B++A4 (x.types.take (k+1))=B++A4 (x.types.take k)++[⟨[],1,t.count⟩]:=by unfold A4;rw[bA ht,Xam,Xaq];rfl
  rw[<-e]at T;simp only[go_sem,e1,e2,aj,af,ad,aQ k];exact⟨⟨k+1,j',_,E,rfl,rfl,T⟩,msr E⟩
 have F:=geB Y (by simpa using F);subst F;rw[Xad]at S;simp only[go_sem,e1,Xab];generalize al:B++A4 x.types=B2 at S;have an:B2.length<=62+1048576:=by rw[<-al];unfold A4;rw[Xae,Xab];omega
 refine⟨fun ρ H=>∃(k:Nat) (j:Nat) (f:Nat->Nat),k<=cuts.length/\ρ 2=.sl (ds.map aT)/\ρ 41=.sl (cuts.map dS)/\ρ 42=int (cuts.length:Nat)/\ρ 43=int k/\ρ 7=.os j/\RowsS H0 H j f (B2++A9 (cuts.take k)),fun ρ _=>cuts.length-aR (ρ 43),⟨0,j,f,Xaa _,e2,rfl,by simp only[go_sem],(by simp only[go_sem];rfl),X,by simpa[A9]using S⟩,?_⟩;rintro ρ H ⟨k,j,f,Y,e2,ah,am,ae,X,S⟩;simp only[go_sem,am,ae];refine aA (fun E=>?_) (fun F=>?_)
 ·have E:=ltB (by simpa using E);obtain⟨q,hq⟩:=aK E;have b1:=inB E;have ac:(B2++A9 (cuts.take k)).length<=62+1048576+k:=by unfold A9;simp only[Xae,Xab,Xap];omega
  simp only[go_sem,ah,ae,aC hq,b1];refine aN fun i9 h9=>?_
  simp only[go_sem];refine aI (aB _ _ _) (by simp[Ab]) ?_;have J:=S.new h9;generalize hG:aM (aM H i9 _) i9 _=HG;replace J:RowsS H0 HG j f (B2++A9 (cuts.take k)):=by rw[<-hG];exact J _ _
  have R9:HG i9=some (⟨102,3,[dS q]⟩:Row):=by rw[<-hG,aB];rfl
  clear hG h9;simp only[go_sem,R9];refine aH (axE q) ?_;simp only[go_sem,X];refine aN fun c O=>?_
  have R:=(J.lin.new O (some (vY []))).row;refine aY R ⟨rfl,rfl⟩ ⟨rfl,trivial⟩ (by simp only[List.length_mapIdx,Xai,List.length_nil];omega) (fun j' I=>?_);have T:=J.app O I (N2 q).1 (N2 q).2;have e:B2++A9 (cuts.take (k+1))=B2++A9 (cuts.take k)++[⟨[],(N2 q).1,(N2 q).2⟩]:=by unfold A9;rw[bA hq,Xam,Xaq];rfl
  rw[<-e]at T;simp only[go_sem,e2,ah,am,ae,aQ k];exact⟨⟨k+1,j',_,E,rfl,rfl,T⟩,msr E⟩
 have F:=geB Y (by simpa using F);subst F;rw[Xad]at S;simp only[go_sem,e2,Xab];generalize ag:B2++A9 cuts=B3 at S;have ao:B3.length<=62+1048576+1048576:=by rw[<-ag];unfold A9;rw[Xae,Xab];omega
 refine⟨fun ρ H=>∃(k:Nat) (j:Nat) (f:Nat->Nat),k<=ds.length/\ρ 59=.sl (ds.map aT)/\ρ 60=int (ds.length:Nat)/\ρ 61=int k/\ρ 7=.os j/\RowsS H0 H j f (B3++xD (ds.take k)),fun ρ _=>ds.length-aR (ρ 61),⟨0,j,f,Xaa _,rfl,rfl,(by simp only[go_sem];rfl),X,by simpa[xD]using S⟩,?_⟩;rintro ρ H ⟨k,j,f,Y,ab,aa,Z,X,S⟩;simp only[go_sem,aa,Z];refine aA (fun E=>?_) (fun F=>?_)
 ·have E:=ltB (by simpa using E);obtain⟨d,hd⟩:=aK E;have b1:=inB E;have hs:=IX hd;have ac:(B3++xD (ds.take k)).length<=62+1048576+1048576+k:=by have:=D3 ds k;rw[Xae,Nr];omega
  simp only[go_sem,ab,Z,aC hd,b1];refine aN fun i9 h9=>?_
  simp only[go_sem];refine aI (aB _ _ _) (by simp[mL]) ?_;have J:=S.new h9;generalize hG:aM (aM H i9 _) i9 _=HG;replace J:RowsS H0 HG j f (B3++xD (ds.take k)):=by rw[<-hG];exact J _ _
  have R9:HG i9=some (⟨128,4,[aT d]⟩:Row):=by rw[<-hG,aB];rfl
  clear hG h9;simp only[go_sem,R9];apply aA <;> intro hb
  ·have h3:d.kind=3:=by simpa using hb
   rw[show TE d=some ⟨[],1,d.n⟩from if_pos h3]at hs;simp only[go_sem,X,R9];refine aN fun c O=>?_
   have R:=(J.lin.new O (some (vY []))).row;refine aY R ⟨rfl,rfl⟩ ⟨rfl,trivial⟩ (by simp only[List.length_mapIdx,Xai,List.length_nil];omega) (fun j' I=>?_);have T:=J.app O I 1 d.n;have e:B3++xD (ds.take (k+1))=B3++xD (ds.take k)++[⟨[],1,d.n⟩]:=by rw[hs,Xaq];rfl
   rw[<-e]at T;simp only[go_sem,ab,aa,Z,aQ k];exact⟨⟨k+1,j',_,E,rfl,rfl,T⟩,msr E⟩
  have h3:d.kind≠3:=by simpa using hb
  simp only[go_sem];apply aA <;> intro hb
  ·have h4:d.kind=4:=by simpa using hb
   rw[show TE d=some ⟨[],3,d.n⟩from(if_neg h3).trans (if_pos h4)]at hs;simp only[go_sem,X,R9];refine aN fun c O=>?_
   have R:=(J.lin.new O (some (vY []))).row;refine aY R ⟨rfl,rfl⟩ ⟨rfl,trivial⟩ (by simp only[List.length_mapIdx,Xai,List.length_nil];omega) (fun j' I=>?_);have T:=J.app O I 3 d.n;have e:B3++xD (ds.take (k+1))=B3++xD (ds.take k)++[⟨[],3,d.n⟩]:=by rw[hs,Xaq];rfl
   rw[<-e]at T;simp only[go_sem,ab,aa,Z,aQ k];exact⟨⟨k+1,j',_,E,rfl,rfl,T⟩,msr E⟩
  have h4:d.kind≠4:=by simpa using hb
  rw[show TE d=none from(if_neg h3).trans (if_neg h4)]at hs;simp only[go_sem,ab,aa,Z,X,aQ k];refine⟨⟨k+1,j,f,E,rfl,rfl,?_⟩,msr E⟩;rw[hs];simpa using J
 have F:=geB Y (by simpa using F);subst F;rw[Xad]at S;simp only[go_sem,X];refine hK j f _ ?_;unfold EU;rw[hB,al,ag];exact S
def aoL(x:Instance)(cuts:List Cut)(ds:List Decision)(h:MIn x cuts ds):PC prog 42 [.agg (aD x),.sl (cuts.map dS),.sl (ds.map aT)] (int (RJ x cuts ds:Nat)):=by
 refine pcd func42 rfl rfl ?_;simp only[go_sem];refine aoJ x cuts ds h _ _ fun j f E S=>?_
 simp only[go_sem,S.lin.row,List.length_mapIdx,ZR];exact .refl _
def cF(n N:Int):Bool:=decide (n<0)||decide (n>=N)
def lA(s:Score):(cE s).length=4:=(rfl)
def AI(s:Score):(cE s).getD 0 .any=int s.cost:=(rfl)
def Az(s:Score):(cE s).getD 1 .any=int s.moved:=(rfl)
def An(s:Score):(cE s).getD 2 .any=int s.other:=(rfl)
def Ay(s:Score):(cE s).getD 3 .any=int s.work:=(rfl)
def uY(s:Score):(cE s).take 4=cE s:=(rfl)
def cL:Score:=⟨0,0,0,0⟩
def atE(s:Score):Int:=IntKind.i64.wrap (IntKind.i64.wrap (IntKind.i64.wrap (IntKind.i64.wrap (IntKind.i64.wrap (IntKind.i64.wrap (s.cost*16)+s.moved)*16)+s.other)*65536)+s.work)
def oM(s:Score):Int×Int:=if(decide (s.cost<0)||decide (s.moved<0)||decide (s.other<0)||decide (s.work<0))=true then(0,2)
 else if(decide (s.cost>1073741824)||decide (s.moved>=16)||decide (s.other>=16)||decide (s.work>=65536))=true then(0,4)else(atE s,0)
def NZ(s:Score):Bool:=decide (s.cost>=0)&&decide (s.cost<=1073741824)&&decide (s.moved>=0)&&decide (s.moved<=15)&&decide (s.other>=0)&&decide (s.other<=15)&&decide (s.work>=0)&&decide (s.work<=65535)
def Za(s:Score):PC prog 330 [.agg (cE s)] (boo (NZ s)):=by refine pcd func330 rfl rfl ?_;simp only[go_sem];exact .refl _
def Wh(s:Score):PC prog 286 [.agg (cE s)] (.tup [int (oM s).1,int (oM s).2]):=by
 unfold oM;refine pcd func286 rfl rfl ?_;simp only[go_sem];refine aA (fun E=>?_) (fun E=>?_)
 ·rw[if_pos E];simp only[go_sem];exact .refl _
 rw[if_neg (by rw[E];simp)];simp only[go_sem];refine aH (Za s) ?_;simp only[go_sem];have e:(!NZ s)=(decide (s.cost>1073741824)||decide (s.moved>=16)||decide (s.other>=16)||decide (s.work>=65536)):=by unfold NZ;simp only[Xag,decide_eq_false_iff_not]at E;rw[Xar];simp;omega
 rw[<-e];refine aA (fun F=>?_) (fun F=>?_)
 ·rw[if_pos F];simp only[go_sem];exact .refl _
 rw[if_neg (by rw[F];simp)];simp only[go_sem];exact .refl _
end Nu
namespace Nu
open Go.Nu
open Dec (nZ eF fL eH uX mM)
def Dw{x:Instance}{d:Nat}{q:Cut}(h:pW x d q=0):0<=q.set:=by
 unfold pW qY at h;refine Decidable.byContradiction fun E=>?_
 rw[decide_eq_false (show ¬q.set>=0 by omega)]at h;simp at h;split at h
 ·cases h
 ·split at h
  ·cases h
  ·cases h
end Nu
namespace Nu
open Go.Nu
end Nu
namespace Nu
open Go.Nu
open Dec (nZ eF fL eH uX mM)
def is0(s:ByteArray):Bool:=bl s == [48]
def is1(s:ByteArray):Bool:=bl s == [49]
def KT(s:ByteArray):Bool:= !is0 s&& !is1 s
abbrev ordR(o:Order):Row:=⟨93,16,[bJ o]⟩
abbrev typR(t:VType):Row:=⟨95,14,[bF t]⟩
abbrev insR(x:Instance):Row:=⟨30,6,[aD x]⟩
end Nu
namespace Nu
open Go.Proofs.Tryz
open Go.Nu
open Dec (nZ eF fL eH uX mM)
def P1(x:Instance)(c:Column)(cuts:List Cut)(ds:List Decision)(dual:List ByteArray)(h:MIn x cuts ds)(hc:ColB c)(hq:CutsB cuts)(I: -9223372036854775808<=c.price/\c.price<=9223372036854775807)(hl:dual.length<=1048576)(hs:∀s∈dual,s.size<=1048576):
  PC prog 49 [.agg (aD x),.agg (aS c),.sl (cuts.map dS),.sl (ds.map aT),.sl (dual.map Go.Aw.D.fJ)] (.tup [str (cM x c cuts ds dual).1,int (cM x c cuts ds dual).2]):=by
 refine pcd func49 rfl rfl ?_;simp only[go_sem];have Y:∀n∈nK x c cuts ds,-9223372036854775808<=n/\n<=9223372036854775807:=fun n hn=>by rcases MS hn with e|e <;> omega
 refine aH (ZN x c cuts ds h hc hq) ?_;have F:cM x c cuts ds dual=if(lE (nK x c cuts ds) dual).2≠0 then(emp,(lE (nK x c cuts ds) dual).2)else DT (zed c.price) (lE (nK x c cuts ds) dual).1:=by
  unfold cM;by_cases E:dual.length≠(nK x c cuts ds).length
  ·rw[if_pos E];have:lE (nK x c cuts ds) dual=(emp,2):=by unfold lE;rw[if_pos (Ne.symm E)]
   rw[this,if_pos (by decide)]
  ·rw[if_neg E]
 rw[F];generalize nK x c cuts ds=L at *;simp only[go_sem];refine aH (adH L dual Y hl hs) ?_;have O:=Ha (ns:=L) (xs:=dual);generalize lE L dual=T at *;obtain⟨t,e⟩:=T;simp only[go_sem];refine aA (fun X=>?_) (fun X=>?_)
 ·have J:e≠0:=by simpa using X
  rw[if_pos J];simp only[go_sem];exact .refl _
 have J:e=0:=by simpa using X
 rw[if_neg (by simpa using J)];have Z:=nS (O J);simp only[go_sem];refine aH (Dd c.price I.1 I.2) ?_;simp only[go_sem];have hz:=Iv I.1 I.2;refine aH (B7 (zed c.price) t (by omega) (by simp only at Z;omega)) ?_;simp only[go_sem];exact .refl _
end Nu
namespace Nu.Ps
open Go.Proofs.Tryz
open Go.Nu Go.So
open Dec (nZ eF fL eH uX mM)
open Sq (EvalB BestQ tX nN cD arM RL)
structure PrOk(x:Instance)(d:Nat):Prop where
 ev:EvalB x
 n8:x.orders.length<=8
 ty:x.types.length<=1000
 lo:LoadsOk x d
 ne:x.types≠[]
def inD(ds:List Decision)(c:Column):Bool:=ds.all fun d=>fL d c.set
def Vg(ds:List Decision)(c:Column)(E:ds.length<=1048576):PC prog 39 [.agg (aS c),.rp [.sl (ds.map aT)] 0] (boo (!inD ds c)):=by refine pcd func39 rfl rfl ?_;simp only[go_sem];refine aH (Dec.aiI ds c E) ?_;simp only[go_sem];exact .refl _
def dI(x:Instance)(ds:List Decision):List Column×Int:=if(nZ x ds != 0)=true then([],nZ x ds)else((tX x).filter (inD ds),0)
def MJ(x:Instance)(d:Nat)(ds:List Decision)(h:PrOk x d)(Y:ds.length<=1048576):
  NC prog 16 [.agg (aD x),.sl (ds.map aT)] (cD (dI x ds).1) (fun j=>.tup [.os j,int (dI x ds).2]):=by
 refine ncb (fun t=>t == 4) func16 rfl rfl ?_;simp only[go_sem];unfold dI;refine fI fun j E I (R:E j=some (cD [])) N=>?_
 clear N I;simp only[go_sem];refine aH (Dec.arD x ds Y) ?_;simp only[go_sem];apply aA <;> intro J
 ·rw[if_pos J];simp only[go_sem];refine fI fun j E I (R:E j=some (cD [])) N=>?_
  clear N I;simp only[go_sem];exact⟨j,rfl,R⟩
 rw[if_neg (by rw[J];simp)];simp only[go_sem];refine NC.use (arM x h.ev h.n8 h.ty) fun O ab=>?_
 have R1:aM E O (some (cD (tX x))) O=some (cD (tX x)):=aB _ _ _;generalize aM E O (some (cD (tX x)))=H1 at *;have F:=Sq.vB x x.types.length;have h8:2^x.orders.length<=256:=Xal (Xau (by decide) h.n8) (by decide);have X:x.types.length*2^x.orders.length<=256000:=Xal (Nat.mul_le_mul h.ty h8) (by decide);have F:(tX x).length<=256000:=Xal F X;have T:aE prog 39=true:=by kernel_rfl
 simp only[go_sem];refine aA (fun J=>(by cases J)) (fun _=>?_);simp only[go_sem];refine RL (p:=fun c=> !inD ds c) (cap':=[.rp [.sl (ds.map aT)] 0]) (tX x) _ O R1 (by omega) T (fun v _=>Vg ds v Y) (fun H' h'=>ConvL.refl _) fun j2 H2 aa ac Z=>?_
 simp only[go_sem];refine⟨j2,rfl,?_⟩;rw[Z];simp only[Bool.not_not]
def nT(x:Instance)(d:Nat)(cuts:List Cut)(ds:List Decision)(dual:List ByteArray):Int:=
 if(nZ x ds != 0)=true then nZ x ds
 else if Dec.gZ (cuts.map (pW x d))≠0 then Dec.gZ (cuts.map (pW x d))
 else if((dual.length:Int) != (RJ x cuts ds:Nat))=true then 2 else 0
def Bu{x:Instance}{d:Nat}{cuts:List Cut}{ds:List Decision}{dual:List ByteArray}(h:nT x d cuts ds dual=0):∀q∈cuts,pW x d q=0:=by
 unfold nT at h;split at h
 next E=>rw[h]at E;cases E
 split at h
 next E=>exact absurd h E
 next E=>exact fun q F=>Dec.xY (Decidable.not_not.1 E) _ (Xbe.2 ⟨q,F,rfl⟩)
def TG(x:Instance)(d:Nat)(cuts:List Cut)(ds:List Decision)(dual:List ByteArray)(h:PrOk x d)(hm:MIn x cuts ds):
  PC prog 17 [.agg (aD x),.sl (cuts.map dS),.sl (ds.map aT),.sl (dual.map Go.Aw.D.fJ)] (int (nT x d cuts ds dual)):=by
 have h3:=hm.cl;have h4:=hm.dl;unfold nT;refine pcd func17 rfl rfl ?_;simp only[go_sem];refine aH (Dec.arD x ds h4) ?_;simp only[go_sem];apply aA <;> intro I
 ·rw[if_pos I];simp only[go_sem];exact .refl _
 rw[if_neg (by rw[I];simp)];simp only[go_sem,Xab];refine⟨fun ρ H=>∃(k:Nat),k<=cuts.length/\ρ 1=.sl (cuts.map dS)/\ρ 2=.sl (ds.map aT)/\ρ 3=.sl (dual.map Go.Aw.D.fJ)/\ρ 4=.rp (aD x) 0/\ρ 19=.sl (cuts.map dS)/\ρ 20=int (cuts.length:Nat)/\ρ 21=int k/\(∀e∈(cuts.map (pW x d)).take k,e=0),fun ρ _=>cuts.length-aR (ρ 21),⟨0,Xaa _,rfl,rfl,rfl,rfl,rfl,rfl,(by simp only[go_sem];rfl),by simp⟩,?_⟩;rintro ρ H ⟨k,hk,e1,e2,e3,e4,Z,Y,J,hz⟩;simp only[go_sem,Y,J];refine aA (fun E=>?_) (fun O=>?_)
 ·have E:=ltB (by simpa using E);obtain⟨q,hq⟩:=aK E;have b1:=inB E;have X:(cuts.map (pW x d))[k]?=some (pW x d q):=by rw[List.getElem?_map,hq];rfl
  simp only[go_sem,Z,J,aC hq,b1];refine aN fun ab F=>?_
  simp only[go_sem,];refine cJ F (by simp[Ab]) fun T (aa:T ab=some (⟨102,3,[dS q]⟩)) N=>?_
  clear N F;simp only[go_sem,e4,aa];refine aH (agK x d q h.lo h.ne) ?_;simp only[go_sem,];apply aA <;> intro I
  ·have he:=Dec.oF hz X I;rw[if_pos (by rw[he];simpa using I),he];simp only[go_sem];exact .refl _
  ·simp only[go_sem,e1,e2,e3,e4,Z,Y,J,aQ k];exact⟨⟨k+1,E,rfl,gS (p:=fun e:Int=>e=0) X (by simpa using I) hz⟩,msr E⟩
 have O:=geB hk (by simpa using O);subst O;rw[Xan (by rw[Xab];exact Xaf _)]at hz;rw[if_neg (by rw[Dec.mS hz];simp)];simp only[go_sem,e1,e2,e3,e4,Xab];refine aH (aoL x cuts ds hm) ?_;simp only[go_sem,];apply aA <;> intro I
 ·rw[if_pos I];simp only[go_sem];exact .refl _
 ·rw[if_neg (by rw[I];simp)];simp only[go_sem];exact .refl _
end Nu.Ps
namespace Nu.Ps
open Go.Proofs.Tryz
open Go.Nu Go.So
open Dec (nZ eF fL eH uX mM)
open Sq (EvalB BestQ tX nN cD fH)
def agA(x:Instance)(r:Route): -9223372036854775808<=(fH x r).1/\(fH x r).1<=9223372036854775807:=by
 unfold fH;split
 ·show -9223372036854775808<=(0:Int)/\(0:Int)<=9223372036854775807;omega
 ·unfold Sq.oM;split
  ·exact⟨by decide,by decide⟩
  ·split
   ·exact⟨by decide,by decide⟩
   ·exact Rx.acR _
structure ColQ(x:Instance)(c:Column):Prop where
 b:ColB c
 price: -9223372036854775808<=c.price/\c.price<=9223372036854775807
def On{x:Instance}{c:Column}(E:x.orders.length<=8)(h:c∈tX x):ColQ x c:=by
 obtain⟨k,s,h⟩:=nN E h;obtain⟨l,F,_,_,_⟩:=h.is;have h1:=h.pos;have J:=h.top;have I:(2:Int)^x.orders.length<=256:=by
  have:2^x.orders.length<=256:=Xal (Xau (by decide) E) (by decide)
  exact_mod_cast this
 rw[F];exact⟨⟨by show 0<=(s:Int)/\(s:Int)<=9223372036854775807;omega⟩,agA _ _⟩
def Ai{x:Instance}{ds:List Decision}{c:Column}(h:c∈(dI x ds).1):c∈tX x/\inD ds c=true:=by
 unfold dI at h;split at h
 ·cases h
 ·exact⟨(List.mem_filter.1 h).1,(List.mem_filter.1 h).2⟩
def zV(x:Instance)(ds:List Decision)(I:x.orders.length<=8)(O:x.types.length<=1000):(dI x ds).1.length<=256000:=by
 have E:=Sq.vB x x.types.length;have J:2^x.orders.length<=256:=Xal (Xau (by decide) I) (by decide);have F:x.types.length*2^x.orders.length<=256000:=Xal (Nat.mul_le_mul O J) (by decide);have E:(tX x).length<=256000:=Xal E F;unfold dI;split
 ·exact Xaa _
 ·exact Xal (Xcn _ _) E
def Ci(a b:Priced)(F:a.reduced.size<=1048576)(E:b.reduced.size<=1048576):PC prog 20 [.agg (bH a),.agg (bH b)] (int (Hz a.reduced b.reduced)):=by refine pcd func20 rfl rfl ?_;simp only[go_sem];refine aH (Ae a.reduced b.reduced F E) ?_;simp only[go_sem];exact .refl _
def lS(x:Instance)(cuts:List Cut)(ds:List Decision)(dual:List ByteArray):List Priced×Int:=
 if((dI x ds).2 != 0)=true then([],(dI x ds).2)
 else if Dec.gZ ((dI x ds).1.map fun c=>(cM x c cuts ds dual).2)≠0 then([],Dec.gZ ((dI x ds).1.map fun c=>(cM x c cuts ds dual).2))
 else((dI x ds).1.map fun c=>⟨c,(cM x c cuts ds dual).1⟩,0)
def asW(l:List Priced)(p:Priced):(⟨64,8,l.map bH++[bH p]⟩:Row)=fS (l++[p]):=by show _=(⟨64,8,(l++[p]).map bH⟩:Row);rw[Xam];rfl
def ajM(x:Instance)(d:Nat)(cuts:List Cut)(ds:List Decision)(dual:List ByteArray)(h:PrOk x d)(hm:MIn x cuts ds)(hq:CutsB cuts)(hl:dual.length<=1048576)(hs:∀s∈dual,s.size<=1048576):
  NC prog 18 [.agg (aD x),.sl (cuts.map dS),.sl (ds.map aT),.sl (dual.map Go.Aw.D.fJ)] (fS (lS x cuts ds dual).1) (fun j=>.tup [.os j,int (lS x cuts ds dual).2]):=by
 have ad:=zV x ds h.n8 h.ty;have ac:∀c∈(dI x ds).1,ColQ x c:=fun c hc=>On h.n8 (Ai hc).1
 have I:lS x cuts ds dual=(if((dI x ds).2 != 0)=true then([],(dI x ds).2)
  else if Dec.gZ ((dI x ds).1.map fun c=>(cM x c cuts ds dual).2)≠0 then([],Dec.gZ ((dI x ds).1.map fun c=>(cM x c cuts ds dual).2))
  else((dI x ds).1.map fun c=>⟨c,(cM x c cuts ds dual).1⟩,0)):=rfl
 refine ncb (fun t=>t == 8) func18 rfl rfl ?_;simp only[go_sem];generalize lS x cuts ds dual=RP at *;refine fI fun j E T (R:E j=some (fS [])) N=>?_
 simp only[go_sem];refine aH (Sq.NC.pc2 (MJ x d ds h hm.dl)) ?_;generalize dI x ds=A at *;obtain⟨A,e⟩:=A;simp only at ad ac I;simp only[go_sem];refine aA (fun J=>?_) (fun J=>?_)
 ·rw[if_pos J]at I;simp only[go_sem];refine fI fun j E T (R:E j=some (fS [])) N=>?_
  simp only[go_sem];rw[I];exact⟨j,rfl,R⟩
 rw[if_neg (by rw[J];simp)]at I;simp only[go_sem,Xab];refine⟨by omega,?_⟩;refine fI fun j E T (R:E j=some (fS [])) N=>?_
 simp only[go_sem];refine⟨fun ρ H=>∃(k:Nat) (j:Nat),k<=A.length/\ρ 1=.sl (cuts.map dS)/\ρ 2=.sl (ds.map aT)/\ρ 3=.sl (dual.map Go.Aw.D.fJ)/\ρ 4=.rp (aD x) 0/\ρ 29=.sl (A.map aS)/\ρ 30=int (A.length:Nat)/\ρ 31=int k/\ρ 12=.os j/\H j=some (fS ((A.take k).map fun c=>⟨c,(cM x c cuts ds dual).1⟩))/\(∀e∈(A.map fun c=>(cM x c cuts ds dual).2).take k,e=0),fun ρ _=>A.length-aR (ρ 31),⟨0,j,Xaa _,rfl,rfl,rfl,rfl,rfl,rfl,(by simp only[go_sem];rfl),rfl,R,by simp⟩,?_⟩;rintro ρ H ⟨k,j,hk,e1,e2,e3,e4,ab,ah,Z,ag,R,hz⟩;simp only[go_sem,ah,Z];refine aA (fun F=>?_) (fun O=>?_)
 ·have F:=ltB (by simpa using F);obtain⟨c,hc⟩:=aK F;have b1:=inB F;have ai:=ac c (Xac hc);have af:(A.map fun c=>(cM x c cuts ds dual).2)[k]?=some (cM x c cuts ds dual).2:=by rw[List.getElem?_map,hc];rfl
  have aj:((A.take (k+1)).map fun c=>(⟨c,(cM x c cuts ds dual).1⟩:Priced))=((A.take k).map fun c=>⟨c,(cM x c cuts ds dual).1⟩)++[⟨c,(cM x c cuts ds dual).1⟩]:=by rw[bA hc,Xam];rfl
  have al:((A.take k).map fun c=>(⟨c,(cM x c cuts ds dual).1⟩:Priced)).length<=A.length:=by rw[Xab,Xap];omega
  generalize ((A.take k).map fun c=>(⟨c,(cM x c cuts ds dual).1⟩:Priced))=L at *;simp only[go_sem,ab,Z,aC hc,b1];refine aN fun ak Y=>?_
  simp only[go_sem,];refine cJ Y (by simp[cP]) fun X (ae:X ak=some (cD [c])) N=>?_
  replace R:=N R;obtain⟨aa,R⟩:=R;simp only[go_sem,e1,e2,e3,e4,ae];refine aH (Vy x c cuts ds dual hm ai.b hq ai.price hl hs) ?_;simp only[go_sem,];refine aA (fun J=>?_) (fun J=>?_)
  ·have he:=Dec.oF hz af J;rw[if_pos (by rw[he];simpa using J),he]at I;simp only[go_sem];refine fI fun j E T (R:E j=some (fS [])) N=>?_
   simp only[go_sem];rw[I];exact⟨j,rfl,R⟩
  ·simp only[go_sem,ag,ae];refine Sq.Kh (a:=bH ⟨c,(cM x c cuts ds dual).1⟩) rfl ⟨dW _,?_⟩;refine aY R ⟨rfl,rfl⟩ (by simp only[go_sem]) (by simp;omega) (fun j2 am=>?_);simp only[go_sem,e1,e2,e3,e4,ab,ah,Z,aQ k];refine⟨⟨k+1,j2,F,rfl,rfl,?_,gS (p:=fun e:Int=>e=0) af (by simpa using J) hz⟩,by simp only[aL];omega⟩;rw[aj,aB];exact congrArg some (asW _ _)
 have O:=geB hk (by simpa using O);subst O;rw[Xan (by rw[Xab];exact Xaf _)]at hz;rw[if_neg (by rw[Dec.mS hz];simp)]at I;rw[Xad]at R;simp only[go_sem,ag];rw[I];exact⟨j,rfl,R⟩
def okP(p:Priced):Prop:=bV p.reduced=true
def tV{p:Priced}(h:okP p):p.reduced.size<=1048576:=Xal (nS h) (by decide)
def avP{a b:ByteArray}(I:bV a=true)(F:bV b=true):Hz a b<0↔oK a<oK b:=by
 unfold Hz PE;rw[I,F,Bool.and_self,if_pos rfl];split
 next h=>exact⟨fun _=>h,fun _=>by decide⟩
 next h=>
  split
  ·exact⟨fun E=>absurd E (by decide),fun E=>absurd E h⟩
  ·exact⟨fun E=>absurd E (by decide),fun E=>absurd E h⟩
def Cp{a b:Priced}(F:okP a)(E:okP b):decide (Hz a.reduced b.reduced<0)=ltP a b:=by unfold ltP;rw[decide_eq_decide];exact avP F E
def atK:CmpOk 20 ltP okP:=⟨by kernel_rfl,fun x y E F=>⟨_,Cp E F,Ci x y (tV E) (tV F)⟩⟩
def Dy:∀(l:List Priced) (m:Priced),At m l=l.foldl (fun m p=>if ltP p m=true then p else m) m
 | [],m=>rfl
 | p::l,m=>Dy l _
def Zn{l:List Priced}{p q:Priced}{k:Nat}(h:l[k]?=some q):At p (l.take (k+1))=if ltP q (At p (l.take k))=true then q else At p (l.take k):=by rw[Dy,Dy,Sq.jX h]
def apS{p:Priced}{l:List Priced}(h:∀q∈p::l,okP q):okP (At p l):=h _ (PK l p)
def Zv(p:Priced)(l:List Priced)(hl:l.length<=1048576)(hr:∀q∈p::l,okP q):
  PC prog 19 [.sl ((p::l).map bH),qW 20] (.agg (bH (At p l))):=by
 have ai:aE prog 20=true:=by kernel_rfl
 refine pcd func19 rfl rfl ?_;simp only[go_sem];refine fI fun X aa ae (I:aa X=some (fS [⟨Sq.cO,ByteArray.empty⟩])) N=>?_
 clear N ae;simp only[go_sem];refine aA (fun hb=>absurd (of_decide_eq_true hb) (by omega)) (fun _=>?_);have g0:((p::l).map bH).getD 0 []=bH p:=rfl;simp only[go_sem,Xab,Xai];refine⟨by omega,?_⟩;refine aN fun J O=>?_
 simp only[go_sem];refine cJ O (by simp[dW]) fun ad (T:ad J=some (fS [p])) N=>?_
 replace I:=N I;obtain⟨E,I⟩:=I;clear N O;simp only[go_sem];refine⟨fun ρ H=>∃k:Nat,k<=l.length/\ρ 0=.sl ((p::l).map bH)/\ρ 1=qW 20/\ρ 4=.op X 0 0/\ρ 5=.op J 0 0/\ρ 6=int (k+1:Nat)/\H X=some (fS [⟨Sq.cO,ByteArray.empty⟩])/\H J=some (fS [At p (l.take k)]),fun ρ _=>l.length+1-aR (ρ 6),⟨0,Xaa _,rfl,rfl,rfl,rfl,(by simp only[go_sem];rfl),I,T⟩,?_⟩;rintro ρ H ⟨k,hk,e0,e1,e4,e5,e6,I,T⟩;simp only[go_sem,e0,e6,Xab,Xai];refine aA (fun F=>?_) (fun Y=>?_)
 ·have F:k<l.length:=by have:=of_decide_eq_true F;omega
  obtain⟨q,hq⟩:=aK F;have al:(p::l)[k+1]?=some q:=by simpa using hq
  have g1:=aC (f:=bH) hq;have b1:(0:Int)<=((k+1:Nat):Int)/\((k+1:Nat):Int)<((l.length+1:Nat):Int):=by omega
  have hm:=Zn (p:=p) hq;have ac:okP q:=hr q (List.mem_cons_of_mem _ (Xac hq));have ab:okP (At p (l.take k)):=apS fun z hz=>by
   rcases Xbc.1 hz with rfl|hz
   ·exact hr _ (Xcq ..)
   ·exact hr z (List.mem_cons_of_mem _ (Xco hz))
  generalize At p (l.take k)=M at *;simp only[go_sem];refine fV [J] [(0,true),(1,true),(2,true),(3,true),(4,true),(5,true),(6,false),(7,true)] (by simp[T]) (by kernel_rfl) fun Hp Hr hp hr _ ak=>?_
  have af:=(hp J (by simp)).trans T;simp only[go_sem,e0,e1,e5,e6,g1,b1,ai,Xab,Xai,af];have ag:=Ci q M (tV ac) (tV ab);have hd:=Cp ac ab;refine aH ag ?_;simp only[go_sem];refine qJ hr ?_;simp only[go_sem];apply aA <;> intro Z
  ·have Z:ltP q M=true:=hd.symm.trans Z;rw[if_pos Z]at hm;simp only[go_sem,e0,e5,e6,g1,b1,Xab,Xai];have ne:X≠J:=E;refine aI T (by simp[dW]) ?_;have ah:aM H J (some (⟨64,8,[bH q++List.drop 8 (bH M)]⟩:Row)) J=some (fS [q]):=by rw[aB,rB,Xah];rfl
   have aj:aM H J (some (⟨64,8,[bH q++List.drop 8 (bH M)]⟩:Row)) X=some (fS [⟨Sq.cO,ByteArray.empty⟩]):=(aJ _ _ _ _ ne).trans I;simp only[go_sem,e0,e1,e4,e5,e6,mC (show k+1<=4611686018427387904 by omega)];exact⟨⟨k+1,F,rfl,aj,by rw[hm];exact(aB _ _ _).symm.trans ah⟩,by simp only[aL];omega⟩
  ·have Z:ltP q M=false:=hd.symm.trans Z;rw[if_neg (by rw[Z];simp)]at hm;simp only[go_sem,e0,e1,e4,e5,e6,mC (show k+1<=4611686018427387904 by omega)];exact⟨⟨k+1,F,rfl,I,by rw[hm];exact T⟩,by simp only[aL];omega⟩
 ·have Y:k=l.length:=by have:=of_decide_eq_false Y;omega
  subst Y;rw[Xad]at T;simp only[go_sem,e4,e5,T];refine aI I (by simp[dW]) ?_;generalize hP:aM _ X _=HP;replace I:HP X=some (fS [At p l]):=upS hP;clear hP;simp only[go_sem,e4,I];exact .refl _
def QS{x:Instance}{c:Column}{cuts:List Cut}{ds:List Decision}{dual:List ByteArray}(h:(cM x c cuts ds dual).2=0):bV (cM x c cuts ds dual).1=true:=by
 unfold cM at h |-;split at h
 ·exact absurd h (by decide)
 split at h
 next h1 h2=>exact absurd h h2
 next h1 h2=>
 rw[if_neg h1,if_neg h2];exact Vj h
def XZ{x:Instance}{cuts:List Cut}{ds:List Decision}{dual:List ByteArray}{p:Priced}(h:p∈(lS x cuts ds dual).1):p.column∈(dI x ds).1/\p.reduced=(cM x p.column cuts ds dual).1/\(cM x p.column cuts ds dual).2=0:=by
 unfold lS at h;split at h
 ·cases h
 split at h
 ·cases h
 next h1 h2=>
 obtain⟨c,E,rfl⟩:=Xbe.1 h;exact⟨E,rfl,Dec.xY (Decidable.not_not.1 h2) _ (Xbe.2 ⟨c,E,rfl⟩)⟩
def Ef{x:Instance}{cuts:List Cut}{ds:List Decision}{dual:List ByteArray}{p:Priced}(h:p∈(lS x cuts ds dual).1):okP p:=by obtain⟨_,h1,E⟩:=XZ h;show bV p.reduced=true;rw[h1];exact QS E
def EY(x:Instance)(cuts:List Cut)(ds:List Decision)(dual:List ByteArray)(E:x.orders.length<=8)(F:x.types.length<=1000):(lS x cuts ds dual).1.length<=256000:=by
 unfold lS;split
 ·exact Xaa _
 split
 ·exact Xaa _
 ·rw[Xab];exact zV x ds E F
def Gx(x:Instance)(d:Nat)(cuts:List Cut)(ds:List Decision)(dual:List ByteArray):Column×ByteArray×Int:=
 if(nT x d cuts ds dual != 0)=true then(Sq.cO,emp,nT x d cuts ds dual)
 else if((lS x cuts ds dual).2 != 0)=true then(Sq.cO,emp,(lS x cuts ds dual).2)
 else match (lS x cuts ds dual).1 with
 | []=>(Sq.cO,emp,24)
 | p::l=>((At p l).column,(At p l).reduced,0)
def VF(x:Instance)(d:Nat)(cuts:List Cut)(ds:List Decision)(dual:List ByteArray):Prop:=PC prog 17 [.agg (aD x),.sl (cuts.map dS),.sl (ds.map aT),.sl (dual.map Go.Aw.D.fJ)] (int (nT x d cuts ds dual))
def amU(x:Instance)(d:Nat)(cuts:List Cut)(ds:List Decision)(dual:List ByteArray)(h:PrOk x d)(hm:MIn x cuts ds)(hq:∀q∈cuts,q.set<=9223372036854775807)(hl:dual.length<=1048576)(hs:∀s∈dual,s.size<=1048576)(hW:VF x d cuts ds dual):
  PC prog 7 [.agg (aD x),.sl (cuts.map dS),.sl (ds.map aT),.sl (dual.map Go.Aw.D.fJ)] (.tup [.agg (aS (Gx x d cuts ds dual).1),str (Gx x d cuts ds dual).2.1,int (Gx x d cuts ds dual).2.2]):=by
 have F:Gx x d cuts ds dual=(if(nT x d cuts ds dual != 0)=true then(Sq.cO,emp,nT x d cuts ds dual)
  else if((lS x cuts ds dual).2 != 0)=true then(Sq.cO,emp,(lS x cuts ds dual).2)
  else match (lS x cuts ds dual).1 with
  | []=>(Sq.cO,emp,24)
  | p::l=>((At p l).column,(At p l).reduced,0)):=rfl
 generalize Gx x d cuts ds dual=RP at *;refine pcd func7 rfl rfl ?_;simp only[go_sem];refine fI fun T af ae (I:af T=some (cD [Sq.cO])) N=>?_
 clear N ae;simp only[go_sem];refine aH hW ?_;simp only[go_sem];apply aA <;> intro O
 ·rw[if_pos O]at F;simp only[go_sem];refine aI I (by simp only[go_sem]) ?_;generalize F:aM _ T _=HP;replace I:HP T=some (cD [Sq.cO]):=upS F;clear F;simp only[go_sem,I];rw[F];exact .refl _
 rw[if_neg (by rw[O];simp)]at F;have ai:CutsB cuts:=⟨fun q ag=>⟨Dw (Bu (by simpa using O) q ag),hq q ag⟩⟩;have ab:∀p∈(lS x cuts ds dual).1,okP p:=fun p hp=>Ef hp
 have X:=EY x cuts ds dual h.n8 h.ty;simp only[go_sem];refine aH (Sq.NC.pc2 (ajM x d cuts ds dual h hm ai hl hs)) ?_;generalize lS x cuts ds dual=A at *;obtain⟨A,e⟩:=A;simp only at F ab X;simp only[go_sem];apply aA <;> intro O
 ·rw[if_pos O]at F;simp only[go_sem];refine aI I (by simp only[go_sem]) ?_;generalize F:aM _ T _=HP;replace I:HP T=some (cD [Sq.cO]):=upS F;clear F;simp only[go_sem,I];rw[F];exact .refl _
 rw[if_neg (by rw[O];simp)]at F;simp only[go_sem,Xab];apply aA <;> intro O
 ·have h0:A.length=0:=by simpa using O
  obtain rfl:=Xbp.1 h0;simp only[go_sem];refine aI I (by simp only[go_sem]) ?_;generalize F:aM _ T _=HP;replace I:HP T=some (cD [Sq.cO]):=upS F;clear F;simp only[go_sem,I];rw[F];exact .refl _
 have h0:A.length≠0:=by simpa using O
 obtain⟨p,l,rfl⟩:∃p l,A=p::l:=by
  cases A with
  | nil=>exact absurd rfl h0
  | cons p l=>exact⟨p,l,rfl⟩
 simp only at F;have ah:=Zv p l (by simp at X;omega) ab;generalize At p l=M at *;simp only[go_sem];refine aH ah ?_;simp only[go_sem];refine aN fun aa J=>?_
 simp only[go_sem];refine cJ J (by simp[dW]) fun Y (ad:Y aa=some (fS [M])) N=>?_
 replace I:=N I;obtain⟨E,I⟩:=I;clear N J;simp only[go_sem];refine fV [aa] [(0,true),(1,true),(2,true),(3,true),(4,false),(5,true),(6,true)] (by simp[ad]) (by kernel_rfl) fun Hp Hr hp hr _ aj=>?_
 have Z:=(hp aa (by simp)).trans ad;have ac:=(hr T (by simp[E])).trans I;simp only[go_sem,Z];refine aI ac (by simp[cP]) ?_;simp only[go_sem];refine sW hr (by simpa using E) ?_;simp only[go_sem,aB];rw[F];exact .refl _
end Nu.Ps
end Go.Proofs.YtpagaknmdfgfkaaGreatDoor
