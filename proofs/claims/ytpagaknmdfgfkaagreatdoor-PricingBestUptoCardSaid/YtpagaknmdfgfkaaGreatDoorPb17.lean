import Derived.Test.YtpagaknmdfgfkaaGreatDoorPb15
import Derived.Test.YtpagaknmdfgfkaaGreatDoorPb16
set_option linter.unusedSimpArgs false
set_option linter.unusedVariables false
set_option linter.defProp false
set_option maxRecDepth 100000
namespace Go.Proofs.YtpagaknmdfgfkaaGreatDoor
open Go.Aw Go.Aw.D Go.Proofs Ty
namespace Sq
open Go.Proofs.Tryz
open Go.Proofs.YtpagaknmdfgfkaaGreatDoor.Nu (ltB geB)
open Mv (bO bR aO)
def atN(s:Score):Int:=IntKind.i64.wrap (IntKind.i64.wrap (IntKind.i64.wrap (IntKind.i64.wrap (IntKind.i64.wrap (IntKind.i64.wrap (s.cost*16)+s.moved)*16)+s.other)*65536)+s.work)
def nF(s:Score):Int×Int:=if(decide (s.cost<0)||decide (s.moved<0)||decide (s.other<0)||decide (s.work<0))=true then(0,2)
 else if(decide (s.cost>1073741824)||decide (s.moved>=16)||decide (s.other>=16)||decide (s.work>=65536))=true then(0,4)else(atN s,0)
def akQ(s:Score):PC prog 263 [.agg (cH s)] (.agg (cH s)):=by
 refine pcd func263 rfl rfl ?_;simp only[go_sem];refine aL fun j E=>?_
 simp only[go_sem];refine aI (aB _ _ _) (by simp) ?_;simp only[go_sem];exact .refl _
def YV(s:Score):PC prog 225 [.agg (cH s)] (.tup [int (nF s).1,int (nF s).2]):=by
 refine pcd func225 rfl rfl ?_;simp only[go_sem];refine aG (akQ s) ?_;simp only[go_sem];refine aL fun j X=>?_
 simp only[go_sem];refine cJ X (by simp[kU]) fun Y (R:Y j=some (⟨289,4,[cH s]⟩)) N=>?_
 simp only[go_sem,R];refine⟨fun ρ H=>∃(k:Nat),k<=4/\ρ 1=.rp (cH s) 0/\ρ 9=.agg (cH s)/\ρ 10=int k/\(∀e∈[s.cost,s.moved,s.other,s.work].take k,¬e<0),fun ρ _=>4-aR (ρ 10),⟨0,Xaa _,rfl,rfl,(by simp only[go_sem];rfl),by simp⟩,?_⟩;rintro ρ H ⟨k,hk,U,Z,F,J⟩;simp only[go_sem,F];refine aA (fun E=>?_) (fun I=>?_)
 ·have E:k<4:=by simp at E;omega
  obtain⟨e,V⟩:=aK (l:=[s.cost,s.moved,s.other,s.work]) (show k<[s.cost,s.moved,s.other,s.work].length from E);have hg:(cH s).getD k .any=int e:=by
   have:cH s=[s.cost,s.moved,s.other,s.work].map fun n=>int n:=rfl
   rw[this,List.getD,List.getElem?_map,V];rfl
  simp only[go_sem,Z,F];refine⟨by omega,by omega,?_⟩;rw[Nat.mul_one,hg];simp only[go_sem];apply aA <;> intro O
  ·simp only[go_sem];have hm:=Xac V;simp only[Xbg,List.not_mem_nil,or_false]at hm;have e:nF s=(0,2):=if_pos (by simp at O |-;rcases hm with h|h|h|h <;> omega);rw[e];exact .refl _
  ·simp only[go_sem,U,Z,F,aQ k];refine⟨⟨k+1,E,rfl,aO (p:=fun e:Int=>¬e<0) V (by simpa using O) J⟩,msr E⟩
 have I:k=4:=by simp at I;omega
 subst I;have O:¬(decide (s.cost<0)||decide (s.moved<0)||decide (s.other<0)||decide (s.work<0))=true:=by have h0:=J s.cost (by simp);have h1:=J s.moved (by simp);have h2:=J s.other (by simp);have h3:=J s.work (by simp);simp;omega
 unfold nF;rw[if_neg O];simp only[go_sem,U,];apply aA <;> intro hc
 ·rw[if_pos hc];simp only[go_sem];exact .refl _
 rw[if_neg (by rw[hc];simp)];simp only[go_sem,U,];exact .refl _
def fD(x:Instance)(r:Route):Int×Int:=if((kM x r).2.2 != 0)=true then(0,(kM x r).2.2)else nF (kM x r).2.1
def afJ(x:Instance)(r:Route)(hx:EvalB x)(hr:r.visits.length<=1048575):PC prog 173 [.agg (aC x),.agg (bT r)] (.tup [int (fD x r).1,int (fD x r).2]):=by
 have hw:=YV (kM x r).2.1;refine pcd func173 rfl rfl ?_;simp only[go_sem];refine aG (T6 x r hx hr) ?_;simp only[go_sem];refine fO fun V J aa (F:J V=some (dE (bP aX))) N=>?_
 simp only[go_sem];refine fO fun X O Y (U:O X=some (oB cQ)) N=>?_
 replace F:=N F;obtain⟨E,F⟩:=F;simp only[go_sem];refine aI F (by simp[iQ]) ?_;generalize I:aM _ V _=HP;replace U:=kpA I (by first|exact ne_i7_i6|exact E.symm) U;replace F:HP V=some (dE (bP (kM x r).1)):=upS I;simp only[go_sem];refine aI U (by simp[kU]) ?_;generalize I:aM _ X _=HP;replace F:=kpA I (by first|exact E|exact ne_i7_i6.symm) F;replace U:HP X=some (oB (kM x r).2.1):=upS I;simp only[go_sem];unfold fD;apply aA <;> intro Z
 ·rw[if_pos Z];simp only[go_sem];exact .refl _
 ·rw[if_neg (by rw[Z];simp)];simp only[go_sem,U];refine aG hw ?_;simp only[go_sem];exact .refl _
structure Sta where
 ready:Int
 driven:Int
def iN(s:Sta):List AV:=[int s.ready,int s.driven]
def HS(c:Sta):(iN c).length=2:=(rfl)
def akC(c:Sta):(iN c).getD 0 .any=int c.ready:=(rfl)
def aiI(c:Sta):(iN c).getD 1 .any=int c.driven:=(rfl)
def VZ(c:Sta):(iN c).take 2=iN c:=(rfl)
attribute [go_sem] HS akC aiI VZ
abbrev pW(l:List Sta):Row:=⟨228,2,l.map iN⟩
def D4(s u:Sta):Bool:=s.ready == u.ready&&(s.driven == u.driven&&true)
def agN(l:List Sta)(v:Sta)(hl:l.length<=1048576):PC prog 271 [.sl (l.map iN),.agg (iN v)] (int (pM (D4 v) l 0)):=by
 refine pcd func271 rfl rfl ?_;simp only[go_sem];refine⟨fun ρ _=>∃k:Nat,k<=l.length/\ρ 0=.sl (l.map iN)/\ρ 3=.rp (iN v) 0/\ρ 7=int l.length/\ρ 8=int k/\∀u∈l.take k,D4 v u=false,fun ρ _=>l.length-aR (ρ 8),⟨0,Xaa _,rfl,rfl,rfl,rfl,by simp⟩,?_⟩;rintro ρ H ⟨k,Y,h0,X,V,U,J⟩;simp only[go_sem,V,U];refine aA (fun E=>?_) (fun F=>?_)
 ·have E:=aT E;obtain⟨u,O⟩:=aK E;have Z:=inB E;simp only[go_sem,U];refine dR ?_;simp only[go_sem,h0,X,aD O,Z];apply aA <;> intro I
  ·have I:D4 v u=true:=I;simp only[go_sem];exact bO (by rw[lW J O I];omega)
  ·have I:D4 v u=false:=I;simp only[go_sem,h0,X,V,U,aQ k];exact⟨⟨k+1,E,rfl,aO (p:=fun u=>D4 v u=false) O I J⟩,msr E⟩
 ·have F:=aV Y F;subst F;rw[Xad]at J;simp only[go_sem];exact bO (by rw[kS J])
def GI(l:List Sta)(v:Sta)(E:l.length<=1048576):PC prog 230 [.sl (l.map iN),.agg (iN v)] (boo (l.any (D4 v))):=by refine pcd func230 rfl rfl ?_;simp only[go_sem];refine aG (agN l v E) ?_;simp only[go_sem];exact bR (rK l 0 (Xbp _))
def wW(l:List Sta)(s:Sta):List Sta:=if l.any (D4 s)=true then l else l++[s]
def Fa(l:List Sta)(s:Sta):(wW l s).length<=l.length+1:=by unfold wW;split <;> simp
def afQ(l:List Visit)(E:l.length<=1048576):PC prog 179 [.sl (l.map aF)] (.cl (l.map aF)):=by refine pcd func179 rfl rfl ?_;simp only[go_sem];exact .refl _
def arO(s:Sta):NC prog 180 [.v (.slice none 0 0),.agg (iN s)] (pW [s]) .os:=by
 refine ncb (fun _=>false) func180 rfl rfl ?_;simp only[go_sem];refine bM.nil0 (PC.use (GI [] s (by decide)) ?_);simp only[go_sem];refine aA (fun E=>(by cases E)) (fun _=>?_);simp only[go_sem];refine akE aqA (.inl rfl) (by simp) (by simp only[go_sem]) (by simp) fun j F=>?_
 simp only[go_sem];exact⟨j,rfl,aB _ _ _⟩
abbrev aqL(j:Nat)(H:aH)(j':Nat)(H':aH):Prop:=∀k row,k≠j->H k=some row->k≠j'/\H' k=some row
def Uy(l:List Sta)(s:Sta){H:aH}{j:Nat}(R:H j=some (pW l))(X:l.length<=1000000){K:AV->aH->Prop}(U:∀I H',H' I=some (pW (wW l s))->aqL j H I H'->K (.os I) H'):
  bM prog 180 [.os j,.agg (iN s)] H K:=by
 refine bM.body (c:=f180.body.getD .skip) (fun _=>false) mixed func180 rfl (by kernel_rfl) ?_;unfold f180;simp only[Xbo];simp only[go_sem];refine fB.use ⟨[.sl (l.map iN),.agg (iN s)],.cons _ _ _ _ (.row _ _ _ R (ConvE.refl _)) (ConvL.refl _),GI l s (by omega),rfl⟩ ?_;simp only[go_sem];refine aA (fun J=>?_) (fun J=>?_)
 ·simp only[go_sem];refine U j H (by unfold wW;rw[if_pos J];exact R) fun k row F h=>⟨F,h⟩
 ·simp only[go_sem];refine aZ R ⟨rfl,rfl⟩ (by simp only[go_sem]) (by simp;omega) (fun V O=>?_);simp only[go_sem];refine U V _ ?_ fun k row F h=>?_
  ·rw[aB];unfold wW;rw[if_neg (by rw[J];simp)];refine congrArg (fun l=>some (⟨228,2,l⟩:Row)) ?_;rw[Xal];rfl
  ·have E:k≠V:=fun e=>by subst e;rw[O]at h;cases h
   exact⟨E,by rw[aJ _ _ _ _ E,aJ _ _ _ _ F];exact h⟩
structure Sr where
 x:Instance
 kind:Nat
 set:Int
 total:Nat
 best:Column
 found:Bool
def xA(s:Sr):List AV:=aC s.x++([int (s.kind:Nat),int s.set,int (s.total:Nat)]++(aU s.best++[boo s.found]))
section
variable(s:Sr)
def Mw:(xA s).length=17:=(rfl)
def amK:(xA s).getD 2 .any=.sl (s.x.types.map bF):=(rfl)
def akY:(xA s).getD 3 .any=.sl (s.x.orders.map bH):=(rfl)
def aoK:(xA s).getD 6 .any=int (s.kind:Nat):=(rfl)
def alI:(xA s).getD 7 .any=int s.set:=(rfl)
def aoD:(xA s).getD 8 .any=int (s.total:Nat):=(rfl)
def afM:(xA s).getD 16 .any=boo s.found:=(rfl)
def anH:(xA s).take 6=aC s.x:=(rfl)
def Zg:(xA s).take 2=bD s.x.net:=(rfl)
def Wt:((xA s).drop 9).take 7=aU s.best:=(rfl)
def YZ:(xA s).take 17=xA s:=(rfl)
end
attribute [go_sem] Mw amK akY aoK alI aoD afM anH Zg Wt YZ
abbrev mC(s:Sr):Row:=⟨174,17,[xA s]⟩
def mY(t:VType)(l:List Sta)(d dr:Int):List Sta:=wW (wW l ⟨d,dr⟩) ⟨W (d+t.rest),0⟩
def J2(t:VType)(l:List Sta)(d dr:Int):(mY t l d dr).length<=l.length+2:=by unfold mY;have h1:=Fa (wW l ⟨d,dr⟩) ⟨W (d+t.rest),0⟩;have E:=Fa l ⟨d,dr⟩;omega
def ajM(s:Sr)(t:VType)(l:List Sta)(d dr:Int){H:aH}{E j:Nat}(ht:s.x.types[s.kind]?=some t)(RS:H E=some (mC s))(R:H j=some (pW l))(hl:l.length<=900000){K:AV->aH->Prop}
  (hK:∀Y H',H' Y=some (pW (mY t l d dr))->aqL j H Y H'->K (.os Y) H'):bM prog 117 [.op E 0 0,.os j,int d,int dr] H K:=by
 have ac:E≠j:=fun e=>by subst e;rw[RS]at R;cases R
 have hk:=(List.getElem?_eq_some_iff.1 ht).1;have b1:=inB hk;have g1:=aD (f:=bF) ht;have h1:=Fa l ⟨d,dr⟩;refine bM.body (c:=f117.body.getD .skip) (fun _=>false) mixed func117 rfl (by kernel_rfl) ?_;unfold f117;simp only[Xbo];simp only[go_sem];refine Uy l ⟨d,dr⟩ R (by omega) fun j1 H1 R1 O=>?_
 obtain⟨n1,U⟩:=O E _ ac RS;simp only[go_sem];refine gU [E] [(0,true),(1,true),(2,true),(3,true),(4,true),(5,true),(6,true),(7,true),(8,true),(9,true),(10,true),(11,true),(12,true),(13,true),(14,true),(15,true),(16,false),(17,true)] (by simp[U]) (by kernel_rfl) fun Hp Hr hp hr _ ad=>?_
 have F:=(hp E (by simp)).trans U;simp only[go_sem,g1,b1,F];have aa:Hr j1=some (pW (wW l ⟨d,dr⟩)):=(hr j1 (by simpa using n1.symm)).trans R1;refine Uy (wW l ⟨d,dr⟩) ⟨W (d+t.rest),0⟩ aa (by omega) fun j2 H2 R2 X=>?_
 simp only[go_sem];refine fun h0 Hm Z I=>?_
 have J:j2≠E:=fun e=>by have:=h0 E (by simp);rw[<-e,R2]at this;cases this
 simp only[go_sem];refine hK j2 Hm ((I j2 (by simpa using J)).trans R2) fun k row ab V=>?_
 obtain⟨m1,m2⟩:=O k row ab V;by_cases e:k=E
 ·subst e;exact⟨J.symm,(Z k (by simp)).trans m2⟩
 ·obtain⟨m3,m4⟩:=X k row m1 ((hr k (by simpa using e)).trans m2);exact⟨m3,(I k (by simpa using e)).trans m4⟩
def aiS(s:Sr)(t:VType)(d dr:Int){H:aH}{E:Nat}(ht:s.x.types[s.kind]?=some t)(RS:H E=some (mC s)){K:AV->aH->Prop}
  (hK:∀Z H',H' Z=some (pW (mY t [] d dr))->(∀k row,H k=some row->k≠Z/\H' k=some row)->K (.os Z) H'):bM prog 117 [.op E 0 0,.v (.slice none 0 0),int d,int dr] H K:=by
 have hk:=(List.getElem?_eq_some_iff.1 ht).1;have b1:=inB hk;have g1:=aD (f:=bF) ht;refine bM.body (c:=f117.body.getD .skip) (fun _=>false) mixed func117 rfl (by kernel_rfl) ?_;unfold f117;simp only[Xbo];simp only[go_sem];refine NC.use (arO ⟨d,dr⟩) fun j1 U=>?_
 have n1:E≠j1:=fun e=>by rw[e,U]at RS;cases RS
 have O:aM H j1 (some (pW [⟨d,dr⟩])) E=some (mC s):=(aJ _ _ _ _ n1).trans RS;have R1:aM H j1 (some (pW [⟨d,dr⟩])) j1=some (pW [⟨d,dr⟩]):=aB _ _ _;have aa:∀k row,H k=some row->k≠j1/\aM H j1 (some (pW [⟨d,dr⟩])) k=some row:=fun k row h=>by
  have X:k≠j1:=fun e=>by rw[e,U]at h;cases h
  exact⟨X,(aJ _ _ _ _ X).trans h⟩
 generalize aM H j1 (some (pW [⟨d,dr⟩]))=H1 at *;simp only[go_sem];refine gU [E] [(0,true),(1,true),(2,true),(3,true),(4,true),(5,true),(6,true),(7,true),(8,true),(9,true),(10,true),(11,true),(12,true),(13,true),(14,true),(15,true),(16,false),(17,true)] (by simp[O]) (by kernel_rfl) fun Hp Hr hp hr _ ad=>?_
 have F:=(hp E (by simp)).trans O;simp only[go_sem,g1,b1,F];have ac:Hr j1=some (pW [⟨d,dr⟩]):=(hr j1 (by simpa using n1.symm)).trans R1;refine Uy [⟨d,dr⟩] ⟨W (d+t.rest),0⟩ ac (by simp) fun j2 H2 R2 Y=>?_
 simp only[go_sem];refine fun h0 Hm ab I=>?_
 have J:j2≠E:=fun e=>by have:=h0 E (by simp);rw[<-e,R2]at this;cases this
 simp only[go_sem];refine hK j2 Hm ((I j2 (by simpa using J)).trans R2) fun k row V=>?_
 obtain⟨m1,m2⟩:=aa k row V;by_cases e:k=E
 ·subst e;exact⟨J.symm,(ab k (by simp)).trans m2⟩
 ·obtain⟨m3,m4⟩:=Y k row m1 ((hr k (by simpa using e)).trans m2);exact⟨m3,(I k (by simpa using e)).trans m4⟩
def EC(n:Network)(t:VType)(src:Int)(st:Stop)(out:List Sta)(a:Sta):List Sta:=
 let g:=fP n t.profile src st.place a.ready
 if(g.2.2 != 0||decide (W (W (a.driven+g.1)-a.ready)>t.drive))=true then out
 else if((Rx.nH st g.1).2 != 0)=true then out
 else mY t out (Rx.nH st g.1).1 (W (W (a.driven+g.1)-a.ready))
def xP(n:Network)(t:VType)(src:Int)(st:Stop)(l:List Sta):List Sta:=l.foldl (EC n t src st) []
def afT(n:Network)(t:VType)(src:Int)(st:Stop)(out:List Sta)(a:Sta):(EC n t src st out a).length<=out.length+2:=by
 unfold EC;simp only;split
 ·omega
 ·split
  ·omega
  ·exact J2 _ _ _ _
def Dk(n:Network)(t:VType)(src:Int)(st:Stop)(l:List Sta):∀k,((l.take k).foldl (EC n t src st) []).length<=2*k
 | 0=>by simp
 | k+1=>by
  have h:=Dk n t src st l k;by_cases E:k<l.length
  ·obtain⟨c,F⟩:=aK E;rw[lH F];exact Xam (afT n t src st _ c) (by omega)
  ·rw[Xan (by omega)];rw[Xan (by omega)]at h;omega
def afN(H0:aH)(js:Nat)(s:Sr)(t:VType)(hj:H0 js=some (mC s))(ht:s.x.types[s.kind]?=some t)(src:Int)(l:List Sta)(st:Stop)(hn:NetOk s.x.net)(hl:l.length<=400000):
  LC prog 178 [.op js 0 0,int src,.sl (l.map iN),.agg (eN st)] H0 (.sl ((xP s.x.net t src st l).map iN)):=by
 have hk:=(List.getElem?_eq_some_iff.1 ht).1;have b1:=inB hk;have g1:=aD (f:=bF) ht;refine LC.body (c:=f178.body.getD .skip) (fun t=>t == 10) mixed func178 rfl (by kernel_rfl) ?_;unfold f178;simp only[Xbo];simp only[go_sem];have U:=Sup.refl H0;have aa:=U.at hj;refine gU [js] [(0,true),(1,true),(2,true),(3,true),(4,true),(5,true),(6,true),(7,true),(8,true),(9,true),(10,true),(11,false),(12,false)] (by simp[aa]) (by kernel_rfl) fun Hp Hr hp hr _ au=>?_
 have Y:=(hp js (by simp)).trans aa;simp only[go_sem,g1,b1,Y];refine aL fun i9 av=>?_
 simp only[go_sem];refine aI (aB _ _ _) (by simp[iP]) ?_;refine AJ hr av fun aq=>?_
 have ai:=U.none aq;generalize ah:aM (aM _ i9 _) i9 _=HGi9;replace U:=Sup.eq ((U.upd ai _).upd ai _) ah;have X:HGi9 i9=some ((⟨95,14,[bF t]⟩:Row)):=by rw[<-ah,aB];try rfl
 simp only[go_sem];refine aL fun j ar=>?_
 have ab:i9≠j:=bE X ar;have ao:=U.none ar;generalize am:aM _ j _=HGj;replace U:=Sup.eq (U.upd ao _) am;replace X:=(congrFun am.symm i9).trans ((aJ _ _ _ _ ab).trans X);have R:HGj j=some (pW []):=by rw[<-am,aB];try rfl
 simp only[go_sem];refine⟨fun ρ H=>∃(k:Nat) (j:Nat),k<=l.length/\ρ 0=.op js 0 0/\ρ 1=int src/\ρ 7=.rp (eN st) 0/\ρ 9=.op i9 0 0/\ρ 28=.sl (l.map iN)/\ρ 29=int (l.length:Nat)/\ρ 30=int k/\ρ 10=.os j/\Sup H0 H/\H0 j=none/\H i9=some (⟨95,14,[bF t]⟩:Row)/\H j=some (pW ((l.take k).foldl (EC s.x.net t src st) [])),fun ρ _=>l.length-aR (ρ 30),⟨0,j,Xaa _,rfl,rfl,rfl,rfl,rfl,rfl,(by simp only[go_sem];rfl),rfl,U,ao,X,R⟩,?_⟩;rintro ρ H ⟨k,j,hk,e0,e1,e7,e9,ag,af,ac,ae,U,nj,X,R⟩;simp only[go_sem,af,ac];refine aA (fun F=>?_) (fun aj=>?_)
 ·have F:=ltB (by simpa using F);obtain⟨a,ha⟩:=aK F;have d1:=inB F;have hs:=lH (f:=EC s.x.net t src st) (b:=([]:List Sta)) ha;have ax:=Dk s.x.net t src st l k;generalize (l.take k).foldl (EC s.x.net t src st) []=out at *;have aw:i9≠j:=fun e=>by subst e;rw[X]at R;cases R
  simp only[go_sem,ag,ac,aD ha,d1];refine aL fun O Z=>?_
  have I:j≠O:=bE R Z;have E:i9≠O:=bE X Z;simp only[go_sem];refine aI (aB _ _ _) (by simp[HS]) ?_;have V:=U.none Z;generalize J:aM (aM _ O _) O _=HGi12;replace U:=Sup.eq ((U.upd V _).upd V _) J;replace R:=kpR J I I R;replace X:=kpR J E E X;have ad:HGi12 O=some ((⟨228,2,[iN a]⟩:Row)):=by rw[<-J,aB];try rfl
  simp only[go_sem];have aa:=U.at hj;have ne:js≠O:=Sup.ne (Sup.refl H0) hj V;refine gU [js,i9,O] [(0,true),(1,true),(2,true),(3,true),(4,true),(5,true),(6,true),(7,true),(8,true),(9,true),(10,true),(11,true),(12,false),(13,true),(14,true),(15,true),(16,true),(17,true),(18,true),(19,true)] (by simp[aa,X,ad]) (by kernel_rfl) fun Hp Hr hp hr _ au=>?_
  have Y:=(hp js (by simp)).trans aa;have ap:=(hp i9 (by simp)).trans X;have an:=(hp O (by simp)).trans ad;simp only[go_sem,e0,e1,e7,e9,Y,ap,an];refine aG (ajO s.x.net t.profile src st.place a.ready hn) ?_;simp only[go_sem];refine qF hr ?_;have ha:EC s.x.net t src st out a=(if((fP s.x.net t.profile src st.place a.ready).2.2 != 0||decide (W (W (a.driven+(fP s.x.net t.profile src st.place a.ready).1)-a.ready)>t.drive))=true then out
   else if((Rx.nH st (fP s.x.net t.profile src st.place a.ready).1).2 != 0)=true then out
   else mY t out (Rx.nH st (fP s.x.net t.profile src st.place a.ready).1).1 (W (W (a.driven+(fP s.x.net t.profile src st.place a.ready).1)-a.ready))):=rfl
  rw[ha]at hs;generalize fP s.x.net t.profile src st.place a.ready=g at *;simp only[go_sem,e9,X,ad];apply aA <;> intro c1
  ·have c1:(g.2.2 != 0||decide (W (W (a.driven+g.1)-a.ready)>t.drive))=true:=c1;rw[if_pos c1]at hs;simp only[go_sem,e0,e1,e7,e9,ag,af,ac,ae,aQ k];refine⟨⟨k+1,j,F,rfl,rfl,U,nj,X,?_⟩,msr F⟩;rw[hs];exact R
  have c1:(g.2.2 != 0||decide (W (W (a.driven+g.1)-a.ready)>t.drive))=false:=c1;rw[if_neg (fun h=>Bool.noConfusion (c1.symm.trans h))]at hs;simp only[go_sem,e7,];refine aG (Rx.adV st g.1) ?_;simp only[go_sem];generalize Rx.nH st g.1=dp at *;apply aA <;> intro c2
  ·rw[if_pos c2]at hs;simp only[go_sem,e0,e1,e7,e9,ag,af,ac,ae,aQ k];refine⟨⟨k+1,j,F,rfl,rfl,U,nj,X,?_⟩,msr F⟩;rw[hs];exact R
  rw[if_neg (fun h=>Bool.noConfusion (c2.symm.trans h))]at hs;simp only[go_sem,e0,ae,ad];refine ajM s t out dp.1 (W (W (a.driven+g.1)-a.ready)) ht aa R (by omega) fun j2 H2 R2 al=>?_
  simp only[go_sem,e0,e1,e7,e9,ag,af,ac,aQ k];refine⟨⟨k+1,j2,F,rfl,rfl,fun q row hq=>?_,?_,(al i9 _ aw X).2,?_⟩,msr F⟩
  ·have ak:q≠j:=fun e=>by subst e;rw[nj]at hq;cases hq
   exact(al q row ak (U q row hq)).2
  ·cases e:H0 j2 with
   | none=>rfl
   | some row=>
    have ak:j2≠j:=fun e2=>by subst e2;rw[nj]at e;cases e
    exact absurd rfl (al j2 row ak (U j2 row e)).1
  ·rw[hs];exact R2
 have aj:=geB hk (by simpa using aj);subst aj;rw[Xad]at R;simp only[go_sem,ae];exact⟨U,[j],by simpa using nj,.row _ _ _ (by simp;exact R) (ConvE.refl _)⟩
def aeH(H0:aH)(F:Nat)(s:Sr)(t:VType)(d dr:Int)(V:s.x.types[s.kind]?=some t)(O:H0 F=some (mC s)):
  LC prog 117 [.op F 0 0,.v (.slice none 0 0),int d,int dr] H0 (.sl ((mY t [] d dr).map iN)):=fun K X=>
 bM.data (aiS s t d dr V O fun I H' R E=>⟨fun k row h=>(E k row h).2,[I],fun k J=>by
  have e:k=I:=by simpa using J
  subst e;cases U:H0 k with
  | none=>rfl
  | some row=>exact absurd rfl (E k row U).1,.row _ _ _ (by simp;exact R) (ConvE.refl _)⟩) X
end Sq
namespace Sq
open Go.Proofs.Tryz
open Go.Proofs.YtpagaknmdfgfkaaGreatDoor.Nu (ltB geB)
open Mv (bO bR aO)
def uK(a b:Column):Bool:=if(a.price != b.price)=true then decide (a.price<b.price)else decide (Pt a.route.visits b.route.visits<0)
def adD(a b:Column)(F:a.route.visits.length<=1048576):PC prog 175 [.agg (aU a),.agg (aU b)] (boo (uK a b)):=by
 refine pcd func175 rfl rfl ?_;simp only[go_sem];unfold uK;apply aA <;> intro E
 ·rw[if_pos E];simp only[go_sem];exact .refl _
 ·rw[if_neg (by rw[E];simp)];simp only[go_sem];refine aG (apR a.route.visits b.route.visits F) ?_;simp only[go_sem];exact .refl _
def sA(best:Column)(fd:Bool)(next:Column):Column:=if(!fd||uK next best)=true then next else best
abbrev tW(c:Column):Row:=⟨43,7,[aU c]⟩
def cA:Column:=⟨0,0,0,⟨0,0,[],[]⟩⟩
def alO(best:Column)(V:Bool)(next:Column)(Y:next.route.visits.length<=1048576):PC prog 174 [.agg (aU best),boo V,.agg (aU next),.v (.func (.func 175) #[] #[])] (.agg (aU (sA best V next))):=by
 have U:aE prog 175=true:=by kernel_rfl
 have J:=adD next best Y
 refine pcd func174 rfl rfl ?_;simp only[go_sem];refine fO fun F I X (E:I F=some (tW cA)) N=>?_
 simp only[go_sem,U];refine⟨_,fun _=>J.q rfl,?_⟩;simp only[go_sem];unfold sA;apply aA <;> intro J
 ·rw[if_pos J];simp only[go_sem];refine aI E (by simp[cF]) ?_;generalize O:aM _ F _=HP;replace E:HP F=some (tW next):=upS O;simp only[go_sem,E];exact .refl _
 ·rw[if_neg (fun h=>Bool.noConfusion (J.symm.trans h))];simp only[go_sem];refine aI E (by simp[cF]) ?_;generalize O:aM _ F _=HP;replace E:HP F=some (tW best):=upS O;simp only[go_sem,E];exact .refl _
def mE(s:Sr)(l:List Visit):Route:=⟨(s.kind:Nat),0,[],l⟩
def JS(s:Sr)(l:List Visit)(p:Int):Column:=⟨(s.kind:Nat),s.set,p,mE s l⟩
def KW(s:Sr)(l:List Visit):Sr:=if((fD s.x (mE s l)).2 == 0)=true then { s with best:=sA s.best s.found (JS s l (fD s.x (mE s l)).1),found:=true }else s
def vW(t:VType)(rec:Sr->List Visit->Int->List Sta->Sr)(l:List Visit)(src:Int)(st:List Sta)(s:Sr)(v:Visit):Sr:=
 if((eZ s.x v).2 != 0)=true then s
 else if(xP s.x.net t src (eZ s.x v).1 st).length=0 then s
 else rec s (l++[v]) (eZ s.x v).1.place (xP s.x.net t src (eZ s.x v).1 st)
def nT(t:VType):Nat->Sr->List Visit->Int->List Sta->Sr
 | 0,s,_,_,_=>s
 | f+1,s,l,src,st=>if((l.length:Int) == (s.total:Int))=true then KW s l else(pI s.x s.set l).foldl (vW t (nT t f) l src st) s
structure SameB(s s':Sr):Prop where
 x:s'.x=s.x
 kind:s'.kind=s.kind
 set:s'.set=s.set
 total:s'.total=s.total
structure SrB(t:VType)(s:Sr):Prop where
 ty:s.x.types[s.kind]?=some t
 ev:EvalB s.x
 before:s.x.before.length<=1048576
 orders:s.x.orders.length<=60
 total:s.total<=16
def SameB.refl(s:Sr):SameB s s:=⟨rfl,rfl,rfl,rfl⟩
def SameB.trans{a b c:Sr}(h:SameB a b)(g:SameB b c):SameB a c:=⟨g.x.trans h.x,g.kind.trans h.kind,g.set.trans h.set,g.total.trans h.total⟩
def SameB.b{t:VType}{a b:Sr}(h:SameB a b)(g:SrB t a):SrB t b:=⟨by rw[h.x,h.kind];exact g.ty,by rw[h.x];exact g.ev,by rw[h.x];exact g.before,by rw[h.x];exact g.orders,by rw[h.total];exact g.total⟩
def YX(s:Sr)(l:List Visit):SameB s (KW s l):=by unfold KW;split <;> exact⟨rfl,rfl,rfl,rfl⟩
def Ik{α:Type}{g:Sr->α->Sr}(E:∀a v,SameB a (g a v)):∀(l:List α) (a:Sr),SameB a (l.foldl g a)
 | [],a=>.refl a
 | v::l,a=>(E a v).trans (Ik E l (g a v))
def sI(t:VType):∀(f:Nat) (s:Sr) (l:List Visit) (src:Int) (st:List Sta),SameB s (nT t f s l src st)
 | 0,s,_,_,_=>.refl s
 | f+1,s,l,src,st=>by
  unfold nT;split
  ·exact YX s l
  ·refine Ik (fun a v=>?_) _ _;unfold vW;split
   ·exact .refl a
   ·split
    ·exact .refl a
    ·exact sI t f _ _ _ _
def asH{H:aH}{j:Nat}:(fun q=>if q∈[j]then none else H q)=aM H j none:=funext fun q=>by simp only[aM,Xaw]
def Gh{l:List Nat}{H0 H Y:aH}{K:Env->aH->Prop}{ρ:Env}{J E:Nat}{a b:Row}{r5:Option Row}(hr:∀k,k∉l->Y k=H k)(hn:E∉l)(h5:Y J=none)(U:Sup (aM H0 E (some a)) H)
  (h:∀F:aH,F E=some b->Sup (aM H0 E (some b)) F->K ρ F):sH l H K ρ (aM (aM (aM Y J r5) J none) E (some b)):=fun h0 F h1 X=>by
 refine h F ((X E hn).trans (aB _ _ _)) fun k row O=>?_
 by_cases e:k=E
 ·subst e;rw[aB]at O;rw[X k hn,aB];exact O
 ·rw[aJ _ _ _ _ e]at O;have Z:=U k row (by rw[aJ _ _ _ _ e];exact O);by_cases V:k∈l
  ·rw[h1 k V];exact Z
  ·have I:k≠J:=fun e2=>by rw[<-e2,hr k V,Z]at h5;cases h5
   rw[X k V,aJ _ _ _ _ e,aJ _ _ _ _ I,aJ _ _ _ _ I,hr k V];exact Z
abbrev afP(t:VType)(js f:Nat):Prop:=∀(s:Sr) (_:SrB t s) (H0:aH) (_:H0 js=some (mC s)) (l:List Visit) (src:Int) (st:List Sta) (_:l.length<=s.total) (_:s.total-l.length<f) (_:st.length<=2^(l.length+1)),
 MC prog 116 [.op js 0 0,.sl (l.map aF),int src,.sl (st.map iN)] H0 (aM H0 js (some (mC (nT t f s l src st)))) (.tup [])
def Ly(t:VType)(F f:Nat)(ax:∀f',f=f'+1->afP t F f'):afP t F f:=by
 intro s aw H0 av l src st bw hf bm;obtain⟨f,rfl⟩:∃f',f=f'+1:=⟨f-1,by omega⟩;have ax:=ax f rfl;have bx:=aw.total;have hj:=av;have eW:nT t (f+1) s l src st=if((l.length:Int) == (s.total:Int))=true then KW s l else(pI s.x s.set l).foldl (vW t (nT t f) l src st) s:=rfl
 generalize nT t (f+1) s l src st=RW at *;refine MC.body (c:=f116.body.getD .skip) (fun _=>false) (Wa av) mixed func116 rfl (by kernel_rfl) ?_;unfold f116;simp only[Xbo];simp only[go_sem,hj,Xab];have U:=Sup.refl H0;refine aA (fun hb=>?_) (fun hb=>?_)
 ·rw[if_pos hb]at eW;subst eW;have eE:KW s l=if((fD s.x (mE s l)).2 == 0)=true then { s with best:=sA s.best s.found (JS s l (fD s.x (mE s l)).1),found:=true }else s:=rfl
  have hP:=afJ s.x (mE s l) aw.ev (by show l.length<=1048575;omega);simp only[go_sem,hj];refine aL fun j8 a0=>?_
  have aa:F≠j8:=bE hj a0;simp only[go_sem];refine aI (aB _ _ _) (by simp[]) ?_;have a4:=U.none a0;generalize al:aM (aM _ j8 _) j8 _=HGj8;replace U:=Sup.eq ((U.upd a4 _).upd a4 _) al;replace hj:=kpR al aa aa hj;have R8:HGj8 j8=some ((⟨41,4,[bT (mE s l)]⟩:Row)):=by rw[<-al,aB];try rfl
  simp only[go_sem,];refine gU [F,j8] [(0,true),(1,true),(2,true),(3,true),(4,true),(5,false),(6,true),(7,true),(8,true),(9,true),(10,true)] (by simp[hj,R8]) (by kernel_rfl) fun Hp Hr hp hr _ ap=>?_
  have ac:=(hp F (by simp)).trans hj;have ar:=(hp j8 (by simp)).trans R8;simp only[go_sem,ac,ar];refine aG hP ?_;generalize fD s.x (mE s l)=pr at *;simp only[go_sem];refine qF hr ?_;simp only[go_sem];refine aA (fun hc=>?_) (fun hc=>?_)
  case refine_2=>rw[if_neg (fun h=>Bool.noConfusion (hc.symm.trans h))]at eE;rw[eE];simp only[go_sem];refine Pk.flat ?_ _;rw[Q6 av];exact U
  rw[if_pos hc]at eE;simp only[go_sem];refine gU [F,j8] [(0,true),(1,true),(2,true),(3,true),(4,true),(5,true),(6,true),(7,true),(8,true),(9,true),(10,true),(11,false),(12,false)] (by simp[hj,R8]) (by kernel_rfl) fun Hp Hr hp hr _ ap=>?_
  have ac:=(hp F (by simp)).trans hj;have ar:=(hp j8 (by simp)).trans R8;simp only[go_sem,ac,ar];refine aL fun ag bi=>?_
  simp only[go_sem];refine aI (aB _ _ _) (by simp[AB]) ?_;refine AJ hr bi fun an=>?_
  have X:F≠ag:=bE hj an;have au:=U.none an;generalize ae:aM (aM _ ag _) ag _=HGj11;replace U:=Sup.eq ((U.upd au _).upd au _) ae;replace hj:=kpR ae X X hj;have ay:HGj11 ag=some (tW (JS s l pr.1)):=by rw[<-ae,aB];try rfl
  simp only[go_sem,];have hF:=alO s.best s.found (JS s l pr.1) (by show l.length<=1048576;omega);generalize bz:sA s.best s.found (JS s l pr.1)=fb at *;have a6:F≠ag:=fun e=>by subst e;rw[hj]at ay;cases ay
  refine EU [ag] (.q 0 (.q 1 (.q 2 (.q 3 (.q 5 (.q 6 (.q 7 (.q 9 (.a2 4 (.a1 8 (.a1 10 (.q 11 (.q 12 (.a1 13 .nil))))) 8 (.a1 4 (.a1 10 (.q 11 (.q 12 (.a1 13 .nil)))))))))))))) (fun E H'=>E 0=.op F 0 0/\H' F=some (mC { s with best:=fb })/\Sup (aM H0 F (some (mC { s with best:=fb }))) H') (by simp[ay]) (by kernel_rfl) (fun K' ab Hp Hr hp hr _ ap=>?_) ?_
  ·have bd:=(hp ag (by simp)).trans ay;have ai:=(hr F (by simpa using a6)).trans hj;simp only[go_sem,bd];refine yM ?_ ?_
   ·simp only[go_sem,ai];refine aG hF ?_;simp only[go_sem];refine aI ai (by simp[cF]) ?_;simp only[go_sem];refine rU hr (by simpa using a6) (ab _ _ ⟨rfl,(aB _ _ _).trans rfl,?_⟩);exact U.set F (some (mC { s with best:=fb }))
   ·simp only[go_sem,ai];refine aG hF ?_;simp only[go_sem];refine aI ai (by simp[cF]) ?_;simp only[go_sem];refine rU hr (by simpa using a6) (ab _ _ ⟨rfl,(aB _ _ _).trans rfl,?_⟩);exact U.set F (some (mC { s with best:=fb }))
  rintro ρ H ⟨e0,R,U⟩;simp only[go_sem,e0];refine dS so4 R (by simp[]) ?_;simp only[go_sem];rw[eE];refine Pk.flat ?_ _;exact Sup.set2 U (some (mC { s with best:=fb,found:=true }))
 rw[if_neg (fun h=>Bool.noConfusion (hb.symm.trans h))]at eW;subst eW;have bv:l.length<s.total:=by simp at hb;omega
 have bu:=aw.orders;have bh:=Ds s.x s.set l s.x.orders.length;simp only[go_sem];refine gU [F] [(0,true),(1,true),(2,true),(3,true),(4,true),(5,true),(6,true),(7,true),(8,true),(11,true),(9,false),(10,true)] (by simp[hj]) (by kernel_rfl) fun Hp Hr hp hr _ ap=>?_
 have ac:=(hp F (by simp)).trans hj;simp only[go_sem,ac];refine aG (apW s.x s.set l (by omega) aw.before (by omega)) ?_;have bh:(pI s.x s.set l).length<=120:=Xam bh (by omega);generalize pI s.x s.set l=vs at *;simp only[go_sem,Xab];refine qF hr ?_;have bt:st.length<=131072:=Xam bm (Xam (Xau (by decide) (show l.length+1<=17 by omega)) (by decide));refine⟨fun ρ H=>∃(k:Nat) (a:Sr),k<=vs.length/\ρ 0=.op F 0 0/\ρ 1=.sl (l.map aF)/\ρ 2=int src/\ρ 3=.sl (st.map iN)/\ρ 77=.sl (vs.map aF)/\ρ 78=int (vs.length:Nat)/\ρ 79=int k/\a=(vs.take k).foldl (vW t (nT t f) l src st) s/\SameB s a/\H F=some (mC a)/\Sup (aM H0 F (some (mC a))) H,fun ρ _=>vs.length-aR (ρ 79),⟨0,s,Xaa _,rfl,rfl,rfl,rfl,rfl,rfl,(by simp only[go_sem];rfl),rfl,SameB.refl s,av,by rw[Q6 av];exact Sup.refl H0⟩,?_⟩;rintro ρ H ⟨k,a,hk,e0,e1,e2,e3,Y,Z,J,ha,hS,R,U⟩;simp only[go_sem,Z,J];refine aA (fun af=>?_) (fun a5=>?_)
 ·have af:=ltB (by simpa using af);obtain⟨v,hv⟩:=aK af;have b1:=inB af;have hs:=lH (f:=vW t (nT t f) l src st) (b:=s) hv;rw[<-ha]at hs;have bb:=hS.b aw;have eX:vW t (nT t f) l src st a v=if((eZ a.x v).2 != 0)=true then a
   else if(xP a.x.net t src (eZ a.x v).1 st).length=0 then a
   else nT t f a (l++[v]) (eZ a.x v).1.place (xP a.x.net t src (eZ a.x v).1 st):=rfl
  have bo:SameB a (vW t (nT t f) l src st a v):=by
   unfold vW;split
   ·exact .refl a
   ·split
    ·exact .refl a
    ·exact sI t f _ _ _ _
  generalize vW t (nT t f) l src st a v=EV at *;have bk:=XN a.x v;generalize b0:eZ a.x v=sv at *;simp only[go_sem,Y,J,aD hv,b1];refine aL fun O am=>?_
  have V:F≠O:=bE R am;simp only[go_sem,];refine aI (aB _ _ _) (by simp[dJ]) ?_;have ao:=U.none am;generalize ad:aM (aM _ O _) O _=HGi13;replace U:=Sup.eq ((U.upd ao _).upd ao _) ad;replace R:=kpR ad V V R;have I:HGi13 O=some ((⟨112,2,[aF v]⟩:Row)):=by rw[<-ad,aB];try rfl
  simp only[go_sem,];refine EU [F,O] (.q 0 (.q 1 (.q 2 (.q 3 (.q 4 (.q 5 (.a2 6 (.q 7 (.q 8 (.q 9 (.a1 10 (.a1 11 (.q 12 .nil)))))) 10 (.a1 6 (.q 7 (.q 8 (.q 9 (.a1 11 (.q 12 .nil))))))))))))) (fun E H'=>E 0=.op F 0 0/\E 1=.sl (l.map aF)/\E 2=int src/\E 3=.sl (st.map iN)/\E 77=.sl (vs.map aF)/\E 78=int vs.length/\E 79=int (k:Nat)/\E 13=.op O 0 0/\E 15=int sv.2/\∃aj,E 14=.op aj 0 0/\H' aj=some (⟨91,4,[eN sv.1]⟩:Row)/\H' O=some (⟨112,2,[aF v]⟩:Row)/\H' F=some (mC a)/\Sup (aM H0 F (some (mC a))) H') (by simp[R,I]) (by kernel_rfl) (fun K' ab Hp Hr hp hr _ ap=>?_) ?_
  ·have br:=(hp F (by simp)).trans R;have ah:=(hp O (by simp)).trans I;simp only[go_sem,e0,br,ah];refine yM ?_ ?_
   ·simp only[go_sem,];refine aG bk ?_;simp only[go_sem,];refine aL fun j8 a8=>?_
    simp only[go_sem,];refine aI (aB _ _ _) (by simp[iB]) ?_;simp only[go_sem];refine AJ hr a8 fun h8=>ab _ _ ⟨by simp only[go_sem,e0,],by simp only[go_sem,e1,],by simp only[go_sem,e2,],by simp only[go_sem,e3,],by simp only[go_sem,Y,],Z,J,by simp only[go_sem,],rfl,j8,rfl,aB _ _ _,(aJ _ _ _ _ (bE I h8)).trans ((aJ _ _ _ _ (bE I h8)).trans I),(aJ _ _ _ _ (bE R h8)).trans ((aJ _ _ _ _ (bE R h8)).trans R),(U.upd (U.none h8) _).upd (U.none h8) _⟩
   ·simp only[go_sem,];refine aL fun j8 a8=>?_
    simp only[go_sem,];refine aG bk ?_;simp only[go_sem,];refine aI (aB _ _ _) (by simp[iB]) ?_;simp only[go_sem];refine AJ hr a8 fun h8=>ab _ _ ⟨by simp only[go_sem,e0,],by simp only[go_sem,e1,],by simp only[go_sem,e2,],by simp only[go_sem,e3,],by simp only[go_sem,Y,],Z,J,by simp only[go_sem,],rfl,j8,rfl,aB _ _ _,(aJ _ _ _ _ (bE I h8)).trans ((aJ _ _ _ _ (bE I h8)).trans I),(aJ _ _ _ _ (bE R h8)).trans ((aJ _ _ _ _ (bE R h8)).trans R),(U.upd (U.none h8) _).upd (U.none h8) _⟩
  rintro ρ H ⟨e0,e1,e2,e3,Y,Z,J,bp,bn,aj,bj,ak,I,R,U⟩;simp only[go_sem,bn];refine aA (fun c1=>?_) (fun c1=>?_)
  ·rw[if_pos c1]at eX;simp only[go_sem,e0,e1,e2,e3,Y,Z,J,aQ k];exact⟨⟨k+1,a,af,rfl,by rw[hs,eX],hS,R,U⟩,by simp only[aN];omega⟩
  rw[if_neg (fun h=>Bool.noConfusion (c1.symm.trans h))]at eX;have bq:=afN H F a t R bb.ty src st sv.1 bb.ev.net (by omega);have aq:=Dk a.x.net t src sv.1 st st.length;rw[Xad]at aq;replace aq:(xP a.x.net t src sv.1 st).length<=2*st.length:=aq;generalize xP a.x.net t src sv.1 st=nx at *;simp only[go_sem,e0,e2,e3,bj,ak];refine LC.use bq ?_;simp only[go_sem,Xab];refine aA (fun c2=>?_) (fun c2=>?_)
  case refine_2=>
   have hz:nx.length=0:=by simp at c2;simp[c2]
   rw[if_pos hz]at eX;simp only[go_sem,e0,e1,e2,e3,Y,Z,J,aQ k];exact⟨⟨k+1,a,af,rfl,by rw[hs,eX],hS,R,U⟩,by simp only[aN];omega⟩
  have hz:¬nx.length=0:=by simp at c2;omega
  rw[if_neg hz]at eX;have bg:F≠O:=fun e=>by subst e;rw[R]at I;cases I
  have ba:F≠aj:=fun e=>by subst e;rw[R]at ak;cases ak
  simp only[go_sem,];have bc:(l++[v]).length=l.length+1:=by simp
  have a7:=fun(Hx:aH) (hx:Hx F=some (mC a))=>ax a bb Hx hx (l++[v]) sv.1.place nx (by rw[bc,hS.total];omega) (by rw[bc,hS.total];omega) (by rw[bc,Xbk];omega)
  rw[<-eX]at a7;refine EU [O,aj] (.q 0 (.q 1 (.q 3 (.q 6 (.q 7 (.q 8 (.a2 2 (.a1 4 (.a1 5 (.a1 9 .nil))) 4 (.a1 2 (.a1 5 (.a1 9 .nil)))))))))) (fun E H'=>E 0=.op F 0 0/\E 1=.sl (l.map aF)/\E 2=int src/\E 3=.sl (st.map iN)/\E 77=.sl (vs.map aF)/\E 78=int vs.length/\E 79=int (k:Nat)/\H' F=some (mC EV)/\Sup (aM H0 F (some (mC EV))) H') (by simp[I,ak]) (by kernel_rfl) (fun K' ab Hp Hr hp hr _ ap=>?_) ?_
  ·have ah:=(hp O (by simp)).trans I;have be:=(hp aj (by simp)).trans ak;have az:=(hr F (by simp[bg,ba])).trans R;simp only[go_sem,e0,e1,bp,bj,ah,be];refine yM ?_ ?_
   ·simp only[go_sem,];refine aG (afQ l (by omega)) ?_;simp only[go_sem,];refine Xa arV (.inl rfl) (by simp) (Al dJ l) (by simp only[go_sem]) (by simp;omega) fun j5 h5=>?_
    have n5:F≠j5:=bE az h5;simp only[go_sem,];refine bM.frz [j5] (args':=[.op F 0 0,.sl (l.map aF++[aF v]),int sv.1.place,.sl (nx.map iN)]) (.cons _ _ _ _ (.refl _) (.cons _ _ _ _ (.row _ _ _ (by simp;exact aB _ _ _) (ConvE.refl _)) (.cons _ _ _ _ (.refl _) (.cons _ _ _ _ (.refl _) .nil)))) ?_;rw[asH,show l.map aF++[aF v]=(l++[v]).map aF by simp];refine MC.use (a7 _ ((aJ _ _ _ _ n5).trans ((aJ _ _ _ _ n5).trans az))) ?_;simp only[go_sem,];refine Gh hr (by simp[bg,ba]) h5 U fun Hm a9 bf=>ab _ _ ⟨by simp only[go_sem,e0,],by simp only[go_sem,e1,],by simp only[go_sem,e2,],by simp only[go_sem,e3,],by simp only[go_sem,Y,],by simp only[go_sem,Z,],by simp only[go_sem,J,],a9,bf⟩
   ·simp only[go_sem,];refine aG (afQ l (by omega)) ?_;simp only[go_sem,];refine Xa arV (.inl rfl) (by simp) (Al dJ l) (by simp only[go_sem]) (by simp;omega) fun j5 h5=>?_
    have n5:F≠j5:=bE az h5;simp only[go_sem,];refine bM.frz [j5] (args':=[.op F 0 0,.sl (l.map aF++[aF v]),int sv.1.place,.sl (nx.map iN)]) (.cons _ _ _ _ (.refl _) (.cons _ _ _ _ (.row _ _ _ (by simp;exact aB _ _ _) (ConvE.refl _)) (.cons _ _ _ _ (.refl _) (.cons _ _ _ _ (.refl _) .nil)))) ?_;rw[asH,show l.map aF++[aF v]=(l++[v]).map aF by simp];refine MC.use (a7 _ ((aJ _ _ _ _ n5).trans ((aJ _ _ _ _ n5).trans az))) ?_;simp only[go_sem,];refine Gh hr (by simp[bg,ba]) h5 U fun Hm a9 bf=>ab _ _ ⟨by simp only[go_sem,e0,],by simp only[go_sem,e1,],by simp only[go_sem,e2,],by simp only[go_sem,e3,],by simp only[go_sem,Y,],by simp only[go_sem,Z,],by simp only[go_sem,J,],a9,bf⟩
  rintro ρ H ⟨e0,e1,e2,e3,Y,Z,J,R,U⟩;simp only[go_sem,e0,e1,e2,e3,Y,Z,J,aQ k];exact⟨⟨k+1,EV,af,rfl,hs.symm,hS.trans bo,R,U⟩,by simp only[aN];omega⟩
 have a5:=geB hk (by simpa using a5);subst a5;rw[Xad]at ha;rw[<-ha];simp only[go_sem];exact Pk.flat U _
end Sq
namespace Sq
open Go.Proofs.YtpagaknmdfgfkaaGreatDoor.Nu (ltB geB)
open Mv (bO bR aO)
def WK(t:VType)(E:Nat):∀f,afP t E f
 | 0=>Ly t E 0 (fun F e=>by omega)
 | f + 1 => Ly t E (f + 1) (fun F e => by
     obtain rfl:F=f:=by omega
     exact WK t E F)
def kD(x:Instance)(set:Int)(l:List Visit):Prop:=∀p v q,l=p++v::q->v∈pI x set p
def kD.nil{x:Instance}{set:Int}:kD x set []:=fun p v q h=>by simp at h
def kD.snoc{x:Instance}{set:Int}{l:List Visit}(h:kD x set l){v:Visit}(F:v∈pI x set l):kD x set (l++[v]):=fun p w q e=>by
 rcases List.eq_nil_or_concat q with rfl|⟨q',u,rfl⟩
 ·obtain⟨rfl,E⟩:=List.append_inj' e rfl;cases E;exact F
 ·rw[List.concat_eq_append,show p++w::(q'++[u])=(p++w::q')++[u]by simp]at e;obtain⟨rfl,E⟩:=List.append_inj' e rfl;exact h p w q' rfl
def Bo(s:Sr):Prop:=s.found=true->∃l,s.best=JS s l (fD s.x (mE s l)).1/\(fD s.x (mE s l)).2=0/\kD s.x s.set l/\l.length=s.total
def Wd{s:Sr}(h:Bo s){l:List Visit}(I:kD s.x s.set l)(J:l.length=s.total):Bo (KW s l):=by
 unfold KW;split
 next E=>
  have E:(fD s.x (mE s l)).2=0:=by simpa using E
  intro _;show ∃l',sA s.best s.found (JS s l (fD s.x (mE s l)).1)=JS s l' (fD s.x (mE s l')).1/\(fD s.x (mE s l')).2=0/\kD s.x s.set l'/\l'.length=s.total;unfold sA;split
  ·exact⟨l,rfl,E,I,J⟩
  next F=>
   have O:s.found=true:=by
    cases e:s.found with
    | true=>rfl
    | false=>rw[e]at F;simp at F
   exact h O
 ·exact h
def J8{l:List Visit}{g:Sr->Visit->Sr}{E:Sr}(F:∀a v,SameB E a->Bo a->v∈pI E.x E.set l->SameB E (g a v)/\Bo (g a v)):∀(vs:List Visit) (a:Sr),(∀v∈vs,v∈pI E.x E.set l)->SameB E a->Bo a->Bo (vs.foldl g a)
 | [],a,_,_,h=>h
 | v::vs,a,hv,hs,h=>by obtain⟨h1,J⟩:=F a v hs h (hv v (by simp));exact J8 F vs (g a v) (fun u I=>hv u (by simp[I])) h1 J
def GG(t:VType):∀(f:Nat) (s:Sr) (l:List Visit) (src:Int) (st:List Sta),Bo s->kD s.x s.set l->Bo (nT t f s l src st)
 | 0,s,_,_,_,h,_=>h
 | f+1,s,l,src,st,h,hl=>by
  unfold nT;split
  next J=>exact Wd h hl (by simp at J;omega)
  ·refine J8 (l:=l) (fun a v E F I=>?_) _ s (fun v I=>I) (SameB.refl s) h;unfold vW;split
   ·exact⟨E,F⟩
   ·split
    ·exact⟨E,F⟩
    ·refine⟨E.trans (sI t f _ _ _ _),GG t f _ _ _ _ F ?_⟩;rw[E.x,E.set];exact hl.snoc I
def tJ(x:Instance)(l:List Int):Nat:=(l.map fun i=>(fV x.orders i).length).sum
def jU(x:Instance)(set:Int):Nat:=tJ x (cZ set)
def Wv(x:Instance){l:List Int}{k:Nat}{i:Int}(h:l[k]?=some i):tJ x (l.take (k+1))=tJ x (l.take k)+(fV x.orders i).length:=by unfold tJ;rw[bA h];simp
def JB(x:Instance):∀l:List Int,tJ x l<=2*l.length
 | []=>Xaf _
 | i::l=>by have h1:=JB x l;have E:=vV x.orders i;unfold tJ at h1 |-;simp only[Xbf,List.sum_cons,Xah];omega
def VU(x:Instance)(l:List Int)(k:Nat):tJ x (l.take k)<=2*k:=by have h1:=JB x (l.take k);rw[Xas]at h1;omega
def MZ{set:Int}{n:Nat}(h:∀i:Nat,n<=i->dN set (i:Int)=false):∀d,qO set (n+d)=qO set n
 | 0=>rfl
 | d+1=>by rw[<-Nat.add_assoc,oN,h (n+d) (by omega),MZ h d];simp
def aiM{set:Int}{n:Nat}(h0:0<=set)(h1:set<2^n)(i:Nat)(hi:n<=i):dN set (i:Int)=false:=by
 obtain⟨m,rfl⟩:=Int.eq_ofNat_of_zero_le h0;by_cases E:i<=62
 ·rw[jL (by omega) (by omega),Xaq];refine Xcv (Xbs (m:=2^n) ?_ (Xau (by decide) hi))
  exact_mod_cast h1
 ·unfold dN;rw[decide_eq_false (show ¬(i:Int)<=62 by omega)];simp
def Yo{set:Int}{n:Nat}(h0:0<=set)(h1:set<2^n)(E:n<=63):(cZ set).length<=n:=by have h:=MZ (aiM h0 h1) (63-n);unfold cZ;rw[show 63=n+(63-n)by omega,h];exact nQ set n
def uX{x:Instance}{set:Int}{n:Nat}(h0:0<=set)(h1:set<2^n)(E:n<=63):jU x set<=2*n:=by have F:=Yo h0 h1 E;have I:=JB x (cZ set);unfold jU;omega
def HL{α:Type}{o:Option α}{f:α->Prop}{a:α}(h:o=some a)(E:f a):bU o f:=by subst h;exact E
abbrev lB(t:VType):Row:=⟨95,14,[bF t]⟩
end Sq
namespace Sq
open Go.Proofs.Tryz
open Go.Proofs.YtpagaknmdfgfkaaGreatDoor.Nu (ltB geB)
open Mv (bO bR aO)
def KD(x:Instance)(kind set:Int):Bool:=((decide (kind<0)||decide (kind>=(x.types.length:Int)))||decide (set<=0))||(shV .shr .i64 set (x.orders.length:Nat) != 0)
def C3(x:Instance)(kind:Nat)(set:Int)(t:VType):Sr:=nT t 17 ⟨x,kind,set,jU x set,cA,false⟩ [] t.src (mY t [] t.start 0)
def rA(x:Instance)(kind set:Int):Column×Int:=
 if KD x kind set=true then(cA,2)
 else if(xO x set != 0)=true then(cA,24)
 else match x.types[kind.toNat]? with
 | none=>(cA,24)
 | some t=>if(C3 x kind.toNat set t).found=true then((C3 x kind.toNat set t).best,0)else(cA,24)
def anI(x:Instance)(kind set:Int)(hE:EvalB x)(hn:x.orders.length<=8):PC prog 65 [.agg (aC x),int kind,int set] (.tup [.agg (aU (rA x kind set).1),int (rA x kind set).2]):=by
 refine pcb (fun t=>t == 43||t == 75) func65 rfl rfl ?_;simp only[go_sem];have E:rA x kind set=((if KD x kind set=true then(cA,2)
  else if(xO x set != 0)=true then(cA,24)
  else match x.types[kind.toNat]? with
  | none=>(cA,24)
  | some t=>if(C3 x kind.toNat set t).found=true then((C3 x kind.toNat set t).best,0)else(cA,24)):Column×Int):=rfl
 generalize rA x kind set=RP at *;refine aL fun I aq=>?_
 generalize ap:aM _ I _=HG6;have F:HG6 I=some (tW cA):=by rw[<-ap,aB];try rfl
 clear ap aq;simp only[go_sem,Xab];refine⟨fun _=>by omega,aA (fun hb=>?_) (fun hb=>?_)⟩
 ·simp only[go_sem];refine aI F (by simp only[go_sem]) ?_;generalize E:aM _ I _=HP;replace F:HP I=some (tW cA):=by rw[<-E,aB];rfl
  clear E;simp only[go_sem,F];have hb:KD x kind set=true:=hb;rw[if_pos hb]at E;rw[E];exact .refl _
 have ao:KD x kind set=false:=hb;rw[if_neg (by rw[ao];simp)]at E;obtain⟨⟨⟨hk0,hk1⟩,hs0⟩,hs1⟩:((0<=kind/\kind<x.types.length)/\0<set)/\shV .shr .i64 set (x.orders.length:Nat)=0:=by simpa using hb
 rw[wH (by omega)]at hs1;obtain⟨k0,rfl⟩:=Int.eq_ofNat_of_zero_le hk0;have hk:k0<x.types.length:=by omega
 obtain⟨t,ht⟩:=aK hk;have bk:=inB hk;have aj:set<2^x.orders.length:=by
  have hp:(0:Int)<2^x.orders.length:=Int.pow_pos (by decide);rcases Xcc set (2^x.orders.length)with h|h
  ·exact h
  ·have:=Int.le_ediv_of_mul_le hp (show 1*2^x.orders.length<=set by omega);omega
 have hM:=uX (x:=x) (by omega) aj (by omega);have ax:=Yo (by omega) aj (by omega);rw[show jU x set=tJ x (cZ set)from rfl]at *;simp only[go_sem];refine aG (ZK x set (by omega) hE.apart hE.before) ?_;rw[Xaq,ht]at E;unfold C3 at E;simp only at E;rw[show jU x set=tJ x (cZ set)from rfl]at E;simp only[go_sem];apply aA <;> intro al
 ·simp only[go_sem];refine aI F (by simp only[go_sem]) ?_;generalize E:aM _ I _=HP;replace F:HP I=some (tW cA):=by rw[<-E,aB];rfl
  clear E;simp only[go_sem,F];rw[if_pos al]at E;rw[E];exact .refl _
 rw[if_neg (by rw[al];simp)]at E;clear hb al ao;simp only[go_sem];refine HL (a:=xA ⟨x,k0,set,0,cA,false⟩) rfl ⟨by rw[Mw];decide,?_⟩;refine aL fun J ai=>?_
 have ag:I≠J:=bE F ai;simp only[go_sem];generalize am:aM _ J _=HGs;replace F:=(congrFun am.symm I).trans ((aJ _ _ _ _ ag).trans F);have R:HGs J=some (mC ⟨x,k0,set,0,cA,false⟩):=by rw[<-am,aB]
 clear am ai;refine aG (mU set) ?_;simp only[go_sem,Xab];have ae:=nQ set 63
 change (cZ set).length<=63 at ae
 generalize cZ set=M at *;clear ax;have ay:M.length<=63:=ae;refine⟨fun ρ H=>∃(k:Nat),k<=M.length/\ρ 1=int (k0:Nat)/\ρ 3=.rp (aC x) 0/\ρ 6=.op I 0 0/\ρ 8=.op J 0 0/\ρ 45=.sl (M.map bC)/\ρ 46=int (M.length:Nat)/\ρ 47=int k/\H I=some (tW cA)/\H J=some (mC ⟨x,k0,set,tJ x (M.take k),cA,false⟩),fun ρ _=>M.length-aR (ρ 47),⟨0,Xaa _,rfl,rfl,rfl,rfl,rfl,rfl,(by simp only[go_sem];rfl),F,R⟩,?_⟩;clear F R;rintro ρ H ⟨k,av,e1,e3,e6,e8,ac,aa,U,F,R⟩;simp only[go_sem,aa,U];refine aA (fun ad=>?_) (fun ak=>?_)
 ·have ad:=ltB (by simpa using ad);obtain⟨i,hi⟩:=aK ad;have b1:=inB ad;have hs:=Wv x hi;have hb:=VU x M k;have hV:=vV x.orders i;generalize tJ x (M.take k)=T at *;simp only[go_sem,ac,U,aD hi,b1];refine EU [] (.q 0 (.q 1 (.q 2 (.q 4 (.q 5 (.q 6 (.a2 3 (.a1 7 (.q 8 (.q 9 (.q 10 (.q 11 (.a1 12 .nil)))))) 7 (.q 8 (.a1 3 (.q 9 (.q 10 (.q 11 (.a1 12 .nil)))))))))))))
   (fun X H'=>X 1=int (k0:Nat)/\X 3=.rp (aC x) 0/\X 6=.op I 0 0/\X 8=.op J 0 0/\X 45=.sl (M.map bC)/\X 46=int (M.length:Nat)/\X 47=int (k:Nat)/\H' I=some (tW cA)/\H' J=some (mC ⟨x,k0,set,tJ x (M.take (k+1)),cA,false⟩)) (by simp) (by kernel_rfl) (fun K' ar Hp Hr hp hr _ aw=>?_) ?_
  ·have Y:=(hr J (by simp)).trans R;simp only[go_sem,e3,e8,];refine yM ?_ ?_
   ·simp only[go_sem,Y];refine aG (vC x.orders i) ?_;simp only[go_sem,Xab];refine dS so3 Y (by simp[]) ?_;simp only[go_sem];refine rU hr (by simp) (ar _ _ ⟨by simp only[go_sem,e1,],by simp only[go_sem,e3,],by simp only[go_sem,e6,],by simp only[go_sem,e8,],by simp only[go_sem,ac,],aa,U,?_,?_⟩)
    ·rw[aJ _ _ _ _ ag];exact F
    rw[hs,aB];refine congrArg (fun l=>some (⟨174,17,[l]⟩:Row)) ?_;rw[aW (by omega)];rfl
   ·simp only[go_sem];refine aG (vC x.orders i) ?_;simp only[go_sem,Y,Xab];refine dS so3 Y (by simp[]) ?_;simp only[go_sem];refine rU hr (by simp) (ar _ _ ⟨by simp only[go_sem,e1,],by simp only[go_sem,e3,],by simp only[go_sem,e6,],by simp only[go_sem,e8,],by simp only[go_sem,ac,],aa,U,?_,?_⟩)
    ·rw[aJ _ _ _ _ ag];exact F
    rw[hs,aB];refine congrArg (fun l=>some (⟨174,17,[l]⟩:Row)) ?_;rw[aW (by omega)];rfl
  clear F R e1 e3 e6 e8 ac aa U;rintro ρ H ⟨e1,e3,e6,e8,ac,aa,U,F,R⟩;simp only[go_sem,e1,e3,e6,e8,ac,aa,U,aQ k];exact⟨⟨k+1,ad,rfl,F,R⟩,msr ad⟩
 have ak:=geB av (by simpa using ak);subst ak;rw[Xad]at R;simp only[go_sem,e1,e3,aD ht,bk];refine aL fun V O=>?_
 have Z:J≠V:=bE R O;have ah:I≠V:=bE F O;simp only[go_sem];refine aI (aB _ _ _) (by simp[iP]) ?_;generalize af:aM (aM _ V _) V _=HGi;replace F:=kpR af ah ah F;replace R:=kpR af Z Z R;have an:HGi V=some (lB t):=by rw[<-af,aB];try rfl
 clear af O;simp only[go_sem];refine gU [V] [(0,true),(1,true),(2,true),(3,true),(4,true),(5,true),(6,false),(7,false)] (by simp[an]) (by kernel_rfl) fun Hp Hr hp hr _ aw=>?_
 have au:=(hp V (by simp)).trans an;have Y:=(hr J (by simpa using Z)).trans R;simp only[go_sem,e8,au];refine LC.use (aeH Hr J _ t t.start 0 ht Y) ?_;simp only[go_sem];refine MC.use (WK t J 17 ⟨x,k0,set,tJ x M,cA,false⟩ ⟨ht,hE,hE.before,by show x.orders.length<=60;omega,by show tJ x M<=16;omega⟩ Hr Y [] t.src (mY t [] t.start 0) (Xaa _) (by show tJ x M-0<17;omega) (J2 t [] t.start 0)) ?_;have hB:=sI t 17 ⟨x,k0,set,tJ x M,cA,false⟩ [] t.src (mY t [] t.start 0);generalize nT t 17 ⟨x,k0,set,tJ x M,cA,false⟩ [] t.src (mY t [] t.start 0)=s' at *;simp only[go_sem];refine rU hr (by simpa using Z) ?_;have R2:aM HGi J (some (mC s')) J=some (mC s'):=aB _ _ _;have ab:aM HGi J (some (mC s')) I=some (tW cA):=(aJ _ _ _ _ ag).trans F;generalize aM HGi J (some (mC s'))=HX at *;clear F R an;simp only[go_sem,e8,R2];apply aA <;> intro hb
 ·simp only[go_sem,e6,];refine aI ab (by simp only[go_sem]) ?_;generalize E:aM _ I _=HP;replace ab:HP I=some (tW cA):=by rw[<-E,aB];rfl
  clear E;simp only[go_sem,e6,ab];rw[if_neg (by simpa using hb)]at E;rw[E];exact .refl _
 simp only[go_sem,e6,e8,R2];refine aI ab (by simp[cF]) ?_;generalize E:aM _ I _=HP;replace ab:HP I=some (tW s'.best):=by rw[<-E,aB];rfl
 clear E;simp only[go_sem,e6,ab];rw[if_pos (by simpa using hb)]at E;rw[E];exact .refl _
structure BestQ(x:Instance)(k:Nat)(set:Int)(c:Column):Prop where
 lt:k<x.types.length
 pos:0<set
 top:set<2^x.orders.length
 is:∃l,c=⟨(k:Nat),set,(fD x ⟨(k:Nat),0,[],l⟩).1,⟨(k:Nat),0,[],l⟩⟩/\(fD x ⟨(k:Nat),0,[],l⟩).2=0/\kD x set l/\l.length=jU x set
def acB{x:Instance}{k:Nat}{set:Int}(hn:x.orders.length<=8)(h:(rA x (k:Nat) set).2=0):BestQ x k set (rA x (k:Nat) set).1:=by
 unfold rA at h |-;split at h
 ·exact absurd h (by decide)
 split at h
 ·exact absurd h (by decide)
 next hb _=>
 rw[Xaq]at *;split at h
 ·exact absurd h (by decide)
 next t ht=>
 split at h
 case isFalse=>exact absurd h (by decide)
 next X=>
 have F:KD x (k:Nat) set=false:=by simpa using hb
 unfold KD at F;obtain⟨⟨⟨hk0,hk1⟩,hs0⟩,hs1⟩:((0<=(k:Int)/\(k:Int)<x.types.length)/\0<set)/\shV .shr .i64 set (x.orders.length:Nat)=0:=by simpa using F
 rw[wH (by omega)]at hs1;have J:set<2^x.orders.length:=by
  have Y:(0:Int)<2^x.orders.length:=Int.pow_pos (by decide);rcases Xcc set (2^x.orders.length)with h|h
  ·exact h
  ·have:=Int.le_ediv_of_mul_le Y (show 1*2^x.orders.length<=set by omega);omega
 rw[if_neg hb,if_neg (by assumption)];simp only[X,if_true];have E:=sI t 17 ⟨x,k,set,jU x set,cA,false⟩ [] t.src (mY t [] t.start 0);obtain⟨l,Z,U,V,O⟩:=GG t 17 ⟨x,k,set,jU x set,cA,false⟩ [] t.src (mY t [] t.start 0) (fun h=>Bool.noConfusion h) kD.nil X;unfold C3;generalize nT t 17 ⟨x,k,set,jU x set,cA,false⟩ [] t.src (mY t [] t.start 0)=s' at *;have I:mE s' l=⟨(k:Nat),0,[],l⟩:=by unfold mE;rw[E.kind]
 rw[I,E.x]at U;rw[E.x,E.set]at V;rw[E.total]at O;refine⟨by omega,hs0,J,l,?_,U,V,O⟩;rw[Z];unfold JS;rw[I,E.x,E.set,E.kind]
abbrev bV(l:List Column):Row:=⟨43,7,l.map aU⟩
def GU(x:Instance)(kind set:Nat):List Column:=if((rA x (kind:Nat) (set:Nat)).2 == 0)=true then[(rA x (kind:Nat) (set:Nat)).1]else[]
def rY(x:Instance)(kind m:Nat):List Column:=(List.range m).flatMap fun s=>GU x kind (s+1)
def C7(x:Instance)(k:Nat):List Column:=(List.range k).flatMap fun kind=>rY x kind (2^x.orders.length-1)
def tP(x:Instance):List Column:=C7 x x.types.length
def BA(x:Instance)(kind m:Nat):rY x kind (m+1)=rY x kind m++GU x kind (m+1):=by unfold rY;rw[Xbi,Xcd];simp
def Dz(x:Instance)(k:Nat):C7 x (k+1)=C7 x k++rY x k (2^x.orders.length-1):=by unfold C7;rw[Xbi,Xcd];simp
def YH(x:Instance)(kind set:Nat):(GU x kind set).length<=1:=by unfold GU;split <;> simp
def AT(x:Instance)(kind:Nat):∀m,(rY x kind m).length<=m
 | 0=>Xaf _
 | m+1=>by rw[BA,Xae];have:=AT x kind m;have:=YH x kind (m+1);omega
def vE(x:Instance):∀k,(C7 x k).length<=k*2^x.orders.length
 | 0=>Xaa _
 | k+1=>by rw[Dz,Xae,Nat.succ_mul];have:=vE x k;have:=AT x k (2^x.orders.length-1);have E:0<2^x.orders.length:=Nat.two_pow_pos _;omega
def ZW{x:Instance}{kind set:Nat}{c:Column}(E:x.orders.length<=8)(h:c∈GU x kind set):BestQ x kind set c:=by
 unfold GU at h;split at h
 next F=>have:=acB (x:=x) (k:=kind) (set:=(set:Nat)) E (by simpa using F);rw[Xaw.1 h];exact this
 ·cases h
def mO{x:Instance}{c:Column}(E:x.orders.length<=8)(h:c∈tP x):∃kind set:Nat,BestQ x kind set c:=by unfold tP C7 rY at h;obtain⟨kind,_,h⟩:=List.mem_flatMap.1 h;obtain⟨s,_,h⟩:=List.mem_flatMap.1 h;exact⟨kind,s+1,ZW E h⟩
def JD(l:List Column)(c:Column):(⟨43,7,l.map aU++[aU c]⟩:Row)=bV (l++[c]):=by show _=(⟨43,7,(l++[c]).map aU⟩:Row);rw[Xal];rfl
def NY{s n:Nat}(E:n<=8):shV .shr .i64 ((s:Nat):Int) ((n:Nat):Int)=((s/2^n:Nat):Int):=by rw[wH (by omega)];simp
def aqK(x:Instance)(hE:EvalB x)(hn:x.orders.length<=8)(ht:x.types.length<=1000):NC prog 37 [.agg (aC x)] (bV (tP x)) (fun j=>.tup [.os j,int 0]):=by
 refine ncb (fun t=>t == 4) func37 rfl rfl ?_;simp only[go_sem];refine fO fun j ac aj (R:ac j=some (bV [])) N=>?_
 simp only[go_sem];refine⟨fun ρ H=>∃(k:Nat) (j:Nat),k<=x.types.length/\ρ 1=.rp (aC x) 0/\ρ 11=int (x.types.length:Nat)/\ρ 12=int k/\ρ 4=.os j/\H j=some (bV (C7 x k)),fun ρ _=>x.types.length-aR (ρ 12),⟨0,j,Xaa _,rfl,rfl,(by simp only[go_sem];rfl),rfl,R⟩,?_⟩;rintro ρ H ⟨k,j,hk,O,F,E,X,R⟩;simp only[go_sem,F,E];refine aA (fun J=>?_) (fun U=>?_)
 ·have J:=ltB (by simpa using J);have hs:=Dz x k;have ai:=vE x k;have h8:2^x.orders.length<=256:=Xam (Xau (by decide) hn) (by decide);have hp:0<2^x.orders.length:=Nat.two_pow_pos _;have al:k*2^x.orders.length<=256000:=Xam (Nat.mul_le_mul (show k<=1000 by omega) h8) (by decide);generalize am:C7 x k=A at *;simp only[go_sem,E];refine⟨fun ρ H=>∃m j:Nat,m<=2^x.orders.length-1/\ρ 1=.rp (aC x) 0/\ρ 5=int (k:Nat)/\ρ 6=int (m+1:Nat)/\ρ 11=int x.types.length/\ρ 12=int (k:Nat)/\ρ 4=.os j/\H j=some (bV (A++rY x k m)),fun ρ _=>2^x.orders.length-aR (ρ 6),⟨0,j,Xaa _,by simp only[go_sem,O,],by simp only[go_sem],(by simp only[go_sem];rfl),by simp only[go_sem,F,],E,X,by simpa[rY]using R⟩,?_⟩;rintro ρ H ⟨m,j,hm,O,e5,e6,F,E,X,R⟩;simp only[go_sem,O,e6,Xab];refine⟨by omega,aA (fun Z=>?_) (fun aa=>?_)⟩
  ·rw[NY hn]at Z;have V:(m+1)/2^x.orders.length=0:=by
    have:(((m+1)/2^x.orders.length:Nat):Int)=0:=by simpa using Z
    omega
   have af:m+1<2^x.orders.length:=(Nat.div_eq_zero_iff.1 V).resolve_left (by omega);have I:=BA x k m;have ah:=AT x k m;simp only[go_sem,O,e5,e6,];refine aG (anI x (k:Nat) ((m+1:Nat):Int) hE hn) ?_;have ae:GU x k (m+1)=if((rA x (k:Nat) ((m+1:Nat):Int)).2 == 0)=true then[(rA x (k:Nat) ((m+1:Nat):Int)).1]else[]:=rfl
   rw[ae]at I;generalize rA x (k:Nat) ((m+1:Nat):Int)=B at *;generalize rY x k m=KM at *;simp only[go_sem];refine aL fun i7 Y=>?_
   simp only[go_sem];refine cJ Y (by simp[cF]) fun ab (R7:ab i7=some (bV [B.1])) N=>?_
   replace R:=(N R).2;simp only[go_sem];apply aA <;> intro hc
   ·rw[if_pos hc]at I;simp only[go_sem,X,R7];refine aZ R ⟨rfl,rfl⟩ (by simp only[go_sem]) (by simp;omega) (fun j2 ak=>?_);simp only[go_sem,O,e5,e6,F,E,mS (show m+1<=4611686018427387904 by omega)];refine⟨⟨m+1,j2,by omega,rfl,rfl,?_⟩,by simp only[aN];omega⟩;rw[I,<-Xax,aB];exact congrArg some (JD _ _)
   ·rw[if_neg (by rw[hc];simp),Xak]at I;simp only[go_sem,O,X,e5,e6,F,E,mS (show m+1<=4611686018427387904 by omega)];refine⟨⟨m+1,j,by omega,rfl,rfl,?_⟩,by simp only[aN];omega⟩;rw[I];exact R
  ·rw[NY hn]at aa;have V:¬(m+1)/2^x.orders.length=0:=by
    have:¬(((m+1)/2^x.orders.length:Nat):Int)=0:=by simpa using aa
    omega
   have ag:¬m+1<2^x.orders.length:=fun h=>V (Nat.div_eq_of_lt h)
   have ad:m=2^x.orders.length-1:=by omega
   subst ad;simp only[go_sem,O,X,F,E,aQ k];refine⟨⟨k+1,j,J,rfl,rfl,?_⟩,msr J⟩;rw[hs];exact R
 have U:=geB hk (by simpa using U);subst U;simp only[go_sem,X];exact⟨j,rfl,R⟩
end Sq
namespace Sq
open Go.Proofs.Tryz
open Rx (bM.cutO Fu Fl Db)
open Mv (bO bR aO)
def agI{g:Nat}{cap:List AV}{p:Column->Bool}(l:List Column)(hl:l.length<=4000000000000000000)(O:aE prog g=true)(hg:∀v∈l,PC prog g ((.agg (aU v))::cap) (boo (p v))):
  PC prog 66 [.sl (l.map aU),.fn g cap] (int (pM p l 0)):=by
 refine pcd func66 rfl rfl ?_;simp only[go_sem];refine⟨fun ρ _=>∃k:Nat,k<=l.length/\ρ 0=.sl (l.map aU)/\ρ 1=.fn g cap/\ρ 7=int l.length/\ρ 8=int k/\∀u∈l.take k,p u=false,fun ρ _=>l.length-aR (ρ 8),⟨0,Xaa _,rfl,rfl,rfl,rfl,by simp⟩,?_⟩;rintro ρ H ⟨k,Y,h0,h1,V,U,J⟩;simp only[go_sem,V,U];refine aA (fun E=>?_) (fun F=>?_)
 ·have E:=aT E;obtain⟨u,I⟩:=aK E;have Z:=inB E;simp only[go_sem,h0,h1,U,aD I,Z,O];refine aG (hg u (Xac I)) ?_;simp only[go_sem];apply aA <;> intro X
  ·simp only[go_sem];exact bO (by rw[lW J I X];omega)
  ·simp only[go_sem,h0,h1,V,U,aQ k];exact⟨⟨k+1,E,rfl,aO (p:=fun u=>p u=false) I X J⟩,msr E⟩
 ·have F:=aV Y F;subst F;rw[Xad]at J;simp only[go_sem];exact bO (by rw[kS J])
def Oa(u v:Column):oV (aU u) 0 (aU v)=aU v:=(rfl)
def Ss{g:Nat}{cap cap':List AV}{p:Column->Bool}(l:List Column)(H0:aH)(F:Nat)(hj:H0 F=some ⟨43,7,l.map aU⟩)(hl:l.length<=1000000000)(af:aE prog g=true)(hg:∀v∈l,PC prog g ((.agg (aU v))::cap') (boo (p v)))
  (hc:∀H:aH,(∀k row,k≠F->H0 k=some row->H k=some row)->ConvL H cap cap') {K:AV->aH->Prop}
  (hK:∀(I:Nat) (H':aH),(∀k row,k≠F->H0 k=some row->H' k=some row)->(H0 I=none\/I=F)->H' I=some ⟨43,7,(l.filter fun v=> !p v).map aU⟩->K (.os I) H'):
  bM prog 38 [.os F,.fn g cap] H0 K:=by
 have Z:bM prog 38 [.os F,.fn g cap] H0 fun a H'=>K a H'\/∃j i row,a=.oz j 0 i/\H' j=some row/\i<=row.es.length/\∀I,H' I=none->K (.os I) (aM (aM H' j none) I (some ⟨row.e,row.sz,row.es.take i⟩)):=by
  refine bM.body (c:=f38.body.getD .skip) (fun _=>false) mixed func38 rfl (by kernel_rfl) ?_;unfold f38;simp only[Xbo];simp only[go_sem];refine fB.use ⟨[.sl (l.map aU),.fn g cap'],.cons _ _ _ _ (.row _ _ _ hj (ConvE.refl _)) (.cons _ _ _ _ (.fn _ _ _ (hc H0 fun _ _ _ h=>h)) .nil),agI l (by omega) af hg,rfl⟩ ?_;simp only[go_sem];apply aA <;> intro hb
  ·have hm:∀y∈l,p y=false:=Fu (Xbp 0) (by simpa using hb);simp only[go_sem];refine .inl (hK F H0 (fun _ _ _ h=>h) (.inr rfl) ?_);rw[List.filter_eq_self.2 (fun v V=>by rw[hm v V];rfl)];exact hj
  obtain⟨i,y,hi,hy,ao,ah⟩:=Fl (p:=p) (l:=l) (by simpa using hb);have al:=(List.getElem?_eq_some_iff.1 hy).1;rw[Int.zero_add]at hi;rw[hi];simp only[go_sem,aQ i];refine⟨fun ρ H=>∃(k m:Nat) (E:List Column),k<=l.length/\m<k/\ρ 0=.os F/\ρ 1=.fn g cap/\ρ 5=int m/\ρ 6=int k/\H F=some ⟨43,7,E.map aU⟩/\E.length=l.length/\E.take m=(l.take k).filter (fun v=> !p v)/\E.drop k=l.drop k/\∀q row,q≠F->H0 q=some row->H q=some row,fun ρ _=>l.length-aR (ρ 6),⟨i+1,i,l,al,Nat.lt_succ_self _,rfl,rfl,rfl,rfl,hj,rfl,?_,rfl,fun _ _ _ h=>h⟩,?_⟩
  ·rw[bA hy,List.filter_append,List.filter_eq_self.2 (fun v V=>by rw[ah v V];rfl)];simp[ao]
  rintro ρ H ⟨k,m,E,hk,aq,h0,h1,h5,h6,R,hE,ht,hd,hs⟩;simp only[go_sem,h0,h6,R,Xab];refine aA (fun J=>?_) (fun Y=>?_)
  ·have J:k<l.length:=by simp at J;omega
   obtain⟨v,V⟩:=aK J;have an:E[k]?=some v:=by have h2:=congrArg (fun L=>L[0]?) hd;simp only[List.getElem?_drop,Nat.add_zero]at h2;rw[h2,V]
   have b1:((0:Int)<=(k:Nat)/\((k:Nat):Int)<((E.length:Nat):Int)):=by omega
   have b2:((0:Int)<=(m:Nat)/\((m:Nat):Int)<((E.length:Nat):Int)):=by omega
   simp only[go_sem,h0,h6,R,Xab,aD an,b1];refine⟨by omega,aL fun i7 h7=>?_⟩;have ad:F≠i7:=bE R h7;simp only[go_sem];refine aI (aB _ _ _) (by simp[cF]) ?_;generalize hG:aM (aM H i7 _) i7 _=HG;have R':HG F=some ⟨43,7,E.map aU⟩:=by rw[<-hG,aJ _ _ _ _ ad,aJ _ _ _ _ ad];exact R
   have R7:HG i7=some ⟨43,7,[aU v]⟩:=by rw[<-hG,aB];rfl
   have aa:∀q row,q≠F->H0 q=some row->HG q=some row:=fun q row X h=>by
    have h2:=hs q row X h;have:q≠i7:=fun e=>by rw[e,h7]at h2;cases h2
    rw[<-hG,aJ _ _ _ _ this,aJ _ _ _ _ this];exact h2
   clear hG h7 R hs;simp only[go_sem,h1,R7,af];refine fB.use ⟨(.agg (aU v))::cap',.cons _ _ _ _ (.refl _) (hc HG aa),hg v (Xac V),rfl⟩ ?_;simp only[go_sem];refine gP (fun U H'=>U 0=.os F/\U 1=.fn g cap/\U 6=int k/\∃(m':Nat) (E':List Column),m'<k+1/\U 5=int m'/\H' F=some ⟨43,7,E'.map aU⟩/\E'.length=l.length/\E'.take m'=(l.take (k+1)).filter (fun v=> !p v)/\E'.drop (k+1)=l.drop (k+1)/\∀q row,q≠F->H0 q=some row->H' q=some row) ?_ fun K' ab _ _=>aA (fun hb=>?_) (fun hb=>?_)
   rotate_left
   ·have hp:p v=false:=by simpa using hb
    simp only[go_sem,h0,h5,R7,R',Xab,b2];refine aI R' (by simp[cF];omega) ?_;simp only[go_sem,h5,aQ m];refine ab _ _ ⟨h0,h1,h6,m+1,E.set m v,by omega,rfl,?_,by rw[List.length_set,hE],?_,?_,fun q row X h=>by rw[aJ _ _ _ _ X];exact aa q row X h⟩
    ·rw[aB,List.map_set];obtain⟨u,hu⟩:=aK (l:=E) (k:=m) (by omega);rw[aD hu];exact congrArg (fun x=>some (⟨43,7,(E.map aU).set m x⟩:Row)) (Oa u v)
    ·rw[Db E (by omega),ht,bA V,List.filter_append];simp[hp]
    ·rw[List.drop_set_of_lt (by omega),<-List.drop_drop,hd,List.drop_drop]
   ·have hp:p v=true:=by simpa using hb
    simp only[go_sem];refine ab _ _ ⟨h0,h1,h6,m,E,by omega,h5,R',hE,?_,?_,aa⟩
    ·rw[ht,bA V,List.filter_append];simp[hp]
    ·rw[<-List.drop_drop,hd,List.drop_drop]
   rintro ρ H ⟨h0,h1,h6,m',E',ae,h5,R,ak,ai,ap,am⟩;simp only[go_sem,h6,aQ k];exact⟨⟨k+1,m',E',J,ae,h0,h1,h5,rfl,R,ak,ai,ap,am⟩,msr J⟩
  ·have Y:k=l.length:=by simp at Y;omega
   subst Y;rw[Xad]at ht;have ar:m<=E.length:=by omega
   simp only[go_sem,h0,h5,R,Xab];refine⟨by omega,aiJ avH avO R (.inr ⟨_,rfl,rfl⟩) rfl ?_⟩;simp only[go_sem,h0,h5,aB];refine⟨⟨by omega,by simp;omega⟩,.inr ⟨F,m,_,rfl,aB _ _ _,?_,fun I O=>?_⟩⟩
   ·simp;omega
   have ag:I≠F:=fun e=>by rw[e,aB]at O;cases O
   rw[aJ _ _ _ _ ag]at O;have ac:H0 I=none:=by
    cases e:H0 I with
    | none=>rfl
    | some row=>rw[hs I row ag e]at O;cases O
   refine hK I _ (fun q row X h=>?_) (.inl ac) ?_
   ·have aj:q≠I:=fun e=>by rw[e,ac]at h;cases h
    rw[aJ _ _ _ _ aj,aJ _ _ _ _ X,aJ _ _ _ _ X];exact hs q row X h
   ·rw[aB];refine congrArg (fun L=>some (⟨43,7,L⟩:Row)) ?_;rw[List.take_append_of_le_length (by simp;omega),List.take_append_of_le_length (by simp;omega),Xan (by simp;omega),<-List.map_take,ht]
 exact bM.cutO Z
end Sq
namespace Nu
open Go.Nu Go.So Go.Sb
structure ColsOk(cols:List Column)(rates:List ByteArray):Prop where
 set:∀c∈cols,0<=c.set/\c.set<=9223372036854775807
 cl:cols.length<=1048576
 rl:rates.length<=1048576
 rs:∀s∈rates,s.size<=1048576
end Nu
namespace Nu
open Go.Proofs.Tryz
open Go.Nu Go.So Go.Sb
def Xu{l:List Int}{d:Int}(h:AO l d=true):1<=(l.length:Int)/\(l.length:Int)<=3/\(l.length:Int)=d/\∀n∈l,0<=n/\n<=1000:=by
 unfold AO at h;split at h
 ·cases h
 ·next h1=>
  simp only[Xbu,not_or,Xch,Xbq,bne_eq_false_iff_eq]at h1;have e:=kY.1 h1.1;exact⟨e.1,e.2,h1.2,fun n E=>kY.1 (Xaj.1 h n E)⟩
def Zk{l:List Int}{d:Int}(h:fA l d=true):(l.length:Int)=d/\∀n∈l,0<=n/\n<=1000:=by
 unfold fA at h;split at h
 ·next h1=>
  refine⟨h1,fun n E=>?_⟩;have:=Xaj.1 h n E;simp at this;omega
 ·cases h
def Up{x:Instance}(h:Acc x):LoadsOk x (kN x.types).toNat/\x.types≠[]:=by
 have E:x.types≠[]:=by intro h0;have:=h.types;rw[h0]at this;simp at this
 obtain⟨t,r,F⟩:=List.exists_cons_of_ne_nil E;have O:kN x.types=t.cap.length:=by rw[F];rfl
 have J:=Xu (h.type t (by rw[F];exact Xcw)).cap;have e:((kN x.types).toNat:Int)=kN x.types:=by omega
 refine⟨⟨by omega,by have:=h.orders;omega,by have:=h.types;omega,fun o I=>?_,fun t F=>?_⟩,E⟩
 ·have:=Zk (h.order o I).load;exact⟨by omega,this.2⟩
 ·have:=Xu (h.type t F).cap;exact⟨by omega,this.2.2.2⟩
def alN(c:Cut)(F:Nat)(h:0<=c.set)(E:c.set<9223372036854775808)(I:F<2^63):PC prog 126 [.agg (dV c),int F] (int (AX c.kind (c.set.toNat &&& F))):=by obtain⟨k,s,n⟩:=c;obtain⟨m,rfl⟩:=Int.eq_ofNat_of_zero_le h;have E:(m:Int)<9223372036854775808:=E;exact arJ k n m F (by omega) I
def apI(c:Cut)(F:Nat)(h:0<=c.set)(E:c.set<9223372036854775808)(I:F<2^63):PC prog 152 [.agg (dV c),int F] (int (AX c.kind (c.set.toNat &&& F))):=by obtain⟨k,s,n⟩:=c;obtain⟨m,rfl⟩:=Int.eq_ofNat_of_zero_le h;have E:(m:Int)<9223372036854775808:=E;exact ahI k n m F (by omega) I
end Nu
namespace Nu
open Go.Proofs.Tryz
open Go.Nu
open Dec (nN eH fI eF tY mH)
def avY(x:Instance):List Nat:=(List.range x.orders.length).filter (F8 (fun _=>true) x.orders)
def sN(x:Instance):List Int:=(avY x).map fun i:Nat=>(i:Int)
def L9(x:Instance)(k:Nat):List Int:=((List.range k).filter (F8 (fun _=>true) x.orders)).map fun i:Nat=>(i:Int)
def VK{x:Instance}{k:Nat}{o:Order}(h:x.orders[k]?=some o):L9 x (k+1)=L9 x k++(if o.off=true then[]else[(k:Int)]):=by unfold L9;rw[Xbi,List.filter_append,Xal];have e:=Jk (q:=fun _=>true) h;rw[Xbm]at e;cases E:o.off <;> simp[e,E]
def LA(x:Instance)(k:Nat):(L9 x k).length<=k:=by unfold L9;rw[Xab];exact Xam (Xcp _ _) (by rw[Xbd];exact Xaf _)
def ER(x:Instance):(sN x).length<=x.orders.length:=LA x _
def HJ{p q:Nat->Bool}{n:Nat}(h1:∀i,i<n->p i=q i)(E:∀i,n<=i->p i=false):∀m,(List.range (n+m)).filter p=(List.range n).filter q
 | 0=>List.filter_congr fun i hi=>h1 i (Xar.1 hi)
 | m+1=>by rw[<-Nat.add_assoc,Xbi,List.filter_append,HJ h1 E m];simp[E (n+m) (by omega)]
def Yt(x:Instance)(h:x.orders.length<=62):cZ (KL x:Nat)=sN x:=by
 unfold cZ qO sN avY
 congr 1
 obtain⟨m,hm⟩:∃m,63=x.orders.length+m:=⟨63-x.orders.length,by omega⟩;have F:∀i,(KL x).testBit i=(decide (i<x.orders.length)&&F8 (fun _=>true) x.orders i):=fun i=>DA _ _ _
 have E:∀i:Nat,dN ((KL x:Nat):Int) (i:Int)=(decide (i<x.orders.length)&&F8 (fun _=>true) x.orders i):=by
  intro i;by_cases hi:i<=62
  ·rw[jL hi,F]
  ·unfold dN;rw[decide_eq_false (show ¬((i:Int)<=62)by omega),decide_eq_false (show ¬i<x.orders.length by omega)];simp
 rw[hm];refine HJ (fun i hi=>?_) (fun i hi=>?_) m
 ·rw[E,decide_eq_true hi,Xbc]
 ·rw[E,decide_eq_false (by omega),Bool.false_and]
def DH(b:Bool):Int:=if b=true then 1 else 0
def Bb(d:Decision):Bool:=d.kind == 3||d.kind == 4
def DP(l:List Decision)(k:Nat):((l.take k).filter Bb).length<=k:=Xam (Xcp _ _) (by rw[Xas];omega)
def xK{α:Type}{p:α->Bool}{l:List α}{k:Nat}{a:α}(h:l[k]?=some a):(l.take (k+1)).filter p=(l.take k).filter p++(if p a=true then[a]else[]):=by
 rw[bA h,List.filter_append];by_cases E:p a=true
 ·simp[E]
 ·simp[E]
def NW(b:Bool):PC prog 150 [boo b] (int (DH b)):=by
 refine pcd func150 rfl rfl ?_;simp only[go_sem];apply aA <;> intro E
 ·simp only[go_sem];subst E;exact .refl _
 ·simp only[go_sem];subst E;exact .refl _
def amN(s:Nat)(i:Int)(E:s<2^63):PC prog 151 [int s,int i] (boo (dN s i)):=by
 refine pcd func151 rfl rfl ?_;simp only[go_sem];refine⟨fun _=>by decide,?_⟩;refine cB ?_;unfold dN;rw[decide_eq_true (show((s:Nat):Int)>=0 by omega),Xbc];by_cases h:0<=i/\i<=62
 ·obtain⟨n,rfl⟩:=Int.eq_ofNat_of_zero_le h.1;rw[show IntKind.u64.wrap ((n:Nat):Int)=((n:Nat):Int)from by show((n:Nat):Int)%18446744073709551616=_;omega,wH (by omega)];have e:((2:Int)^n)=((2^n:Nat):Int):=by norm_cast
  rw[e,<-Int.natCast_ediv,Xck (Int.natCast_nonneg _),Xaq,e,<-Int.natCast_ediv]
 ·have:(decide (i>=0)&&decide (i<=62))=false:=by simp;omega
  rw[this];rfl
def Xt(d:Decision):PC prog 83 [.agg (aS d)] (boo (Bb d)):=by refine pcd func83 rfl rfl ?_;simp only[go_sem];exact .refl _
abbrev wC(l:List Int):Row:=⟨3,1,l.map bC⟩
def Kl(x:Instance)(h:x.orders.length<=1048576):PC prog 82 [.agg (aC x)] (.sl ((sN x).map bC)):=by
 refine pcb (fun t=>t == 3) func82 rfl rfl ?_;simp only[go_sem];refine aL fun j hj=>?_
 simp only[go_sem];refine⟨fun ρ H=>∃(k:Nat) (j:Nat),k<=x.orders.length/\ρ 1=.rp (aC x) 0/\ρ 4=int k/\ρ 3=.os j/\H j=some (wC (L9 x k)),fun ρ _=>x.orders.length-aR (ρ 4),⟨0,j,Xaa _,rfl,(by simp only[go_sem];rfl),rfl,aB _ _ _⟩,?_⟩;rintro ρ H ⟨k,j,Y,J,I,U,R⟩;simp only[go_sem,J,I];refine aA (fun E=>?_) (fun F=>?_)
 ·have E:=ltB (by simpa using E);obtain⟨o,X⟩:=aK E;have Z:=inB E;have hl:=LA x k;have O:=VK X;simp only[go_sem,J,I,aD X,Z];apply aA <;> intro V
  ·rw[if_neg (by simpa using V)]at O;simp only[go_sem,I,U];refine aZ R ⟨rfl,rfl⟩ ⟨rfl,trivial⟩ (by simp;omega) (fun j' aa=>?_);simp only[go_sem,J,I,aQ k];refine⟨⟨k+1,j',E,rfl,rfl,?_⟩,msr E⟩;rw[O];exact kV rfl
  ·rw[if_pos (by simpa using V),Xak]at O;simp only[go_sem,J,I,U,aQ k];exact⟨⟨k+1,j,E,rfl,rfl,by rw[O];exact R⟩,msr E⟩
 have F:=geB Y (by simpa using F);subst F;simp only[go_sem,U];exact .row _ _ _ R (ConvE.refl _)
def Ta(x:Instance)(cuts:List Cut)(ds:List Decision):Nat:=(sN x).length+x.types.length+cuts.length+(ds.filter Bb).length
structure MIn(x:Instance)(cuts:List Cut)(ds:List Decision):Prop where
 orders:x.orders.length<=62
 types:x.types.length<=1048576
 cl:cuts.length<=1048576
 dl:ds.length<=1048576
def adX(x:Instance)(cuts:List Cut)(ds:List Decision)(h:MIn x cuts ds):PC prog 47 [.agg (aC x),.sl (cuts.map dV),.sl (ds.map aS)] (int (Ta x cuts ds:Nat)):=by
 have h1:=h.orders;have h2:=h.types;have h3:=h.cl;have h4:=h.dl;have Z:=ER x;refine pcd func47 rfl rfl ?_;simp only[go_sem];refine lQ [(0,true),(3,true),(4,true),(5,true),(7,true),(8,true),(1,false),(2,false),(6,false),(9,false),(10,false)] (by kernel_rfl) ?_;simp only[go_sem,Xab];refine aG (Kl x (by omega)) ?_;have w1:IntKind.i64.wrap (((sN x).length:Int)+(x.types.length:Int))=(((sN x).length+x.types.length:Nat):Int):=by rw[aW (by omega)];omega
 have w2:IntKind.i64.wrap ((((sN x).length+x.types.length:Nat):Int)+(cuts.length:Int))=(((sN x).length+x.types.length+cuts.length:Nat):Int):=by rw[aW (by omega)];omega
 simp only[go_sem,Xab,w1,w2];refine⟨fun ρ H=>∃(k:Nat),k<=ds.length/\ρ 2=.sl (ds.map aS)/\ρ 8=int k/\ρ 7=int ((sN x).length+x.types.length+cuts.length+((ds.take k).filter Bb).length:Nat),fun ρ _=>ds.length-aR (ρ 8),⟨0,Xaa _,rfl,(by simp only[go_sem];rfl),by simp only[go_sem];rfl⟩,?_⟩;rintro ρ H ⟨k,Y,I,O,J⟩;simp only[go_sem,I,O];refine aA (fun E=>?_) (fun F=>?_)
 ·have E:=ltB (by simpa using E);obtain⟨d,V⟩:=aK E;have b1:=inB E;have U:=xK (p:=Bb) V;have hl:=DP ds k;simp only[go_sem,I,O,aD V,b1];refine aG (Xt d) ?_;simp only[go_sem];apply aA <;> intro X
  ·rw[if_pos X]at U;have w:IntKind.i64.wrap (((((sN x).length+x.types.length+cuts.length+((ds.take k).filter Bb).length:Nat)):Int)+1)=(((sN x).length+x.types.length+cuts.length+((ds.take (k+1)).filter Bb).length:Nat):Int):=by rw[U,Xae,aW (by omega)];simp;omega
   simp only[go_sem,I,O,J,w,aQ k];exact⟨⟨k+1,E,rfl,rfl⟩,msr E⟩
  ·rw[if_neg (by rw[X];simp),Xak]at U;simp only[go_sem,I,O,J,aQ k];exact⟨⟨k+1,E,rfl,by rw[U]⟩,msr E⟩
 have F:=geB Y (by simpa using F);subst F;rw[Xad]at J;simp only[go_sem,J];exact .refl _
def aaG{α:Type}(p:α->Bool)(l:List α)(k:Nat):((l.take k).filter p).length<=k:=Xam (Xcp _ _) (by rw[Xas];omega)
def oU(x:Instance)(c:Column):List Int:=(sN x).map fun i=>DH (dN c.set i)
def lN(x:Instance)(c:Column)(k:Nat):List Int:=(List.range k).map fun t:Nat=>DH (c.type == (t:Int))
def oY(c:Column)(cuts:List Cut):List Int:=cuts.map fun q=>AX q.kind (q.set.toNat &&& c.set.toNat)
def oX(c:Column)(ds:List Decision):List Int:=(ds.filter Bb).map fun d=>DH (c.type == d.a)
def oA(x:Instance)(c:Column)(cuts:List Cut)(ds:List Decision):List Int:=oU x c++lN x c x.types.length++oY c cuts++oX c ds
structure ColB(c:Column):Prop where
 set:0<=c.set/\c.set<=9223372036854775807
structure CutsB(cuts:List Cut):Prop where
 set:∀q∈cuts,0<=q.set/\q.set<=9223372036854775807
def ZZ(x:Instance)(c:Column)(cuts:List Cut)(ds:List Decision)(h:MIn x cuts ds)(hc:ColB c)(hq:CutsB cuts):
  PC prog 87 [.agg (aC x),.agg (aU c),.sl (cuts.map dV),.sl (ds.map aS)] (.sl ((oA x c cuts ds).map bC)):=by
 have h1:=h.orders;have h2:=h.types;have h3:=h.cl;have h4:=h.dl;have ah:=ER x;obtain⟨sn,Y⟩:=Int.eq_ofNat_of_zero_le hc.set.1;have U:sn<2^63:=by have:=hc.set.2;omega
 refine pcb (fun t=>t == 9) func87 rfl rfl ?_;simp only[go_sem];refine aL fun j hj=>?_
 simp only[go_sem];refine aG (Kl x (by omega)) ?_;simp only[go_sem];refine⟨fun ρ H=>∃(k:Nat) (j:Nat),k<=(sN x).length/\ρ 2=.sl (cuts.map dV)/\ρ 3=.sl (ds.map aS)/\ρ 4=.rp (aC x) 0/\ρ 5=.rp (aU c) 0/\ρ 10=.sl ((sN x).map bC)/\ρ 11=int k/\ρ 9=.os j/\H j=some (wC (((sN x).take k).map fun i=>DH (dN c.set i))),fun ρ _=>(sN x).length-aR (ρ 11),⟨0,j,Xaa _,rfl,rfl,rfl,rfl,rfl,(by simp only[go_sem];rfl),rfl,aB _ _ _⟩,?_⟩;rintro ρ H ⟨k,j,hk,X,J,e4,I,ab,ad,O,R⟩;simp only[go_sem,ab,ad];refine aA (fun E=>?_) (fun F=>?_)
 ·have E:=ltB (by simpa using E);obtain⟨i,hi⟩:=aK E;have b1:=inB E;simp only[go_sem,b1];refine lQ [(0,true),(1,true),(2,true),(3,true),(4,true),(5,true),(6,true),(7,false),(8,false),(9,false),(10,false),(11,false)] (by kernel_rfl) ?_;simp only[go_sem,I,ab,ad,O,aD hi,b1,Y];refine aG (amN sn i U) ?_;simp only[go_sem];refine aG (NW _) ?_;simp only[go_sem];refine aZ R ⟨rfl,rfl⟩ ⟨rfl,trivial⟩ (by simp only[Xab,Xas,Xah,List.length_nil];omega) (fun j' ae=>?_);simp only[go_sem,X,J,e4,I,ab,ad,aQ k];refine⟨⟨k+1,j',E,rfl,rfl,?_⟩,msr E⟩;rw[bA hi,Xal,Y];exact kV rfl
 have F:=geB hk (by simpa using F);subst F;rw[Xad]at R
 change H j=some (wC (oU x c))at R
 simp only[go_sem];refine⟨fun ρ H=>∃(k:Nat) (j:Nat),k<=x.types.length/\ρ 2=.sl (cuts.map dV)/\ρ 3=.sl (ds.map aS)/\ρ 4=.rp (aC x) 0/\ρ 5=.rp (aU c) 0/\ρ 12=int k/\ρ 9=.os j/\H j=some (wC (oU x c++lN x c k)),fun ρ _=>x.types.length-aR (ρ 12),⟨0,j,Xaa _,by simp only[go_sem,X,],by simp only[go_sem,J,],e4,I,(by simp only[go_sem];rfl),O,by simpa[lN]using R⟩,?_⟩;rintro ρ H ⟨k,j,hk,X,J,e4,I,aa,O,R⟩;simp only[go_sem,e4,aa];refine aA (fun E=>?_) (fun F=>?_)
 ·have E:=ltB (by simpa using E);have Z:(oU x c++lN x c k).length<=62+k:=by unfold oU lN;simp only[Xae,Xab,Xbd];omega
  simp only[go_sem,I,aa,O];refine aG (NW _) ?_;simp only[go_sem];refine aZ R ⟨rfl,rfl⟩ ⟨rfl,trivial⟩ (by simp only[Xab,Xah,List.length_nil];omega) (fun j' ae=>?_);simp only[go_sem,X,J,e4,I,aa,aQ k];refine⟨⟨k+1,j',E,rfl,rfl,?_⟩,msr E⟩;have:lN x c (k+1)=lN x c k++[DH (c.type == (k:Int))]:=by unfold lN;rw[Xbi,Xal];rfl
  rw[this,<-Xax];exact kV rfl
 have F:=geB hk (by simpa using F);subst F;simp only[go_sem];refine⟨fun ρ H=>∃(k:Nat) (j:Nat),k<=cuts.length/\ρ 2=.sl (cuts.map dV)/\ρ 3=.sl (ds.map aS)/\ρ 5=.rp (aU c) 0/\ρ 13=int k/\ρ 9=.os j/\H j=some (wC (oU x c++lN x c x.types.length++oY c (cuts.take k))),fun ρ _=>cuts.length-aR (ρ 13),⟨0,j,Xaa _,by simp only[go_sem,X,],J,I,(by simp only[go_sem];rfl),O,by simpa[oY]using R⟩,?_⟩;rintro ρ H ⟨k,j,hk,X,J,I,af,O,R⟩;simp only[go_sem,X,af];refine aA (fun E=>?_) (fun F=>?_)
 ·have E:=ltB (by simpa using E);obtain⟨q,ac⟩:=aK E;have b1:=inB E;have ag:=hq.set q (Xac ac);have Z:(oU x c++lN x c x.types.length++oY c (cuts.take k)).length<=62+1048576+1048576:=by unfold oU lN oY;simp only[Xae,Xab,Xbd,Xas];omega
  simp only[go_sem,b1];refine lQ [(0,true),(1,true),(2,true),(3,true),(4,true),(5,true),(6,true),(7,false),(8,false),(9,false),(10,false)] (by kernel_rfl) ?_;simp only[go_sem,X,I,af,O,aD ac,b1,Y];refine aG (apI q sn ag.1 (by omega) U) ?_;simp only[go_sem];refine aZ R ⟨rfl,rfl⟩ ⟨rfl,trivial⟩ (by simp only[Xab,Xah,List.length_nil];omega) (fun j' ae=>?_);simp only[go_sem,X,J,I,af,aQ k];refine⟨⟨k+1,j',E,rfl,rfl,?_⟩,msr E⟩;have:oY c (cuts.take (k+1))=oY c (cuts.take k)++[AX q.kind (q.set.toNat &&& sn)]:=by unfold oY;rw[bA ac,Xal,Y];rfl
  rw[this,<-Xax];exact kV rfl
 have F:=geB hk (by simpa using F);subst F;rw[Xad]at R;simp only[go_sem];refine⟨fun ρ H=>∃(k:Nat) (j:Nat),k<=ds.length/\ρ 3=.sl (ds.map aS)/\ρ 5=.rp (aU c) 0/\ρ 14=int k/\ρ 9=.os j/\H j=some (wC (oU x c++lN x c x.types.length++oY c cuts++oX c (ds.take k))),fun ρ _=>ds.length-aR (ρ 14),⟨0,j,Xaa _,J,I,(by simp only[go_sem];rfl),O,by simpa[oX]using R⟩,?_⟩;rintro ρ H ⟨k,j,hk,J,I,V,O,R⟩;simp only[go_sem,J,V];refine aA (fun E=>?_) (fun F=>?_)
 ·have E:=ltB (by simpa using E);obtain⟨d,hd⟩:=aK E;have b1:=inB E;have hs:=xK (p:=Bb) hd;have Z:(oU x c++lN x c x.types.length++oY c cuts++oX c (ds.take k)).length<=62+1048576+1048576+1048576:=by have:=DP ds k;unfold oU lN oY oX;simp only[Xae,Xab,Xbd];omega
  simp only[go_sem,J,V,aD hd,b1];refine aG (Xt d) ?_;simp only[go_sem];apply aA <;> intro hb
  ·rw[if_pos hb]at hs;have:oX c (ds.take (k+1))=oX c (ds.take k)++[DH (d.a == c.type)]:=by unfold oX;rw[hs,Xal,Xbf,Xbv,show(d.a == c.type)=(c.type == d.a)from BEq.comm]
   simp only[go_sem];refine lQ [(0,true),(1,true),(2,true),(3,true),(4,true),(5,true),(6,true),(7,true),(8,true),(9,false),(10,false),(11,false),(12,false)] (by kernel_rfl) ?_;simp only[go_sem,J,I,V,O,aD hd,b1];refine aG (NW _) ?_;simp only[go_sem];refine aZ R ⟨rfl,rfl⟩ ⟨rfl,trivial⟩ (by simp only[Xab,Xah,List.length_nil];omega) (fun j' ae=>?_);simp only[go_sem,J,I,V,aQ k];refine⟨⟨k+1,j',E,rfl,rfl,?_⟩,msr E⟩;rw[this,<-Xax];exact kV rfl
  ·rw[if_neg (by rw[hb];simp),Xak]at hs;simp only[go_sem,J,I,V,O,aQ k];refine⟨⟨k+1,j,E,rfl,rfl,?_⟩,msr E⟩;have:oX c (ds.take (k+1))=oX c (ds.take k):=by unfold oX;rw[hs]
   rw[this];exact R
 have F:=geB hk (by simpa using F);subst F;rw[Xad]at R;simp only[go_sem,O];exact .row _ _ _ R (ConvE.refl _)
def atU(d:Decision):PC prog 127 [.agg (aS d)] (boo (Bb d)):=by refine pcd func127 rfl rfl ?_;simp only[go_sem];exact .refl _
def SF(b:Bool):PC prog 125 [boo b] (int (DH b)):=by
 refine pcd func125 rfl rfl ?_;simp only[go_sem];apply aA <;> intro E
 ·simp only[go_sem];subst E;exact .refl _
 ·simp only[go_sem];subst E;exact .refl _
def apJ(x:Instance)(c:Column)(cuts:List Cut)(ds:List Decision)(h:MIn x cuts ds)(hc:ColB c)(hq:CutsB cuts):
  PC prog 72 [.agg (aC x),.agg (aU c),.sl (cuts.map dV),.sl (ds.map aS)] (.sl ((oA x c cuts ds).map bC)):=by
 have h1:=h.orders;have h2:=h.types;have h3:=h.cl;have h4:=h.dl;have ay:=ER x;obtain⟨sn,ao⟩:=Int.eq_ofNat_of_zero_le hc.set.1;have Z:sn<2^63:=by have:=hc.set.2;omega
 refine pcb (fun t=>t == 9) func72 rfl rfl ?_;simp only[go_sem];refine fO fun j av ar (R:av j=some (wC [])) N=>?_
 clear N ar;simp only[go_sem];refine aG (agO x h1) ?_;simp only[go_sem];refine aG (mU _) ?_;rw[Yt x h1];simp only[go_sem];refine⟨fun ρ H=>∃(k:Nat) (j:Nat),k<=(sN x).length/\ρ 2=.sl (cuts.map dV)/\ρ 3=.sl (ds.map aS)/\ρ 4=.rp (aC x) 0/\ρ 5=.rp (aU c) 0/\ρ 19=.sl ((sN x).map bC)/\ρ 20=int ((sN x).length:Nat)/\ρ 21=int k/\ρ 9=.os j/\H j=some (wC (((sN x).take k).map fun i=>DH (dN c.set i))),fun ρ _=>(sN x).length-aR (ρ 21),⟨0,j,Xaa _,rfl,rfl,rfl,rfl,rfl,rfl,(by simp only[go_sem];rfl),rfl,R⟩,?_⟩;rintro ρ H ⟨k,j,hk,e2,Y,e4,I,am,ap,aa,J,R⟩;simp only[go_sem,ap,aa];refine aA (fun E=>?_) (fun F=>?_)
 ·have E:=ltB (by simpa using E);obtain⟨i,hi⟩:=aK E;have b1:=inB E;simp only[go_sem,I,am,aa,J,aD hi,b1];refine aG (yJ _ i) ?_;simp only[go_sem];refine aG (SF _) ?_;simp only[go_sem];refine aZ R ⟨rfl,rfl⟩ ⟨rfl,trivial⟩ (by simp only[Xab,Xas,Xah,List.length_nil];omega) (fun j' ai=>?_);simp only[go_sem,e2,Y,e4,I,am,ap,aa,aQ k];refine⟨⟨k+1,j',E,rfl,rfl,?_⟩,msr E⟩;rw[bA hi,Xal];exact kV rfl
 have F:=geB hk (by simpa using F);subst F;rw[Xad]at R
 change H j=some (wC (oU x c))at R
 simp only[go_sem,e4,Xab];refine⟨fun ρ H=>∃(k:Nat) (j:Nat),k<=x.types.length/\ρ 2=.sl (cuts.map dV)/\ρ 3=.sl (ds.map aS)/\ρ 5=.rp (aU c) 0/\ρ 36=int (x.types.length:Nat)/\ρ 37=int k/\ρ 9=.os j/\H j=some (wC (oU x c++lN x c k)),fun ρ _=>x.types.length-aR (ρ 37),⟨0,j,Xaa _,by simp only[go_sem,e2,],Y,I,by simp only[go_sem],(by simp only[go_sem];rfl),J,by simpa[lN]using R⟩,?_⟩;rintro ρ H ⟨k,j,hk,e2,Y,I,ak,af,J,R⟩;simp only[go_sem,ak,af];refine aA (fun E=>?_) (fun F=>?_)
 ·have E:=ltB (by simpa using E);have X:(oU x c++lN x c k).length<=62+k:=by unfold oU lN;simp only[Xae,Xab,Xbd];omega
  simp only[go_sem,I,af,J];refine aG (SF _) ?_;simp only[go_sem];refine aZ R ⟨rfl,rfl⟩ ⟨rfl,trivial⟩ (by simp only[Xab,Xah,List.length_nil];omega) (fun j' ai=>?_);simp only[go_sem,e2,Y,I,ak,af,aQ k];refine⟨⟨k+1,j',E,rfl,rfl,?_⟩,msr E⟩;have:lN x c (k+1)=lN x c k++[DH (c.type == (k:Int))]:=by unfold lN;rw[Xbi,Xal];rfl
  rw[this,<-Xax];exact kV rfl
 have F:=geB hk (by simpa using F);subst F;simp only[go_sem,e2,Xab];refine⟨fun ρ H=>∃(k:Nat) (j:Nat),k<=cuts.length/\ρ 3=.sl (ds.map aS)/\ρ 5=.rp (aU c) 0/\ρ 49=.sl (cuts.map dV)/\ρ 50=int (cuts.length:Nat)/\ρ 51=int k/\ρ 9=.os j/\H j=some (wC (oU x c++lN x c x.types.length++oY c (cuts.take k))),fun ρ _=>cuts.length-aR (ρ 51),⟨0,j,Xaa _,Y,I,by simp only[go_sem],by simp only[go_sem],(by simp only[go_sem];rfl),J,by simpa[oY]using R⟩,?_⟩;rintro ρ H ⟨k,j,hk,Y,I,an,aj,ah,J,R⟩;simp only[go_sem,aj,ah];refine aA (fun E=>?_) (fun F=>?_)
 ·have E:=ltB (by simpa using E);obtain⟨q,ab⟩:=aK E;have b1:=inB E;have au:=hq.set q (Xac ab);have X:(oU x c++lN x c x.types.length++oY c (cuts.take k)).length<=62+1048576+1048576:=by unfold oU lN oY;simp only[Xae,Xab,Xbd,Xas];omega
  simp only[go_sem,an,ah,aD ab,b1];refine aL fun ax U=>?_
  simp only[go_sem];refine cJ U (by simp[AR]) fun ae (aq:ae ax=some (⟨102,3,[dV q]⟩)) N=>?_
  replace R:=(N R).2;clear N U;simp only[go_sem,I,J,aq];rw[ao];refine aG (alN q sn au.1 (by omega) Z) ?_;simp only[go_sem];refine aZ R ⟨rfl,rfl⟩ ⟨rfl,trivial⟩ (by simp only[Xab,Xah,List.length_nil];omega) (fun j' ai=>?_);simp only[go_sem,Y,I,an,aj,ah,aQ k];refine⟨⟨k+1,j',E,rfl,rfl,?_⟩,msr E⟩;have:oY c (cuts.take (k+1))=oY c (cuts.take k)++[AX q.kind (q.set.toNat &&& sn)]:=by unfold oY;rw[bA ab,Xal,ao];rfl
  rw[this,<-Xax];exact kV rfl
 have F:=geB hk (by simpa using F);subst F;rw[Xad]at R;simp only[go_sem,Y,Xab];refine⟨fun ρ H=>∃(k:Nat) (j:Nat),k<=ds.length/\ρ 5=.rp (aU c) 0/\ρ 63=.sl (ds.map aS)/\ρ 64=int (ds.length:Nat)/\ρ 65=int k/\ρ 9=.os j/\H j=some (wC (oU x c++lN x c x.types.length++oY c cuts++oX c (ds.take k))),fun ρ _=>ds.length-aR (ρ 65),⟨0,j,Xaa _,I,rfl,by simp only[go_sem],(by simp only[go_sem];rfl),J,by simpa[oX]using R⟩,?_⟩;rintro ρ H ⟨k,j,hk,I,ad,ag,V,J,R⟩;simp only[go_sem,ag,V];refine aA (fun E=>?_) (fun F=>?_)
 ·have E:=ltB (by simpa using E);obtain⟨d,hd⟩:=aK E;have b1:=inB E;have hs:=xK (p:=Bb) hd;have X:(oU x c++lN x c x.types.length++oY c cuts++oX c (ds.take k)).length<=62+1048576+1048576+1048576:=by have:=DP ds k;unfold oU lN oY oX;simp only[Xae,Xab,Xbd];omega
  simp only[go_sem,ad,V,aD hd,b1];refine aL fun aw O=>?_
  simp only[go_sem];refine cJ O (by simp[mM]) fun ac (al:ac aw=some (⟨128,4,[aS d]⟩)) N=>?_
  replace R:=(N R).2;clear N O;simp only[go_sem,al];refine aG (atU d) ?_;simp only[go_sem];apply aA <;> intro hb
  ·rw[if_pos hb]at hs;have:oX c (ds.take (k+1))=oX c (ds.take k)++[DH (c.type == d.a)]:=by unfold oX;rw[hs,Xal,Xbf,Xbv]
   simp only[go_sem,I,J,al];refine aG (SF _) ?_;simp only[go_sem];refine aZ R ⟨rfl,rfl⟩ ⟨rfl,trivial⟩ (by simp only[Xab,Xah,List.length_nil];omega) (fun j' ai=>?_);simp only[go_sem,I,ad,ag,V,aQ k];refine⟨⟨k+1,j',E,rfl,rfl,?_⟩,msr E⟩;rw[this,<-Xax];exact kV rfl
  ·rw[if_neg (by rw[hb];simp),Xak]at hs;simp only[go_sem,I,ad,ag,V,J,aQ k];refine⟨⟨k+1,j,E,rfl,rfl,?_⟩,msr E⟩;have:oX c (ds.take (k+1))=oX c (ds.take k):=by unfold oX;rw[hs]
   rw[this];exact R
 have F:=geB hk (by simpa using F);subst F;rw[Xad]at R;simp only[go_sem,J];exact .row _ _ _ R (ConvE.refl _)
def inM(cols:List Column)(ds:List Decision):List Column:=cols.filter fun c=>ds.all fun d=>fI d c.set
abbrev XZ(l:List Column):Row:=⟨43,7,l.map aU⟩
def cO(x:Instance)(c:Column)(cuts:List Cut)(ds:List Decision)(dual:List ByteArray):ByteArray×Int:=
 if dual.length≠(oA x c cuts ds).length then(emp,2)else if(lL (oA x c cuts ds) dual).2≠0 then(emp,(lL (oA x c cuts ds) dual).2)else D6 (zed c.price) (lL (oA x c cuts ds) dual).1
def Iv{n:Int}(h0: -9223372036854775808<=n)(h1:n<=9223372036854775807):(zed n).size<=8194:=by have:=Go.Nu.dT (m:=n) (Ob (k:=20) (by omega) (by omega));omega
def NJ(b:Bool):DH b=0\/DH b=1:=by cases b <;> simp[DH]
def ahO(k:Int)(n:Nat):AX k n=0\/AX k n=1:=by unfold AX;split <;> simp
def LU{x:Instance}{c:Column}{cuts:List Cut}{ds:List Decision}{n:Int}(h:n∈oA x c cuts ds):n=0\/n=1:=by
 unfold oA oU lN oY oX at h;simp only[Xba,Xbe]at h;rcases h with((⟨i,_,rfl⟩|⟨i,_,rfl⟩)|⟨i,_,rfl⟩)|⟨i,_,rfl⟩
 ·exact NJ _
 ·exact NJ _
 ·exact ahO _ _
 ·exact NJ _
def Va(x:Instance)(c:Column)(cuts:List Cut)(ds:List Decision)(dual:List ByteArray)(h:MIn x cuts ds)(X:ColB c)(U:CutsB cuts)(I: -9223372036854775808<=c.price/\c.price<=9223372036854775807)(V:dual.length<=1048576)(hs:∀s∈dual,s.size<=1048576):
  PC prog 43 [.agg (aC x),.agg (aU c),.sl (cuts.map dV),.sl (ds.map aS),.sl (dual.map Go.Aw.D.fE)] (.tup [str (cO x c cuts ds dual).1,int (cO x c cuts ds dual).2]):=by
 refine pcd func43 rfl rfl ?_;simp only[go_sem];refine aG (apJ x c cuts ds h X U) ?_;have J:∀n∈oA x c cuts ds,-9223372036854775808<=n/\n<=9223372036854775807:=fun n Z=>by rcases LU Z with e|e <;> omega
 unfold cO;generalize oA x c cuts ds=L at *;simp only[go_sem,Xab];refine aA (fun E=>?_) (fun E=>?_)
 ·rw[if_pos (by simp at E;omega)];simp only[go_sem];exact .refl _
 rw[if_neg (by simp at E;omega)];simp only[go_sem];refine aG (abW L dual J V hs) ?_;have O:=Gf (ns:=L) (xs:=dual);generalize lL L dual=T at *;obtain⟨t,e⟩:=T;simp only[go_sem];refine aA (fun E=>?_) (fun E=>?_)
 ·have F:e≠0:=by simpa using E
  rw[if_pos F];simp only[go_sem];exact .refl _
 have F:e=0:=by simpa using E
 rw[if_neg (by simpa using F)];have Y:=oD (O F);simp only[go_sem];refine aG (Eu c.price I.1 I.2) ?_;simp only[go_sem];have hz:=Iv I.1 I.2;refine aG (BX (zed c.price) t (by omega) (by simp only at Y;omega)) ?_;simp only[go_sem];exact .refl _
end Nu
namespace Nu
open Go.Proofs.Tryz
open Go.Nu
abbrev GQ(f:Nat->Nat)(i:Nat)(r:PRow):List AV:=[.os (f i),int r.kind,int r.right]
abbrev abO(f:Nat->Nat)(rows:List PRow):Row:=⟨184,3,rows.mapIdx (GQ f)⟩
def S9(f:Nat->Nat)(k c:Nat):Nat->Nat:=fun i=>if i=k then c else f i
structure LinH(H:aH)(jr:Nat)(f:Nat->Nat)(rows:List PRow):Prop where
 row:H jr=some (abO f rows)
 coef:∀(i:Nat) (r:PRow),rows[i]?=some r->H (f i)=some (wC r.coef)
 inj:∀i k,i<rows.length->k<rows.length->f i=f k->i=k
def aaN(f:Nat->Nat)(rows:List PRow)(c:Nat)(F E:Int):rows.mapIdx (GQ f)++[[.os c,int F,int E]]=(rows++[(⟨[],F,E⟩:PRow)]).mapIdx (GQ (S9 f rows.length c)):=by
 rw[List.mapIdx_append]
 congr 1
 ·refine List.ext_getElem? fun i=>?_
  rw[List.getElem?_mapIdx,List.getElem?_mapIdx];cases h:rows[i]? with
  | none=>rfl
  | some r=>have I:=(List.getElem?_eq_some_iff.1 h).1;show some (GQ f i r)=some (GQ (S9 f rows.length c) i r);unfold GQ S9;rw[if_neg (by omega)]
 ·simp[GQ,S9]
structure RowsS(H0 H:aH)(j:Nat)(f:Nat->Nat)(rows:List PRow):Prop where
 lin:LinH H j f rows
 keep:∀k row,H0 k=some row->H k=some row
 nj:H0 j=none
 nf:∀i,i<rows.length->H0 (f i)=none
def Me{H0 H:aH}(h:∀k row,H0 k=some row->H k=some row){c:Nat}(E:H c=none):H0 c=none:=by
 cases e:H0 c with
 | none=>rfl
 | some row=>rw[h c row e]at E;cases E
def LinH.ne{H:aH}{j:Nat}{f:Nat->Nat}{rows:List PRow}(h:LinH H j f rows){i:Nat}(hi:i<rows.length):f i≠j:=fun e=>by obtain⟨r,F⟩:=aK hi;have h1:=h.coef i r F;rw[e,h.row]at h1;have E:(abO f rows).e=(wC r.coef).e:=congrArg Row.e (Option.some.inj h1);exact absurd (show(184:Nat)=3 from E) (by decide)
def LinH.new{H:aH}{j:Nat}{f:Nat->Nat}{rows:List PRow}(h:LinH H j f rows){i:Nat}(hi:H i=none)(a:Option Row):LinH (aM H i a) j f rows:=by
 refine⟨?_,fun k r E=>?_,h.inj⟩
 ·rw[aJ _ _ _ _ (fun e=>by subst e;rw[h.row]at hi;cases hi)];exact h.row
 ·have:=h.coef k r E;rw[aJ _ _ _ _ (fun e=>by rw[e,hi]at this;cases this)];exact this
def RowsS.new{H0 H:aH}{j:Nat}{f:Nat->Nat}{rows:List PRow}(h:RowsS H0 H j f rows){i:Nat}(hi:H i=none)(a b:Option Row):RowsS H0 (aM (aM H i a) i b) j f rows:=by
 have e:aM (aM H i a) i b=aM H i b:=by
  funext k;by_cases e:k=i
  ·subst e;rw[aB,aB]
  ·rw[aJ _ _ _ _ e,aJ _ _ _ _ e,aJ _ _ _ _ e]
 rw[e];refine⟨h.lin.new hi b,fun k row E=>?_,h.nj,h.nf⟩;have:=h.keep k row E;rw[aJ _ _ _ _ (fun e=>by subst e;rw[hi]at this;cases this)];exact this
def RowsS.app{H0 H:aH}{j:Nat}{f:Nat->Nat}{rows:List PRow}(h:RowsS H0 H j f rows){c Y:Nat}(X:H c=none)(O:aM H c (some (wC [])) Y=none)(kd rt:Int):
  RowsS H0 (aM (aM (aM H c (some (wC []))) j none) Y (some ⟨184,3,rows.mapIdx (GQ f)++[[.os c,int kd,int rt]]⟩)) Y (S9 f rows.length c) (rows++[⟨[],kd,rt⟩]):=by
 have Z:c≠Y:=fun e=>by subst e;rw[aB]at O;cases O
 have J:H Y=none:=by rwa [aJ _ _ _ _ Z.symm]at O
 have ab:c≠j:=fun e=>by subst e;rw[h.lin.row]at X;cases X
 refine⟨⟨?_,fun i r V=>?_,fun i k hi U E=>?_⟩,fun k row U=>?_,Me h.keep J,fun i hi=>?_⟩
 ·rw[aB,aaN]
 ·unfold S9;by_cases e:i=rows.length
  ·subst e;rw[if_pos rfl,aJ _ _ _ _ Z,aJ _ _ _ _ ab,aB];have:r=⟨[],kd,rt⟩:=by simpa using V.symm
   rw[this]
  ·have aa:i<rows.length:=by have:=(List.getElem?_eq_some_iff.1 V).1;rw[Xae]at this;simp at this;omega
   rw[if_neg e];rw[List.getElem?_append_left aa]at V;have F:=h.lin.coef i r V;rw[aJ _ _ _ _ (fun e=>by rw[e,J]at F;cases F),aJ _ _ _ _ (h.lin.ne aa),aJ _ _ _ _ (fun e=>by rw[e,X]at F;cases F)];exact F
 ·have I : ∀ i, i < rows.length -> f i ≠ c := fun i hi e => by obtain⟨r,V⟩:=aK hi;have:=h.lin.coef i r V;rw[e,X]at this;cases this
  rw[Xae]at hi U;simp at hi U;unfold S9 at E;by_cases e1:i=rows.length
  ·by_cases e2:k=rows.length
   ·omega
   ·rw[if_pos e1,if_neg e2]at E;exact absurd E.symm (I k (by omega))
  ·by_cases e2:k=rows.length
   ·rw[if_neg e1,if_pos e2]at E;exact absurd E (I i (by omega))
   ·rw[if_neg e1,if_neg e2]at E;exact h.lin.inj i k (by omega) (by omega) E
 ·have F:=h.keep k row U;rw[aJ _ _ _ _ (fun e=>by rw[e,J]at F;cases F),aJ _ _ _ _ (fun e=>by rw[e,h.nj]at U;cases U),aJ _ _ _ _ (fun e=>by rw[e,X]at F;cases F)];exact F
 ·unfold S9;by_cases e:i=rows.length
  ·rw[if_pos e];exact Me h.keep X
  ·rw[if_neg e];rw[Xae]at hi;simp at hi;exact h.nf i (by omega)
def PX(d:Decision):Option PRow:=if d.kind=3 then some ⟨[],1,d.n⟩else if d.kind=4 then some ⟨[],3,d.n⟩else none
def GX(k:Nat):List PRow:=List.replicate k ⟨[],2,1⟩
def A0(l:List VType):List PRow:=l.map fun t=>⟨[],1,t.count⟩
def AW(l:List Cut):List PRow:=l.map fun q=>⟨[],(EP q).1,(EP q).2⟩
def wS(l:List Decision):List PRow:=l.filterMap PX
def CV(x:Instance)(cuts:List Cut)(ds:List Decision):List PRow:=GX (sN x).length++A0 x.types++AW cuts++wS ds
def No(ds:List Decision):(wS ds).length=(ds.filter Bb).length:=by
 unfold wS;induction ds with
 | nil=>rfl
 | cons d l ih=>
  rw[List.filterMap_cons,List.filter_cons];by_cases E:d.kind=3
  ·rw[show PX d=some ⟨[],1,d.n⟩from if_pos E,if_pos (show Bb d=true by simp[Bb,E])]
   try simp only[Xah,ih]
  ·by_cases F:d.kind=4
   ·rw[show PX d=some ⟨[],3,d.n⟩from(if_neg E).trans (if_pos F),if_pos (show Bb d=true by simp[Bb,F])]
    try simp only[Xah,ih]
   ·rw[show PX d=none from(if_neg E).trans (if_neg F),if_neg (show ¬Bb d=true by simp[Bb,E,F])]
    try exact ih
def Yv(x:Instance)(cuts:List Cut)(ds:List Decision):(CV x cuts ds).length=Ta x cuts ds:=by unfold CV GX A0 AW Ta;simp only[Xae,Xab,Xct,No]
def Ig{ds:List Decision}{k:Nat}{d:Decision}(h:ds[k]?=some d):wS (ds.take (k+1))=wS (ds.take k)++(PX d).toList:=by
 unfold wS;rw[bA h,List.filterMap_append]
 congr 1
def anQ(x:Instance)(cuts:List Cut)(ds:List Decision)(h:MIn x cuts ds)(H0:aH)(K:AV->aH->Prop)(hK:∀j f Hn,RowsS H0 Hn j f (CV x cuts ds)->K (.os j) Hn):
  bM prog 71 [.agg (aC x),.sl (cuts.map dV),.sl (ds.map aS)] H0 K:=by
 have h1:=h.orders;have h2:=h.types;have h3:=h.cl;have h4:=h.dl;have ar:=ER x;refine bM.body (c:=f71.body.getD .skip) (fun t=>t == 7||t == 23||t == 37||t == 55||t == 72||t == 80) mixed func71 rfl (by kernel_rfl) ?_;unfold f71;simp only[Xbo];simp only[go_sem];refine aL fun j hj=>?_
 have S:RowsS H0 (aM H0 j (some ⟨184,3,[]⟩)) j id []:=by refine⟨⟨aB _ _ _,fun i r hr=>(by simp at hr),fun i k hi=>absurd hi (by simp)⟩,fun k row X=>?_,hj,fun i hi=>absurd hi (by simp)⟩;rw[aJ _ _ _ _ (fun e=>by subst e;rw[hj]at X;cases X)];exact X
 generalize aM H0 j _=H1 at S |-;simp only[go_sem];refine aG (agO x h1) ?_;simp only[go_sem];refine aG (mU _) ?_;rw[Yt x h1];simp only[go_sem,Xab];refine⟨fun ρ H=>∃(k:Nat) (j:Nat) (f:Nat->Nat),k<=(sN x).length/\ρ 1=.sl (cuts.map dV)/\ρ 2=.sl (ds.map aS)/\ρ 3=.rp (aC x) 0/\ρ 19=int ((sN x).length:Nat)/\ρ 20=int k/\ρ 7=.os j/\RowsS H0 H j f (GX k),fun ρ _=>(sN x).length-aR (ρ 20),⟨0,j,id,Xaa _,rfl,rfl,rfl,rfl,(by simp only[go_sem];rfl),rfl,S⟩,?_⟩;rintro ρ H ⟨k,j,f,X,e1,e2,e3,am,an,V,S⟩;simp only[go_sem,am,an];refine aA (fun E=>?_) (fun F=>?_)
 ·have E:=ltB (by simpa using E);simp only[go_sem,V];refine aL fun c U=>?_
  have R:=(S.lin.new U (some (wC []))).row;refine aZ R ⟨rfl,rfl⟩ ⟨rfl,trivial⟩ (by simp only[List.length_mapIdx,GX,Xct,Xah,List.length_nil];omega) (fun j' I=>?_);have O:=S.app U I 2 1;have e:GX (k+1)=GX k++[⟨[],2,1⟩]:=List.replicate_succ';rw[<-e]at O;simp only[go_sem,e1,e2,e3,am,an,aQ k];exact⟨⟨k+1,j',_,E,rfl,rfl,O⟩,msr E⟩
 have F:=geB X (by simpa using F);subst F;simp only[go_sem,e3,Xab];generalize hB:GX (sN x).length=B at S;have aq:B.length<=62:=by rw[<-hB];unfold GX;rw[Xct];omega
 refine⟨fun ρ H=>∃(k:Nat) (j:Nat) (f:Nat->Nat),k<=x.types.length/\ρ 1=.sl (cuts.map dV)/\ρ 2=.sl (ds.map aS)/\ρ 28=.sl (x.types.map bF)/\ρ 29=int (x.types.length:Nat)/\ρ 30=int k/\ρ 7=.os j/\RowsS H0 H j f (B++A0 (x.types.take k)),fun ρ _=>x.types.length-aR (ρ 30),⟨0,j,f,Xaa _,e1,e2,by simp only[go_sem],by simp only[go_sem],(by simp only[go_sem];rfl),V,by simpa[A0]using S⟩,?_⟩;rintro ρ H ⟨k,j,f,X,e1,e2,al,ak,af,V,S⟩;simp only[go_sem,ak,af];refine aA (fun E=>?_) (fun F=>?_)
 ·have E:=ltB (by simpa using E);obtain⟨t,ht⟩:=aK E;have b1:=inB E;have ad:(B++A0 (x.types.take k)).length<=62+k:=by unfold A0;simp only[Xae,Xab,Xas];omega
  simp only[go_sem,al,af,aD ht,b1];refine aL fun Y h9=>?_
  simp only[go_sem];refine aI (aB _ _ _) (by simp[iP]) ?_;have J:=S.new h9;generalize Z:aM (aM H Y _) Y _=HG;replace J:RowsS H0 HG j f (B++A0 (x.types.take k)):=by rw[<-Z];exact J _ _
  have R9:HG Y=some (⟨95,14,[bF t]⟩:Row):=by rw[<-Z,aB];rfl
  clear Z h9;simp only[go_sem,V,R9];refine aL fun c U=>?_
  have R:=(J.lin.new U (some (wC []))).row;refine aZ R ⟨rfl,rfl⟩ ⟨rfl,trivial⟩ (by simp only[List.length_mapIdx,Xah,List.length_nil];omega) (fun j' I=>?_);have O:=J.app U I 1 t.count;have e:B++A0 (x.types.take (k+1))=B++A0 (x.types.take k)++[⟨[],1,t.count⟩]:=by unfold A0;rw[bA ht,Xal,Xax];rfl
  rw[<-e]at O;simp only[go_sem,e1,e2,al,ak,af,aQ k];exact⟨⟨k+1,j',_,E,rfl,rfl,O⟩,msr E⟩
 have F:=geB X (by simpa using F);subst F;rw[Xad]at S;simp only[go_sem,e1,Xab];generalize ai:B++A0 x.types=B2 at S;have ap:B2.length<=62+1048576:=by rw[<-ai];unfold A0;rw[Xae,Xab];omega
 refine⟨fun ρ H=>∃(k:Nat) (j:Nat) (f:Nat->Nat),k<=cuts.length/\ρ 2=.sl (ds.map aS)/\ρ 41=.sl (cuts.map dV)/\ρ 42=int (cuts.length:Nat)/\ρ 43=int k/\ρ 7=.os j/\RowsS H0 H j f (B2++AW (cuts.take k)),fun ρ _=>cuts.length-aR (ρ 43),⟨0,j,f,Xaa _,e2,rfl,by simp only[go_sem],(by simp only[go_sem];rfl),V,by simpa[AW]using S⟩,?_⟩;rintro ρ H ⟨k,j,f,X,e2,ah,ag,ae,V,S⟩;simp only[go_sem,ag,ae];refine aA (fun E=>?_) (fun F=>?_)
 ·have E:=ltB (by simpa using E);obtain⟨q,hq⟩:=aK E;have b1:=inB E;have ad:(B2++AW (cuts.take k)).length<=62+1048576+k:=by unfold AW;simp only[Xae,Xab,Xas];omega
  simp only[go_sem,ah,ae,aD hq,b1];refine aL fun Y h9=>?_
  simp only[go_sem];refine aI (aB _ _ _) (by simp[AR]) ?_;have J:=S.new h9;generalize Z:aM (aM H Y _) Y _=HG;replace J:RowsS H0 HG j f (B2++AW (cuts.take k)):=by rw[<-Z];exact J _ _
  have R9:HG Y=some (⟨102,3,[dV q]⟩:Row):=by rw[<-Z,aB];rfl
  clear Z h9;simp only[go_sem,R9];refine aG (awG q) ?_;simp only[go_sem,V];refine aL fun c U=>?_
  have R:=(J.lin.new U (some (wC []))).row;refine aZ R ⟨rfl,rfl⟩ ⟨rfl,trivial⟩ (by simp only[List.length_mapIdx,Xah,List.length_nil];omega) (fun j' I=>?_);have O:=J.app U I (EP q).1 (EP q).2;have e:B2++AW (cuts.take (k+1))=B2++AW (cuts.take k)++[⟨[],(EP q).1,(EP q).2⟩]:=by unfold AW;rw[bA hq,Xal,Xax];rfl
  rw[<-e]at O;simp only[go_sem,e2,ah,ag,ae,aQ k];exact⟨⟨k+1,j',_,E,rfl,rfl,O⟩,msr E⟩
 have F:=geB X (by simpa using F);subst F;rw[Xad]at S;simp only[go_sem,e2,Xab];generalize aj:B2++AW cuts=B3 at S;have ao:B3.length<=62+1048576+1048576:=by rw[<-aj];unfold AW;rw[Xae,Xab];omega
 refine⟨fun ρ H=>∃(k:Nat) (j:Nat) (f:Nat->Nat),k<=ds.length/\ρ 59=.sl (ds.map aS)/\ρ 60=int (ds.length:Nat)/\ρ 61=int k/\ρ 7=.os j/\RowsS H0 H j f (B3++wS (ds.take k)),fun ρ _=>ds.length-aR (ρ 61),⟨0,j,f,Xaa _,rfl,rfl,(by simp only[go_sem];rfl),V,by simpa[wS]using S⟩,?_⟩;rintro ρ H ⟨k,j,f,X,ac,ab,aa,V,S⟩;simp only[go_sem,ab,aa];refine aA (fun E=>?_) (fun F=>?_)
 ·have E:=ltB (by simpa using E);obtain⟨d,hd⟩:=aK E;have b1:=inB E;have hs:=Ig hd;have ad:(B3++wS (ds.take k)).length<=62+1048576+1048576+k:=by have:=DP ds k;rw[Xae,No];omega
  simp only[go_sem,ac,aa,aD hd,b1];refine aL fun Y h9=>?_
  simp only[go_sem];refine aI (aB _ _ _) (by simp[mM]) ?_;have J:=S.new h9;generalize Z:aM (aM H Y _) Y _=HG;replace J:RowsS H0 HG j f (B3++wS (ds.take k)):=by rw[<-Z];exact J _ _
  have R9:HG Y=some (⟨128,4,[aS d]⟩:Row):=by rw[<-Z,aB];rfl
  clear Z h9;simp only[go_sem,R9];apply aA <;> intro hb
  ·have h3:d.kind=3:=by simpa using hb
   rw[show PX d=some ⟨[],1,d.n⟩from if_pos h3]at hs;simp only[go_sem,V,R9];refine aL fun c U=>?_
   have R:=(J.lin.new U (some (wC []))).row;refine aZ R ⟨rfl,rfl⟩ ⟨rfl,trivial⟩ (by simp only[List.length_mapIdx,Xah,List.length_nil];omega) (fun j' I=>?_);have O:=J.app U I 1 d.n;have e:B3++wS (ds.take (k+1))=B3++wS (ds.take k)++[⟨[],1,d.n⟩]:=by rw[hs,Xax];rfl
   rw[<-e]at O;simp only[go_sem,ac,ab,aa,aQ k];exact⟨⟨k+1,j',_,E,rfl,rfl,O⟩,msr E⟩
  have h3:d.kind≠3:=by simpa using hb
  simp only[go_sem];apply aA <;> intro hb
  ·have h4:d.kind=4:=by simpa using hb
   rw[show PX d=some ⟨[],3,d.n⟩from(if_neg h3).trans (if_pos h4)]at hs;simp only[go_sem,V,R9];refine aL fun c U=>?_
   have R:=(J.lin.new U (some (wC []))).row;refine aZ R ⟨rfl,rfl⟩ ⟨rfl,trivial⟩ (by simp only[List.length_mapIdx,Xah,List.length_nil];omega) (fun j' I=>?_);have O:=J.app U I 3 d.n;have e:B3++wS (ds.take (k+1))=B3++wS (ds.take k)++[⟨[],3,d.n⟩]:=by rw[hs,Xax];rfl
   rw[<-e]at O;simp only[go_sem,ac,ab,aa,aQ k];exact⟨⟨k+1,j',_,E,rfl,rfl,O⟩,msr E⟩
  have h4:d.kind≠4:=by simpa using hb
  rw[show PX d=none from(if_neg h3).trans (if_neg h4)]at hs;simp only[go_sem,ac,ab,aa,V,aQ k];refine⟨⟨k+1,j,f,E,rfl,rfl,?_⟩,msr E⟩;rw[hs];simpa using J
 have F:=geB X (by simpa using F);subst F;rw[Xad]at S;simp only[go_sem,V];refine hK j f _ ?_;unfold CV;rw[hB,ai,aj];exact S
def amY(x:Instance)(cuts:List Cut)(ds:List Decision)(h:MIn x cuts ds):PC prog 42 [.agg (aC x),.sl (cuts.map dV),.sl (ds.map aS)] (int (Ta x cuts ds:Nat)):=by
 refine pcd func42 rfl rfl ?_;simp only[go_sem];refine anQ x cuts ds h _ _ fun j f E S=>?_
 simp only[go_sem,S.lin.row,List.length_mapIdx,Yv];exact .refl _
def cK(n N:Int):Bool:=decide (n<0)||decide (n>=N)
def kU(s:Score):(cH s).length=4:=(rfl)
def Ah(s:Score):(cH s).getD 0 .any=int s.cost:=(rfl)
def Av(s:Score):(cH s).getD 1 .any=int s.moved:=(rfl)
def AQ(s:Score):(cH s).getD 2 .any=int s.other:=(rfl)
def AG(s:Score):(cH s).getD 3 .any=int s.work:=(rfl)
def uS(s:Score):(cH s).take 4=cH s:=(rfl)
def cQ:Score:=⟨0,0,0,0⟩
def atN(s:Score):Int:=IntKind.i64.wrap (IntKind.i64.wrap (IntKind.i64.wrap (IntKind.i64.wrap (IntKind.i64.wrap (IntKind.i64.wrap (s.cost*16)+s.moved)*16)+s.other)*65536)+s.work)
def nF(s:Score):Int×Int:=if(decide (s.cost<0)||decide (s.moved<0)||decide (s.other<0)||decide (s.work<0))=true then(0,2)
 else if(decide (s.cost>1073741824)||decide (s.moved>=16)||decide (s.other>=16)||decide (s.work>=65536))=true then(0,4)else(atN s,0)
def N4(s:Score):Bool:=decide (s.cost>=0)&&decide (s.cost<=1073741824)&&decide (s.moved>=0)&&decide (s.moved<=15)&&decide (s.other>=0)&&decide (s.other<=15)&&decide (s.work>=0)&&decide (s.work<=65535)
def Y1(s:Score):PC prog 330 [.agg (cH s)] (boo (N4 s)):=by refine pcd func330 rfl rfl ?_;simp only[go_sem];exact .refl _
def Wq(s:Score):PC prog 286 [.agg (cH s)] (.tup [int (nF s).1,int (nF s).2]):=by
 unfold nF;refine pcd func286 rfl rfl ?_;simp only[go_sem];refine aA (fun E=>?_) (fun E=>?_)
 ·rw[if_pos E];simp only[go_sem];exact .refl _
 rw[if_neg (by rw[E];simp)];simp only[go_sem];refine aG (Y1 s) ?_;simp only[go_sem];have e:(!N4 s)=(decide (s.cost>1073741824)||decide (s.moved>=16)||decide (s.other>=16)||decide (s.work>=65536)):=by unfold N4;simp only[Xag,decide_eq_false_iff_not]at E;rw[Xap];simp;omega
 rw[<-e];refine aA (fun F=>?_) (fun F=>?_)
 ·rw[if_pos F];simp only[go_sem];exact .refl _
 rw[if_neg (by rw[F];simp)];simp only[go_sem];exact .refl _
end Nu
namespace Nu
open Go.Nu
open Dec (nN eH fI eF tY mH)
def Dn{x:Instance}{d:Nat}{q:Cut}(h:pT x d q=0):0<=q.set:=by
 unfold pT rM at h;refine Decidable.byContradiction fun E=>?_
 rw[decide_eq_false (show ¬q.set>=0 by omega)]at h;simp at h;split at h
 ·cases h
 ·split at h
  ·cases h
  ·cases h
end Nu
namespace Nu
open Go.Nu
def ahD(n:Int):Prop:= -9223372036854775808<=n/\n<=9223372036854775807
structure LinB(p:PLin):Prop where
 rows:p.rows.length<=1048576
 cost:p.cost.length<=1048576
 coef:∀r∈p.rows,∀n∈r.coef,ahD n
 right:∀r∈p.rows,ahD r.right
structure VarB(v:List ByteArray):Prop where
 len:v.length<=1048576
 size:∀s∈v,s.size<=1048576
end Nu
namespace Nu
open Go.Nu
open Dec (nN eH fI eF tY mH)
def is0(s:ByteArray):Bool:=bl s == [48]
def is1(s:ByteArray):Bool:=bl s == [49]
def KD(s:ByteArray):Bool:= !is0 s&& !is1 s
structure RightB(x:Instance)(cuts:List Cut)(ds:List Decision):Prop where
 types:∀t∈x.types,ahD t.count
 cuts:∀q∈cuts,ahD q.n
 ds:∀d∈ds,ahD d.n
abbrev ordR(o:Order):Row:=⟨93,16,[bH o]⟩
abbrev auV(t:VType):Row:=⟨95,14,[bF t]⟩
abbrev insR(x:Instance):Row:=⟨30,6,[aC x]⟩
end Nu
namespace Nu
open Go.Proofs.Tryz
open Go.Nu
open Dec (nN eH fI eF tY mH)
def RQ(x:Instance)(c:Column)(cuts:List Cut)(ds:List Decision)(dual:List ByteArray)(h:MIn x cuts ds)(Z:ColB c)(X:CutsB cuts)(J: -9223372036854775808<=c.price/\c.price<=9223372036854775807)(Y:dual.length<=1048576)(hs:∀s∈dual,s.size<=1048576):
  PC prog 49 [.agg (aC x),.agg (aU c),.sl (cuts.map dV),.sl (ds.map aS),.sl (dual.map Go.Aw.D.fE)] (.tup [str (cO x c cuts ds dual).1,int (cO x c cuts ds dual).2]):=by
 refine pcd func49 rfl rfl ?_;simp only[go_sem];have U:∀n∈oA x c cuts ds,-9223372036854775808<=n/\n<=9223372036854775807:=fun n hn=>by rcases LU hn with e|e <;> omega
 refine aG (ZZ x c cuts ds h Z X) ?_;have F:cO x c cuts ds dual=if(lL (oA x c cuts ds) dual).2≠0 then(emp,(lL (oA x c cuts ds) dual).2)else D6 (zed c.price) (lL (oA x c cuts ds) dual).1:=by
  unfold cO;by_cases E:dual.length≠(oA x c cuts ds).length
  ·rw[if_pos E];have:lL (oA x c cuts ds) dual=(emp,2):=by unfold lL;rw[if_pos (Ne.symm E)]
   rw[this,if_pos (by decide)]
  ·rw[if_neg E]
 rw[F];generalize oA x c cuts ds=L at *;simp only[go_sem];refine aG (aeG L dual U Y hs) ?_;have V:=Gf (ns:=L) (xs:=dual);generalize lL L dual=T at *;obtain⟨t,e⟩:=T;simp only[go_sem];refine aA (fun O=>?_) (fun O=>?_)
 ·have I:e≠0:=by simpa using O
  rw[if_pos I];simp only[go_sem];exact .refl _
 have I:e=0:=by simpa using O
 rw[if_neg (by simpa using I)];have h8:=oD (V I);simp only[go_sem];refine aG (CR c.price J.1 J.2) ?_;simp only[go_sem];have hz:=Iv J.1 J.2;refine aG (BP (zed c.price) t (by omega) (by simp only at h8;omega)) ?_;simp only[go_sem];exact .refl _
end Nu
namespace Nu.Ps
open Go.Proofs.Tryz
open Go.Nu Go.So
open Dec (nN eH fI eF tY mH)
open Sq (EvalB BestQ tP mO bV aqK Ss)
structure PrOk(x:Instance)(d:Nat):Prop where
 ev:EvalB x
 n8:x.orders.length<=8
 ty:x.types.length<=1000
 lo:LoadsOk x d
 ne:x.types≠[]
def inD(ds:List Decision)(c:Column):Bool:=ds.all fun d=>fI d c.set
def TT(ds:List Decision)(c:Column)(E:ds.length<=1048576):PC prog 39 [.agg (aU c),.rp [.sl (ds.map aS)] 0] (boo (!inD ds c)):=by refine pcd func39 rfl rfl ?_;simp only[go_sem];refine aG (Dec.ajP ds c E) ?_;simp only[go_sem];exact .refl _
def dM(x:Instance)(ds:List Decision):List Column×Int:=if(nN x ds != 0)=true then([],nN x ds)else((tP x).filter (inD ds),0)
def Lq(x:Instance)(d:Nat)(ds:List Decision)(h:PrOk x d)(V:ds.length<=1048576):
  NC prog 16 [.agg (aC x),.sl (ds.map aS)] (bV (dM x ds).1) (fun j=>.tup [.os j,int (dM x ds).2]):=by
 refine ncb (fun t=>t == 4) func16 rfl rfl ?_;simp only[go_sem];unfold dM;refine fO fun j E I (R:E j=some (bV [])) N=>?_
 clear N I;simp only[go_sem];refine aG (Dec.afK x ds V) ?_;simp only[go_sem];apply aA <;> intro J
 ·rw[if_pos J];simp only[go_sem];refine fO fun j E I (R:E j=some (bV [])) N=>?_
  clear N I;simp only[go_sem];exact⟨j,rfl,R⟩
 rw[if_neg (by rw[J];simp)];simp only[go_sem];refine NC.use (aqK x h.ev h.n8 h.ty) fun j1 X=>?_
 have R1:aM E j1 (some (bV (tP x))) j1=some (bV (tP x)):=aB _ _ _;generalize aM E j1 (some (bV (tP x)))=H1 at *;have F:=Sq.vE x x.types.length;have h8:2^x.orders.length<=256:=Xam (Xau (by decide) h.n8) (by decide);have O:x.types.length*2^x.orders.length<=256000:=Xam (Nat.mul_le_mul h.ty h8) (by decide);have F:(tP x).length<=256000:=Xam F O;have U:aE prog 39=true:=by kernel_rfl
 simp only[go_sem];refine aA (fun J=>(by cases J)) (fun _=>?_);simp only[go_sem];refine Ss (p:=fun c=> !inD ds c) (cap':=[.rp [.sl (ds.map aS)] 0]) (tP x) _ j1 R1 (by omega) U (fun v _=>TT ds v V) (fun H' h'=>ConvL.refl _) fun j2 H2 Z aa Y=>?_
 simp only[go_sem];refine⟨j2,rfl,?_⟩;rw[Y];simp only[Bool.not_not]
def nA(x:Instance)(d:Nat)(cuts:List Cut)(ds:List Decision)(dual:List ByteArray):Int:=
 if(nN x ds != 0)=true then nN x ds
 else if Dec.gW (cuts.map (pT x d))≠0 then Dec.gW (cuts.map (pT x d))
 else if((dual.length:Int) != (Ta x cuts ds:Nat))=true then 2 else 0
def B6{x:Instance}{d:Nat}{cuts:List Cut}{ds:List Decision}{dual:List ByteArray}(h:nA x d cuts ds dual=0):∀q∈cuts,pT x d q=0:=by
 unfold nA at h;split at h
 next E=>rw[h]at E;cases E
 split at h
 next E=>exact absurd h E
 next E=>exact fun q F=>Dec.xW (Decidable.not_not.1 E) _ (Xbe.2 ⟨q,F,rfl⟩)
def abY(x:Instance)(d:Nat)(cuts:List Cut)(ds:List Decision)(dual:List ByteArray)(h:PrOk x d)(hm:MIn x cuts ds):
  PC prog 17 [.agg (aC x),.sl (cuts.map dV),.sl (ds.map aS),.sl (dual.map Go.Aw.D.fE)] (int (nA x d cuts ds dual)):=by
 have h3:=hm.cl;have h4:=hm.dl;unfold nA;refine pcd func17 rfl rfl ?_;simp only[go_sem];refine aG (Dec.afK x ds h4) ?_;simp only[go_sem];apply aA <;> intro I
 ·rw[if_pos I];simp only[go_sem];exact .refl _
 rw[if_neg (by rw[I];simp)];simp only[go_sem,Xab];refine⟨fun ρ H=>∃(k:Nat),k<=cuts.length/\ρ 1=.sl (cuts.map dV)/\ρ 2=.sl (ds.map aS)/\ρ 3=.sl (dual.map Go.Aw.D.fE)/\ρ 4=.rp (aC x) 0/\ρ 19=.sl (cuts.map dV)/\ρ 20=int (cuts.length:Nat)/\ρ 21=int k/\(∀e∈(cuts.map (pT x d)).take k,e=0),fun ρ _=>cuts.length-aR (ρ 21),⟨0,Xaa _,rfl,rfl,rfl,rfl,rfl,rfl,(by simp only[go_sem];rfl),by simp⟩,?_⟩;rintro ρ H ⟨k,hk,e1,e2,e3,e4,X,Y,J,Z⟩;simp only[go_sem,Y,J];refine aA (fun E=>?_) (fun O=>?_)
 ·have E:=ltB (by simpa using E);obtain⟨q,hq⟩:=aK E;have b1:=inB E;have V:(cuts.map (pT x d))[k]?=some (pT x d q):=by rw[List.getElem?_map,hq];rfl
  simp only[go_sem,X,J,aD hq,b1];refine aL fun aa F=>?_
  simp only[go_sem,];refine cJ F (by simp[AR]) fun U (ab:U aa=some (⟨102,3,[dV q]⟩)) N=>?_
  clear N F;simp only[go_sem,e4,ab];refine aG (afG x d q h.lo h.ne) ?_;simp only[go_sem,];apply aA <;> intro I
  ·have he:=Dec.oM Z V I;rw[if_pos (by rw[he];simpa using I),he];simp only[go_sem];exact .refl _
  ·simp only[go_sem,e1,e2,e3,e4,X,Y,J,aQ k];exact⟨⟨k+1,E,rfl,gR (p:=fun e:Int=>e=0) V (by simpa using I) Z⟩,msr E⟩
 have O:=geB hk (by simpa using O);subst O;rw[Xan (by rw[Xab];exact Xaf _)]at Z;rw[if_neg (by rw[Dec.mX Z];simp)];simp only[go_sem,e1,e2,e3,e4,Xab];refine aG (amY x cuts ds hm) ?_;simp only[go_sem,];apply aA <;> intro I
 ·rw[if_pos I];simp only[go_sem];exact .refl _
 ·rw[if_neg (by rw[I];simp)];simp only[go_sem];exact .refl _
end Nu.Ps
namespace Nu.Ps
open Go.Proofs.Tryz
open Go.Nu Go.So
open Dec (nN eH fI eF tY mH)
open Sq (EvalB BestQ tP mO bV fD)
def adW(x:Instance)(r:Route): -9223372036854775808<=(fD x r).1/\(fD x r).1<=9223372036854775807:=by
 unfold fD;split
 ·show -9223372036854775808<=(0:Int)/\(0:Int)<=9223372036854775807;omega
 ·unfold Sq.nF;split
  ·exact⟨by decide,by decide⟩
  ·split
   ·exact⟨by decide,by decide⟩
   ·exact Rx.acV _
structure ColQ(x:Instance)(c:Column):Prop where
 b:ColB c
 price: -9223372036854775808<=c.price/\c.price<=9223372036854775807
def OQ{x:Instance}{c:Column}(E:x.orders.length<=8)(h:c∈tP x):ColQ x c:=by
 obtain⟨k,s,h⟩:=mO E h;obtain⟨l,F,_,_,_⟩:=h.is;have h1:=h.pos;have I:=h.top;have J:(2:Int)^x.orders.length<=256:=by
  have:2^x.orders.length<=256:=Xam (Xau (by decide) E) (by decide)
  exact_mod_cast this
 rw[F];exact⟨⟨by show 0<=(s:Int)/\(s:Int)<=9223372036854775807;omega⟩,adW _ _⟩
def AK{x:Instance}{ds:List Decision}{c:Column}(h:c∈(dM x ds).1):c∈tP x/\inD ds c=true:=by
 unfold dM at h;split at h
 ·cases h
 ·exact⟨(List.mem_filter.1 h).1,(List.mem_filter.1 h).2⟩
def Az(x:Instance)(ds:List Decision)(I:x.orders.length<=8)(J:x.types.length<=1000):(dM x ds).1.length<=256000:=by
 have E:=Sq.vE x x.types.length;have O:2^x.orders.length<=256:=Xam (Xau (by decide) I) (by decide);have F:x.types.length*2^x.orders.length<=256000:=Xam (Nat.mul_le_mul J O) (by decide);have E:(tP x).length<=256000:=Xam E F;unfold dM;split
 ·exact Xaa _
 ·exact Xam (Xcp _ _) E
def DS(a b:Priced)(F:a.reduced.size<=1048576)(E:b.reduced.size<=1048576):PC prog 20 [.agg (cG a),.agg (cG b)] (int (FW a.reduced b.reduced)):=by refine pcd func20 rfl rfl ?_;simp only[go_sem];refine aG (Ax a.reduced b.reduced F E) ?_;simp only[go_sem];exact .refl _
def lU(x:Instance)(cuts:List Cut)(ds:List Decision)(dual:List ByteArray):List Priced×Int:=
 if((dM x ds).2 != 0)=true then([],(dM x ds).2)
 else if Dec.gW ((dM x ds).1.map fun c=>(cO x c cuts ds dual).2)≠0 then([],Dec.gW ((dM x ds).1.map fun c=>(cO x c cuts ds dual).2))
 else((dM x ds).1.map fun c=>⟨c,(cO x c cuts ds dual).1⟩,0)
def aqV(l:List Priced)(p:Priced):(⟨64,8,l.map cG++[cG p]⟩:Row)=mQ (l++[p]):=by show _=(⟨64,8,(l++[p]).map cG⟩:Row);rw[Xal];rfl
def abR(x:Instance)(d:Nat)(cuts:List Cut)(ds:List Decision)(dual:List ByteArray)(h:PrOk x d)(hm:MIn x cuts ds)(hq:CutsB cuts)(hl:dual.length<=1048576)(hs:∀s∈dual,s.size<=1048576):
  NC prog 18 [.agg (aC x),.sl (cuts.map dV),.sl (ds.map aS),.sl (dual.map Go.Aw.D.fE)] (mQ (lU x cuts ds dual).1) (fun j=>.tup [.os j,int (lU x cuts ds dual).2]):=by
 have ac:=Az x ds h.n8 h.ty;have ae:∀c∈(dM x ds).1,ColQ x c:=fun c hc=>OQ h.n8 (AK hc).1
 have I:lU x cuts ds dual=(if((dM x ds).2 != 0)=true then([],(dM x ds).2)
  else if Dec.gW ((dM x ds).1.map fun c=>(cO x c cuts ds dual).2)≠0 then([],Dec.gW ((dM x ds).1.map fun c=>(cO x c cuts ds dual).2))
  else((dM x ds).1.map fun c=>⟨c,(cO x c cuts ds dual).1⟩,0)):=rfl
 refine ncb (fun t=>t == 8) func18 rfl rfl ?_;simp only[go_sem];generalize lU x cuts ds dual=RP at *;refine fO fun j E U (R:E j=some (mQ [])) N=>?_
 simp only[go_sem];refine aG (Sq.NC.pc2 (Lq x d ds h hm.dl)) ?_;generalize dM x ds=A at *;obtain⟨A,e⟩:=A;simp only at ac ae I;simp only[go_sem];refine aA (fun J=>?_) (fun J=>?_)
 ·rw[if_pos J]at I;simp only[go_sem];refine fO fun j E U (R:E j=some (mQ [])) N=>?_
  simp only[go_sem];rw[I];exact⟨j,rfl,R⟩
 rw[if_neg (by rw[J];simp)]at I;simp only[go_sem,Xab];refine⟨by omega,?_⟩;refine fO fun j E U (R:E j=some (mQ [])) N=>?_
 simp only[go_sem];refine⟨fun ρ H=>∃(k:Nat) (j:Nat),k<=A.length/\ρ 1=.sl (cuts.map dV)/\ρ 2=.sl (ds.map aS)/\ρ 3=.sl (dual.map Go.Aw.D.fE)/\ρ 4=.rp (aC x) 0/\ρ 29=.sl (A.map aU)/\ρ 30=int (A.length:Nat)/\ρ 31=int k/\ρ 12=.os j/\H j=some (mQ ((A.take k).map fun c=>⟨c,(cO x c cuts ds dual).1⟩))/\(∀e∈(A.map fun c=>(cO x c cuts ds dual).2).take k,e=0),fun ρ _=>A.length-aR (ρ 31),⟨0,j,Xaa _,rfl,rfl,rfl,rfl,rfl,rfl,(by simp only[go_sem];rfl),rfl,R,by simp⟩,?_⟩;rintro ρ H ⟨k,j,hk,e1,e2,e3,e4,ah,ag,Y,aa,R,hz⟩;simp only[go_sem,ag,Y];refine aA (fun F=>?_) (fun O=>?_)
 ·have F:=ltB (by simpa using F);obtain⟨c,hc⟩:=aK F;have b1:=inB F;have af:=ae c (Xac hc);have ad:(A.map fun c=>(cO x c cuts ds dual).2)[k]?=some (cO x c cuts ds dual).2:=by rw[List.getElem?_map,hc];rfl
  have ai:((A.take (k+1)).map fun c=>(⟨c,(cO x c cuts ds dual).1⟩:Priced))=((A.take k).map fun c=>⟨c,(cO x c cuts ds dual).1⟩)++[⟨c,(cO x c cuts ds dual).1⟩]:=by rw[bA hc,Xal];rfl
  have al:((A.take k).map fun c=>(⟨c,(cO x c cuts ds dual).1⟩:Priced)).length<=A.length:=by rw[Xab,Xas];omega
  generalize ((A.take k).map fun c=>(⟨c,(cO x c cuts ds dual).1⟩:Priced))=L at *;simp only[go_sem,ah,Y,aD hc,b1];refine aL fun aj X=>?_
  simp only[go_sem,];refine cJ X (by simp[cF]) fun V (ab:V aj=some (bV [c])) N=>?_
  replace R:=N R;obtain⟨Z,R⟩:=R;simp only[go_sem,e1,e2,e3,e4,ab];refine aG (Va x c cuts ds dual hm af.b hq af.price hl hs) ?_;simp only[go_sem,];refine aA (fun J=>?_) (fun J=>?_)
  ·have he:=Dec.oM hz ad J;rw[if_pos (by rw[he];simpa using J),he]at I;simp only[go_sem];refine fO fun j E U (R:E j=some (mQ [])) N=>?_
   simp only[go_sem];rw[I];exact⟨j,rfl,R⟩
  ·simp only[go_sem,aa,ab];refine Sq.HL (a:=cG ⟨c,(cO x c cuts ds dual).1⟩) rfl ⟨jX _,?_⟩;refine aZ R ⟨rfl,rfl⟩ (by simp only[go_sem]) (by simp;omega) (fun j2 ak=>?_);simp only[go_sem,e1,e2,e3,e4,ah,ag,Y,aQ k];refine⟨⟨k+1,j2,F,rfl,rfl,?_,gR (p:=fun e:Int=>e=0) ad (by simpa using J) hz⟩,by simp only[aN];omega⟩;rw[ai,aB];exact congrArg some (aqV _ _)
 have O:=geB hk (by simpa using O);subst O;rw[Xan (by rw[Xab];exact Xaf _)]at hz;rw[if_neg (by rw[Dec.mX hz];simp)]at I;rw[Xad]at R;simp only[go_sem,aa];rw[I];exact⟨j,rfl,R⟩
def okP(p:Priced):Prop:=bZ p.reduced=true
def Bz{p:Priced}(h:okP p):p.reduced.size<=1048576:=Xam (oD h) (by decide)
def auK{a b:ByteArray}(F:bZ a=true)(I:bZ b=true):FW a b<0↔tO a<tO b:=by
 unfold FW Om;rw[F,I,Bool.and_self,if_pos rfl];split
 next h=>exact⟨fun _=>h,fun _=>by decide⟩
 next h=>
  split
  ·exact⟨fun E=>absurd E (by decide),fun E=>absurd E h⟩
  ·exact⟨fun E=>absurd E (by decide),fun E=>absurd E h⟩
def D0{a b:Priced}(F:okP a)(E:okP b):decide (FW a.reduced b.reduced<0)=ltP a b:=by unfold ltP;rw[decide_eq_decide];exact auK F E
def Dy:∀(l:List Priced) (m:Priced),tN m l=l.foldl (fun m p=>if ltP p m=true then p else m) m
 | [],m=>rfl
 | p::l,m=>Dy l _
def Nd{l:List Priced}{p q:Priced}{k:Nat}(h:l[k]?=some q):tN p (l.take (k+1))=if ltP q (tN p (l.take k))=true then q else tN p (l.take k):=by rw[Dy,Dy,Sq.lH h]
def anS{p:Priced}{l:List Priced}(h:∀q∈p::l,okP q):okP (tN p l):=h _ (Ke l p)
def YE(p:Priced)(l:List Priced)(hl:l.length<=1048576)(hr:∀q∈p::l,okP q):
  PC prog 19 [.sl ((p::l).map cG),wJ 20] (.agg (cG (tN p l))):=by
 have ah:aE prog 20=true:=by kernel_rfl
 refine pcd func19 rfl rfl ?_;simp only[go_sem];refine fO fun X ac ad (F:ac X=some (mQ [⟨Sq.cA,ByteArray.empty⟩])) N=>?_
 clear N ad;simp only[go_sem];refine aA (fun hb=>absurd (of_decide_eq_true hb) (by omega)) (fun _=>?_);have g0:((p::l).map cG).getD 0 []=cG p:=rfl;simp only[go_sem,Xab,Xah];refine⟨by omega,?_⟩;refine aL fun J U=>?_
 simp only[go_sem];refine cJ U (by simp[jX]) fun ae (O:ae J=some (mQ [p])) N=>?_
 replace F:=N F;obtain⟨E,F⟩:=F;clear N U;simp only[go_sem];refine⟨fun ρ H=>∃k:Nat,k<=l.length/\ρ 0=.sl ((p::l).map cG)/\ρ 1=wJ 20/\ρ 4=.op X 0 0/\ρ 5=.op J 0 0/\ρ 6=int (k+1:Nat)/\H X=some (mQ [⟨Sq.cA,ByteArray.empty⟩])/\H J=some (mQ [tN p (l.take k)]),fun ρ _=>l.length+1-aR (ρ 6),⟨0,Xaa _,rfl,rfl,rfl,rfl,(by simp only[go_sem];rfl),F,O⟩,?_⟩;rintro ρ H ⟨k,hk,e0,e1,e4,e5,e6,F,O⟩;simp only[go_sem,e0,e6,Xab,Xah];refine aA (fun I=>?_) (fun V=>?_)
 ·have I:k<l.length:=by have:=of_decide_eq_true I;omega
  obtain⟨q,hq⟩:=aK I;have aj:(p::l)[k+1]?=some q:=by simpa using hq
  have g1:=aD (f:=cG) hq;have b1:(0:Int)<=((k+1:Nat):Int)/\((k+1:Nat):Int)<((l.length+1:Nat):Int):=by omega
  have hm:=Nd (p:=p) hq;have Z:okP q:=hr q (List.mem_cons_of_mem _ (Xac hq));have aa:okP (tN p (l.take k)):=anS fun z hz=>by
   rcases Xbg.1 hz with rfl|hz
   ·exact hr _ (Xcw ..)
   ·exact hr z (List.mem_cons_of_mem _ (List.mem_of_mem_take hz))
  generalize tN p (l.take k)=M at *;simp only[go_sem];refine gU [J] [(0,true),(1,true),(2,true),(3,true),(4,true),(5,true),(6,false),(7,true)] (by simp[O]) (by kernel_rfl) fun Hp Hr hp hr _ ak=>?_
  have ab:=(hp J (by simp)).trans O;simp only[go_sem,e0,e1,e5,e6,g1,b1,ah,Xab,Xah,ab];have af:=DS q M (Bz Z) (Bz aa);have hd:=D0 Z aa;refine aG af ?_;simp only[go_sem];refine qF hr ?_;simp only[go_sem];apply aA <;> intro Y
  ·have Y:ltP q M=true:=hd.symm.trans Y;rw[if_pos Y]at hm;simp only[go_sem,e0,e5,e6,g1,b1,Xab,Xah];have ne:X≠J:=E;refine aI O (by simp[jX]) ?_;have ai:aM H J (some (⟨64,8,[cG q++List.drop 8 (cG M)]⟩:Row)) J=some (mQ [q]):=by rw[aB,I7,Xak];rfl
   have ag:aM H J (some (⟨64,8,[cG q++List.drop 8 (cG M)]⟩:Row)) X=some (mQ [⟨Sq.cA,ByteArray.empty⟩]):=(aJ _ _ _ _ ne).trans F;simp only[go_sem,e0,e1,e4,e5,e6,mS (show k+1<=4611686018427387904 by omega)];exact⟨⟨k+1,I,rfl,ag,by rw[hm];exact(aB _ _ _).symm.trans ai⟩,by simp only[aN];omega⟩
  ·have Y:ltP q M=false:=hd.symm.trans Y;rw[if_neg (by rw[Y];simp)]at hm;simp only[go_sem,e0,e1,e4,e5,e6,mS (show k+1<=4611686018427387904 by omega)];exact⟨⟨k+1,I,rfl,F,by rw[hm];exact O⟩,by simp only[aN];omega⟩
 ·have V:k=l.length:=by have:=of_decide_eq_false V;omega
  subst V;rw[Xad]at O;simp only[go_sem,e4,e5,O];refine aI F (by simp[jX]) ?_;generalize hP:aM _ X _=HP;replace F:HP X=some (mQ [tN p l]):=upS hP;clear hP;simp only[go_sem,e4,F];exact .refl _
def RO{x:Instance}{c:Column}{cuts:List Cut}{ds:List Decision}{dual:List ByteArray}(h:(cO x c cuts ds dual).2=0):bZ (cO x c cuts ds dual).1=true:=by
 unfold cO at h |-;split at h
 ·exact absurd h (by decide)
 split at h
 next h1 h2=>exact absurd h h2
 next h1 h2=>
 rw[if_neg h1,if_neg h2];exact U1 h
def Xk{x:Instance}{cuts:List Cut}{ds:List Decision}{dual:List ByteArray}{p:Priced}(h:p∈(lU x cuts ds dual).1):p.column∈(dM x ds).1/\p.reduced=(cO x p.column cuts ds dual).1/\(cO x p.column cuts ds dual).2=0:=by
 unfold lU at h;split at h
 ·cases h
 split at h
 ·cases h
 next h1 h2=>
 obtain⟨c,E,rfl⟩:=Xbe.1 h;exact⟨E,rfl,Dec.xW (Decidable.not_not.1 h2) _ (Xbe.2 ⟨c,E,rfl⟩)⟩
def IS{x:Instance}{cuts:List Cut}{ds:List Decision}{dual:List ByteArray}{p:Priced}(h:p∈(lU x cuts ds dual).1):okP p:=by obtain⟨_,h1,E⟩:=Xk h;show bZ p.reduced=true;rw[h1];exact RO E
def HY(x:Instance)(cuts:List Cut)(ds:List Decision)(dual:List ByteArray)(E:x.orders.length<=8)(F:x.types.length<=1000):(lU x cuts ds dual).1.length<=256000:=by
 unfold lU;split
 ·exact Xaa _
 split
 ·exact Xaa _
 ·rw[Xab];exact Az x ds E F
def tM(x:Instance)(d:Nat)(cuts:List Cut)(ds:List Decision)(dual:List ByteArray):Column×ByteArray×Int:=
 if(nA x d cuts ds dual != 0)=true then(Sq.cA,emp,nA x d cuts ds dual)
 else if((lU x cuts ds dual).2 != 0)=true then(Sq.cA,emp,(lU x cuts ds dual).2)
 else match (lU x cuts ds dual).1 with
 | []=>(Sq.cA,emp,24)
 | p::l=>((tN p l).column,(tN p l).reduced,0)
def Js(x:Instance)(d:Nat)(cuts:List Cut)(ds:List Decision)(dual:List ByteArray):Prop:=PC prog 17 [.agg (aC x),.sl (cuts.map dV),.sl (ds.map aS),.sl (dual.map Go.Aw.D.fE)] (int (nA x d cuts ds dual))
def Xf(x:Instance)(d:Nat)(cuts:List Cut)(ds:List Decision)(dual:List ByteArray)(h:PrOk x d)(hm:MIn x cuts ds)(hq:∀q∈cuts,q.set<=9223372036854775807)(hl:dual.length<=1048576)(hs:∀s∈dual,s.size<=1048576)(hW:Js x d cuts ds dual):
  PC prog 7 [.agg (aC x),.sl (cuts.map dV),.sl (ds.map aS),.sl (dual.map Go.Aw.D.fE)] (.tup [.agg (aU (tM x d cuts ds dual).1),str (tM x d cuts ds dual).2.1,int (tM x d cuts ds dual).2.2]):=by
 have F:tM x d cuts ds dual=(if(nA x d cuts ds dual != 0)=true then(Sq.cA,emp,nA x d cuts ds dual)
  else if((lU x cuts ds dual).2 != 0)=true then(Sq.cA,emp,(lU x cuts ds dual).2)
  else match (lU x cuts ds dual).1 with
  | []=>(Sq.cA,emp,24)
  | p::l=>((tN p l).column,(tN p l).reduced,0)):=rfl
 generalize tM x d cuts ds dual=RP at *;refine pcd func7 rfl rfl ?_;simp only[go_sem];refine fO fun V ac af (I:ac V=some (bV [Sq.cA])) N=>?_
 clear N af;simp only[go_sem];refine aG hW ?_;simp only[go_sem];apply aA <;> intro O
 ·rw[if_pos O]at F;simp only[go_sem];refine aI I (by simp only[go_sem]) ?_;generalize F:aM _ V _=HP;replace I:HP V=some (bV [Sq.cA]):=upS F;clear F;simp only[go_sem,I];rw[F];exact .refl _
 rw[if_neg (by rw[O];simp)]at F;have ah:CutsB cuts:=⟨fun q ad=>⟨Dn (B6 (by simpa using O) q ad),hq q ad⟩⟩;have ab:∀p∈(lU x cuts ds dual).1,okP p:=fun p hp=>IS hp
 have U:=HY x cuts ds dual h.n8 h.ty;simp only[go_sem];refine aG (Sq.NC.pc2 (abR x d cuts ds dual h hm ah hl hs)) ?_;generalize lU x cuts ds dual=A at *;obtain⟨A,e⟩:=A;simp only at F ab U;simp only[go_sem];apply aA <;> intro O
 ·rw[if_pos O]at F;simp only[go_sem];refine aI I (by simp only[go_sem]) ?_;generalize F:aM _ V _=HP;replace I:HP V=some (bV [Sq.cA]):=upS F;clear F;simp only[go_sem,I];rw[F];exact .refl _
 rw[if_neg (by rw[O];simp)]at F;simp only[go_sem,Xab];apply aA <;> intro O
 ·have h0:A.length=0:=by simpa using O
  obtain rfl:=Xcg.1 h0;simp only[go_sem];refine aI I (by simp only[go_sem]) ?_;generalize F:aM _ V _=HP;replace I:HP V=some (bV [Sq.cA]):=upS F;clear F;simp only[go_sem,I];rw[F];exact .refl _
 have h0:A.length≠0:=by simpa using O
 obtain⟨p,l,rfl⟩:∃p l,A=p::l:=by
  cases A with
  | nil=>exact absurd rfl h0
  | cons p l=>exact⟨p,l,rfl⟩
 simp only at F;have ag:=YE p l (by simp at U;omega) ab;generalize tN p l=M at *;simp only[go_sem];refine aG ag ?_;simp only[go_sem];refine aL fun Z J=>?_
 simp only[go_sem];refine cJ J (by simp[jX]) fun X (aa:X Z=some (mQ [M])) N=>?_
 replace I:=N I;obtain⟨E,I⟩:=I;clear N J;simp only[go_sem];refine gU [Z] [(0,true),(1,true),(2,true),(3,true),(4,false),(5,true),(6,true)] (by simp[aa]) (by kernel_rfl) fun Hp Hr hp hr _ ai=>?_
 have Y:=(hp Z (by simp)).trans aa;have ae:=(hr V (by simp[E])).trans I;simp only[go_sem,Y];refine aI ae (by simp[cF]) ?_;simp only[go_sem];refine rU hr (by simpa using E) ?_;simp only[go_sem,aB];rw[F];exact .refl _
end Nu.Ps
end Go.Proofs.YtpagaknmdfgfkaaGreatDoor
