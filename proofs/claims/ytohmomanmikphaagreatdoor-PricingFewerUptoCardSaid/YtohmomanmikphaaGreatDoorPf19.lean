import Derived.Test.YtohmomanmikphaaGreatDoorPf17
import Derived.Test.YtohmomanmikphaaGreatDoorPf18
set_option linter.unusedSimpArgs false
set_option linter.unusedVariables false
set_option maxRecDepth 100000
section
namespace Go.Proofs.YtohmomanmikphaaGreatDoor.Sq
open Go.Proofs.Tryz(prog)
open Go.Aw Go.Aw.D Go.Proofs Ty
open Go.Proofs.YtohmomanmikphaaGreatDoor.Nu (ltB geB)
open Mv (bW cN NC.pc aT)
def afM(s:Score):Int:=IntKind.i64.wrap (IntKind.i64.wrap (IntKind.i64.wrap (IntKind.i64.wrap (IntKind.i64.wrap (IntKind.i64.wrap (s.cost*16)+s.moved)*16)+s.other)*65536)+s.work)
def uP(s:Score):Int×Int:=if(decide (s.cost<0)||decide (s.moved<0)||decide (s.other<0)||decide (s.work<0))=true then(0,2)
 else if(decide (s.cost>1073741824)||decide (s.moved>=16)||decide (s.other>=16)||decide (s.work>=65536))=true then(0,4)else(afM s,0)
theorem UK(s:Score):PC prog 277 [.agg (eY s)] (.agg (eY s)):=by
 refine pcd Tryz.func277 ?_;unfold Tryz.f277;simp only[gdS];simp only[go_sem];refine aM fun j u=>?_
 simp only[go_sem];refine aJ (aA _ _ _) (by simp) ?_;simp only[go_sem];exact .refl _
theorem Rr(s:Score):PC prog 241 [.agg (eY s)] (.tup [int (uP s).1,int (uP s).2]):=by
 refine pcd Tryz.func241 ?_;unfold Tryz.f241;simp only[gdS];simp only[go_sem];refine PC.use (UK s) ?_;simp only[go_sem];refine aM fun j aa=>?_
 simp only[go_sem];refine aJ (aA _ _ _) (by simp[mL]) ?_;generalize O:aI (aI _ j _) j _=HGj;have R:HGj j=some (⟨293,4,[eY s]⟩):=by rw[<-O,aA];try rfl
 clear O aa;simp only[go_sem,R];refine⟨fun ρ H=>∃(k:Nat),k<=4/\ρ 1=.rp (eY s) 0/\ρ 9=.agg (eY s)/\ρ 10=int k/\(∀e∈[s.cost,s.moved,s.other,s.work].take k,¬e<0),fun ρ _=>4-aV (ρ 10),⟨0,Xac _,by simp only[go_sem],by simp only[go_sem],(by simp only[go_sem];rfl),by simp⟩,?_⟩;rintro ρ H ⟨k,hk,I,J,u,M⟩;simp only[go_sem,I,J,u];refine aB (fun E=>?_) (fun F=>?_)
 . have E:k<4:=by simp at E;omega
   obtain⟨e,Z⟩:=aN (l:=[s.cost,s.moved,s.other,s.work]) (show k<[s.cost,s.moved,s.other,s.work].length from E);have hg:(eY s).getD k .any=int e:=by
     have:eY s=[s.cost,s.moved,s.other,s.work].map fun n=>int n:=rfl
     rw[this,List.getD,List.getElem?_map,Z];rfl
   simp only[go_sem,I,J,u];refine⟨by omega,by omega,?_⟩;rw[Nat.mul_one,hg];simp only[go_sem,I,J,u];refine aB (fun T=>?_) (fun T=>?_)
   . simp only[go_sem]
     have hm:=Xae Z;simp only[List.mem_cons,List.not_mem_nil,or_false]at hm;have e:uP s=(0,2):=if_pos (by simp at T |-;rcases hm with h|h|h|h <;> omega);rw[e];exact .refl _
   . simp only[go_sem,I,J,u,aP (show k<=4611686018427387904 by omega)]
     refine⟨⟨k+1,E,rfl,aT (p:=fun e:Int=>¬e<0) Z (by simpa using T) M⟩,by simp only[aF];omega⟩
 have F:k=4:=by simp at F;omega
 subst F;have T:¬(decide (s.cost<0)||decide (s.moved<0)||decide (s.other<0)||decide (s.work<0))=true:=by
   have h0:=M s.cost (by simp);have h1:=M s.moved (by simp);have h2:=M s.other (by simp);have h3:=M s.work (by simp);simp;omega
 unfold uP;rw[if_neg T];simp only[go_sem,I,J,u];refine aB (fun hc=>?_) (fun hc=>?_)
 . rw[if_pos hc]
   simp only[go_sem];exact .refl _
 rw[if_neg (by rw[hc];simp)];simp only[go_sem,I,J,u];exact .refl _
def gE(x:Instance)(r:Route):Int×Int:=if((mR x r).2.2 != 0)=true then(0,(mR x r).2.2)else uP (mR x r).2.1
theorem T0(x:Instance)(r:Route)(hx:EvalB x)(hr:r.visits.length<=1048575):PC prog 187 [.agg (aH x),.agg (cX r)] (.tup [int (gE x r).1,int (gE x r).2]):=by
 have hw:=Rr (mR x r).2.1;refine pcd Tryz.func187 ?_;unfold Tryz.f187;simp only[gdS];simp only[go_sem];refine PC.use (O9 x r hx hr) ?_;simp only[go_sem];refine aM fun O aa=>?_
 generalize I:aI _ O _=HGi6;have E:HGi6 O=some (gF (cM cA)):=by rw[<-I,aA];try rfl
 clear I aa;simp only[go_sem,E];refine aM fun Z J=>?_
 have u:O≠Z:=aO E J;generalize F:aI _ Z _=HGi7;replace E:=(congrFun F.symm O).trans ((aD _ _ _ _ u).trans E);have M:HGi7 Z=some (mY cR):=by rw[<-F,aA];try rfl
 clear F J;simp only[go_sem,M,E];refine aJ E (by simp[gW]) ?_;generalize T:aI _ O _=HP;replace M:=(congrFun T.symm Z).trans ((aD _ _ _ _ (by first|exact ne_i7_i6|exact u.symm)).trans M);replace E:HP O=some (gF (cM (mR x r).1)):=by rw[<-T,aA];rfl
 clear T;simp only[go_sem,E,M];refine aJ M (by simp[mL]) ?_;generalize T:aI _ Z _=HP;replace E:=(congrFun T.symm O).trans ((aD _ _ _ _ (by first|exact u|exact ne_i7_i6.symm)).trans E);replace M:HP Z=some (mY (mR x r).2.1):=by rw[<-T,aA];rfl
 clear T;simp only[go_sem,M,E];unfold gE;refine aB (fun hb=>?_) (fun hb=>?_)
 . rw[if_pos hb]
   simp only[go_sem];exact .refl _
 . rw[if_neg (by rw[hb];simp)]
   simp only[go_sem,M];refine PC.use hw ?_;simp only[go_sem];exact .refl _
structure Sta where
 ready:Int
 driven:Int
def fK(s:Sta):List AV:=[int s.ready,int s.driven]
theorem DT(c:Sta):(fK c).length=2:=(rfl)
theorem Vm(c:Sta):(fK c).getD 0 .any=int c.ready:=(rfl)
theorem Xc(c:Sta):(fK c).getD 1 .any=int c.driven:=(rfl)
theorem N1(c:Sta):(fK c).take 2=fK c:=(rfl)
attribute [go_sem] DT Vm Xc N1
abbrev lH(l:List Sta):Row:=⟨232,2,l.map fK⟩
def Eu(s u:Sta):Bool:=s.ready == u.ready&&(s.driven == u.driven&&true)
theorem WU(l:List Sta)(v:Sta)(hl:l.length<=1048576):PC prog 285 [.sl (l.map fK),.agg (fK v)] (int (lU (Eu v) l 0)):=by
 refine pcd Tryz.func285 ?_;unfold Tryz.f285;simp only[gdS];simp only[go_sem];refine⟨fun ρ _=>∃k:Nat,k<=l.length/\ρ 0=.sl (l.map fK)/\ρ 3=.rp (fK v) 0/\ρ 7=int l.length/\ρ 8=int k/\∀u∈l.take k,Eu v u=false,fun ρ _=>l.length-aV (ρ 8),⟨0,Xac _,rfl,rfl,rfl,rfl,by simp⟩,?_⟩;rintro ρ H ⟨k,hk,h0,O,M,J,T⟩;simp only[go_sem,h0,O,M,J];refine aB (fun E=>?_) (fun F=>?_)
 . have E:=aZ E
   obtain⟨u,Z⟩:=aN E;have b1:=inB E;simp only[go_sem,h0,O,M,J];refine dA (by rfl) (by kernel_rfl) ?_;simp only[go_sem,h0,O,M,J,aE Z,b1];refine aB (fun I=>?_) (fun I=>?_)
   . have I:Eu v u=true:=I
     simp only[go_sem,J];exact bW (by rw[mS T Z I];omega)
   . have I:Eu v u=false:=I
     simp only[go_sem,h0,O,M,J,aP (show k<=4611686018427387904 by omega)];exact⟨⟨k+1,E,rfl,aT (p:=fun u=>Eu v u=false) Z I T⟩,by simp only[aF];omega⟩
 . have F:=bC hk F
   subst F;rw[Xag]at T;simp only[go_sem];exact bW (by rw[kN T])
theorem BZ(l:List Sta)(v:Sta)(u:l.length<=1048576):PC prog 246 [.sl (l.map fK),.agg (fK v)] (boo (l.any (Eu v))):=by
 refine pcd Tryz.func246 ?_;unfold Tryz.f246;simp only[gdS];simp only[go_sem];refine PC.use (WU l v u) ?_;simp only[go_sem];exact cN (nX l 0 (Xbx _))
def yM(l:List Sta)(s:Sta):List Sta:=if l.any (Eu s)=true then l else l++[s]
theorem BN(l:List Sta)(s:Sta):(yM l s).length<=l.length+1:=by unfold yM;split <;> simp
theorem TT(l:List Visit)(u:l.length<=1048576):PC prog 193 [.sl (l.map aK)] (.cl (l.map aK)):=by
 refine pcd Tryz.func193 ?_;unfold Tryz.f193;simp only[gdS];simp only[go_sem];exact .refl _
theorem afN(s:Sta):NC prog 194 [.v (.slice none 0 0),.agg (fK s)] (lH [s]) .os:=by
 refine ncb (fun _=>false) Tryz.func194 ?_;unfold Tryz.f194;simp only[gdS];simp only[go_sem];refine aX.nil0 (PC.use (BZ [] s (by decide)) ?_);simp only[go_sem];refine aB (fun u=>(by cases u)) (fun _=>?_);simp only[go_sem];refine Vy abF (.inl rfl) (by simp) (by simp only[go_sem]) (by simp) fun j E=>?_
 simp only[go_sem];exact⟨j,rfl,aA _ _ _⟩
abbrev abK(j:Nat)(H:aG)(j':Nat)(H':aG):Prop:=∀k row,k≠j->H k=some row->k≠j'/\H' k=some row
theorem NE(l:List Sta)(s:Sta){H:aG}{j:Nat}(R:H j=some (lH l))(T:l.length<=1000000){K:AV->aG->Prop}(M:∀E H',H' E=some (lH (yM l s))->abK j H E H'->K (.os E) H'):
   aX prog 194 [.os j,.agg (fK s)] H K:=by
 refine aX.body (c:=Tryz.f194.body.getD .skip) (fun _=>false) mixed Tryz.func194 rfl (by kernel_rfl) ?_;unfold Tryz.f194;simp only[gdS];simp only[go_sem];refine cZ.use ⟨[.sl (l.map fK),.agg (fK s)],.cons _ _ _ _ (.row _ _ _ R (ConvE.refl _)) (ConvL.refl _),BZ l s (by omega),rfl⟩ ?_;simp only[go_sem];refine aB (fun F=>?_) (fun F=>?_)
 . simp only[go_sem]
   refine M j H (by unfold yM;rw[if_pos F];exact R) fun k row J h=>⟨J,h⟩
 . simp only[go_sem]
   refine bE R ⟨rfl,rfl⟩ (by simp only[go_sem]) (by simp only[Xaa,Xad,List.length_nil];omega) (fun O I=>?_);simp only[go_sem];refine M O _ ?_ fun k row J h=>?_
   . rw[aA]
     unfold yM;rw[if_neg (by rw[F];simp)];refine congrArg (fun l=>some (⟨232,2,l⟩:Row)) ?_;rw[Xam];rfl
   . have u:k≠O:=fun e=>by subst e;rw[I]at h;cases h
     exact⟨u,by rw[aD _ _ _ _ u,aD _ _ _ _ J];exact h⟩
structure Sr where
 x:Instance
 kind:Nat
 set:Int
 total:Nat
 best:Column
 found:Bool
def qY(s:Sr):List AV:=aH s.x++([int (s.kind:Nat),int s.set,int (s.total:Nat)]++(aS s.best++[boo s.found]))
section
variable(s:Sr)
theorem nF:(qY s).length=17:=(rfl)
theorem aaF:(qY s).getD 2 .any=.sl (s.x.types.map bB):=(rfl)
theorem Zo:(qY s).getD 3 .any=.sl (s.x.orders.map bD):=(rfl)
theorem Zn:(qY s).getD 6 .any=int (s.kind:Nat):=(rfl)
theorem Yk:(qY s).getD 7 .any=int s.set:=(rfl)
theorem X3:(qY s).getD 8 .any=int (s.total:Nat):=(rfl)
theorem W7:(qY s).getD 16 .any=boo s.found:=(rfl)
theorem YX:(qY s).take 6=aH s.x:=(rfl)
theorem Sx:(qY s).take 2=aU s.x.net:=(rfl)
theorem NF:((qY s).drop 9).take 7=aS s.best:=(rfl)
theorem SC:(qY s).take 17=qY s:=(rfl)
end
attribute [go_sem] nF aaF Zo Zn Yk X3 W7 YX Sx NF SC
abbrev iY(s:Sr):Row:=⟨170,17,[qY s]⟩
def mD(t:VType)(l:List Sta)(d dr:Int):List Sta:=yM (yM l ⟨d,dr⟩) ⟨W (d+t.rest),0⟩
theorem E5(t:VType)(l:List Sta)(d u:Int):(mD t l d u).length<=l.length+2:=by
 unfold mD;have h1:=BN (yM l ⟨d,u⟩) ⟨W (d+t.rest),0⟩;have E:=BN l ⟨d,u⟩;omega
theorem UI(s:Sr)(t:VType)(l:List Sta)(d F:Int){H:aG}{u j:Nat}(ht:s.x.types[s.kind]?=some t)(RS:H u=some (iY s))(R:H j=some (lH l))(hl:l.length<=900000){K:AV->aG->Prop}
   (hK:∀j' H',H' j'=some (lH (mD t l d F))->abK j H j' H'->K (.os j') H'):aX prog 120 [.op u 0 0,.os j,int d,int F] H K:=by
 have ac:u≠j:=fun e=>by subst e;rw[RS]at R;cases R
 have hk:=(List.getElem?_eq_some_iff.1 ht).1;have b1:=inB hk;have g1:=aE (f:=bB) ht;have h1:=BN l ⟨d,F⟩;refine aX.body (c:=Tryz.f120.body.getD .skip) (fun _=>false) mixed Tryz.func120 rfl (by kernel_rfl) ?_;unfold Tryz.f120;simp only[gdS];simp only[go_sem];refine NE l ⟨d,F⟩ R (by omega) fun j1 H1 R1 J=>?_
 obtain⟨n1,T⟩:=J u _ ac RS;simp only[go_sem];refine eN [u] [(0,true),(1,true),(2,true),(3,true),(4,true),(5,true),(6,true),(7,true),(8,true),(9,true),(10,true),(11,true),(12,true),(13,true),(14,true),(15,true),(16,false),(17,true)] (by simp[T]) (by kernel_rfl) fun Hp Hr hp hr _ ae=>?_
 have E:=(hp u (by simp)).trans T;simp only[go_sem,g1,b1,E];have ab:Hr j1=some (lH (yM l ⟨d,F⟩)):=(hr j1 (by simpa using n1.symm)).trans R1;refine NE (yM l ⟨d,F⟩) ⟨W (d+t.rest),0⟩ ab (by omega) fun j2 H2 R2 ad=>?_
 simp only[go_sem];refine fun h0 Hm Z M=>?_
 have I:j2≠u:=fun e=>by have:=h0 u (by simp);rw[<-e,R2]at this;cases this
 simp only[go_sem];refine hK j2 Hm ((M j2 (by simpa using I)).trans R2) fun k row aa O=>?_
 obtain⟨m1,m2⟩:=J k row aa O;by_cases e:k=u
 . subst e
   exact⟨I.symm,(Z k (by simp)).trans m2⟩
 . obtain⟨m3,m4⟩:=ad k row m1 ((hr k (by simpa using e)).trans m2)
   exact⟨m3,(M k (by simpa using e)).trans m4⟩
theorem V7(s:Sr)(t:VType)(d u:Int){H:aG}{F:Nat}(ht:s.x.types[s.kind]?=some t)(RS:H F=some (iY s)){K:AV->aG->Prop}
   (hK:∀j' H',H' j'=some (lH (mD t [] d u))->(∀k row,H k=some row->k≠j'/\H' k=some row)->K (.os j') H'):aX prog 120 [.op F 0 0,.v (.slice none 0 0),int d,int u] H K:=by
 have hk:=(List.getElem?_eq_some_iff.1 ht).1;have b1:=inB hk;have g1:=aE (f:=bB) ht;refine aX.body (c:=Tryz.f120.body.getD .skip) (fun _=>false) mixed Tryz.func120 rfl (by kernel_rfl) ?_;unfold Tryz.f120;simp only[gdS];simp only[go_sem];refine NC.use (afN ⟨d,u⟩) fun E T=>?_
 have n1:F≠E:=fun e=>by rw[e,T]at RS;cases RS
 have Z:aI H E (some (lH [⟨d,u⟩])) F=some (iY s):=(aD _ _ _ _ n1).trans RS;have R1:aI H E (some (lH [⟨d,u⟩])) E=some (lH [⟨d,u⟩]):=aA _ _ _;have ac:∀k row,H k=some row->k≠E/\aI H E (some (lH [⟨d,u⟩])) k=some row:=fun k row h=>by
   have O:k≠E:=fun e=>by rw[e,T]at h;cases h
   exact⟨O,(aD _ _ _ _ O).trans h⟩
 generalize aI H E (some (lH [⟨d,u⟩]))=H1 at *;simp only[go_sem];refine eN [F] [(0,true),(1,true),(2,true),(3,true),(4,true),(5,true),(6,true),(7,true),(8,true),(9,true),(10,true),(11,true),(12,true),(13,true),(14,true),(15,true),(16,false),(17,true)] (by simp[Z]) (by kernel_rfl) fun Hp Hr hp hr _ af=>?_
 have I:=(hp F (by simp)).trans Z;simp only[go_sem,g1,b1,I];have ad:Hr E=some (lH [⟨d,u⟩]):=(hr E (by simpa using n1.symm)).trans R1;refine NE [⟨d,u⟩] ⟨W (d+t.rest),0⟩ ad (by simp) fun j2 H2 R2 ae=>?_
 simp only[go_sem];refine fun h0 Hm ab M=>?_
 have J:j2≠F:=fun e=>by have:=h0 F (by simp);rw[<-e,R2]at this;cases this
 simp only[go_sem];refine hK j2 Hm ((M j2 (by simpa using J)).trans R2) fun k row aa=>?_
 obtain⟨m1,m2⟩:=ac k row aa;by_cases e:k=F
 . subst e
   exact⟨J.symm,(ab k (by simp)).trans m2⟩
 . obtain⟨m3,m4⟩:=ae k row m1 ((hr k (by simpa using e)).trans m2)
   exact⟨m3,(M k (by simpa using e)).trans m4⟩
def LX(n:Network)(t:VType)(src:Int)(st:Stop)(out:List Sta)(a:Sta):List Sta:=
 let g:=iM n t.profile src st.place a.ready
 if(g.2.2 != 0||decide (W (W (a.driven+g.1)-a.ready)>t.drive))=true then out
 else if((Rx.kO st g.1).2 != 0)=true then out
 else mD t out (Rx.kO st g.1).1 (W (W (a.driven+g.1)-a.ready))
def zS(n:Network)(t:VType)(src:Int)(st:Stop)(l:List Sta):List Sta:=l.foldl (LX n t src st) []
theorem V6(n:Network)(t:VType)(src:Int)(st:Stop)(out:List Sta)(a:Sta):(LX n t src st out a).length<=out.length+2:=by
 unfold LX;simp only;split
 . omega
 . split
   . omega
   . exact E5 _ _ _ _
theorem zT(n:Network)(t:VType)(src:Int)(st:Stop)(l:List Sta):∀k,((l.take k).foldl (LX n t src st) []).length<=2*k
 | 0=>by simp
 | k+1=>by
   have h:=zT n t src st l k;by_cases u:k<l.length
   . obtain⟨c,E⟩:=aN u
     rw[gQ E];exact Xaj (V6 n t src st _ c) (by omega)
   . rw[Xan (by omega)]
     rw[Xan (by omega)]at h;omega
theorem WO(H0:aG)(js:Nat)(s:Sr)(t:VType)(hj:H0 js=some (iY s))(ht:s.x.types[s.kind]?=some t)(src:Int)(l:List Sta)(st:Stop)(hn:NetOk s.x.net)(hl:l.length<=400000):
   LC prog 192 [.op js 0 0,int src,.sl (l.map fK),.agg (dR st)] H0 (.sl ((zS s.x.net t src st l).map fK)):=by
 have hk:=(List.getElem?_eq_some_iff.1 ht).1;have b1:=inB hk;have g1:=aE (f:=bB) ht;refine LC.body (c:=Tryz.f192.body.getD .skip) (fun t=>t == 10) mixed Tryz.func192 rfl (by kernel_rfl) ?_;unfold Tryz.f192;simp only[gdS];simp only[go_sem];have U:=Sup.refl H0;have ae:=U.at hj;refine eN [js] [(0,true),(1,true),(2,true),(3,true),(4,true),(5,true),(6,true),(7,true),(8,true),(9,true),(10,true),(11,false),(12,false)] (by simp[ae]) (by kernel_rfl) fun Hp Hr hp hr _ aw=>?_
 have aa:=(hp js (by simp)).trans ae;simp only[go_sem,g1,b1,aa];refine aM fun i9 av=>?_
 simp only[go_sem];refine aJ (aA _ _ _) (by simp[jB]) ?_;refine uW hr av fun ak=>?_
 have al:=U.none ak;generalize ai:aI (aI _ i9 _) i9 _=HGi9;replace U:=Sup.eq ((U.upd al _).upd al _) ai;have Z:HGi9 i9=some ((⟨113,14,[bB t]⟩:Row)):=by rw[<-ai,aA];try rfl
 clear ai ak;simp only[go_sem,Z];refine aM fun j an=>?_
 have af:i9≠j:=aO Z an;have ar:=U.none an;generalize aj:aI _ j _=HGj;replace U:=Sup.eq (U.upd ar _) aj;replace Z:=(congrFun aj.symm i9).trans ((aD _ _ _ _ af).trans Z);have R:HGj j=some (lH []):=by rw[<-aj,aA];try rfl
 clear aj an;simp only[go_sem,R,Z];refine⟨fun ρ H=>∃(k:Nat) (j:Nat),k<=l.length/\ρ 0=.op js 0 0/\ρ 1=int src/\ρ 7=.rp (dR st) 0/\ρ 9=.op i9 0 0/\ρ 28=.sl (l.map fK)/\ρ 29=int (l.length:Nat)/\ρ 30=int k/\ρ 10=.os j/\Sup H0 H/\H0 j=none/\H i9=some (⟨113,14,[bB t]⟩:Row)/\H j=some (lH ((l.take k).foldl (LX s.x.net t src st) [])),fun ρ _=>l.length-aV (ρ 30),⟨0,j,Xac _,by simp only[go_sem],by simp only[go_sem],by simp only[go_sem],by simp only[go_sem],by simp only[go_sem],by simp only[go_sem,Xaa],(by simp only[go_sem];rfl),by simp only[go_sem],U,ar,Z,R⟩,?_⟩;rintro ρ H ⟨k,j,hk,e0,e1,e7,e9,I,E,u,F,U,nj,Z,R⟩;simp only[go_sem,e0,e1,e7,e9,I,E,u,F];refine aB (fun ac=>?_) (fun ap=>?_)
 . have ac:=ltB (by simpa using ac)
   obtain⟨a,ha⟩:=aN ac;have d1:=inB ac;have hs:=gQ (f:=LX s.x.net t src st) (b:=([]:List Sta)) ha;have ax:=zT s.x.net t src st l k;generalize (l.take k).foldl (LX s.x.net t src st) []=out at *;have au:i9≠j:=fun e=>by subst e;rw[Z]at R;cases R
   simp only[go_sem,e0,e1,e7,e9,I,E,u,F,aE ha,d1];refine aM fun ab T=>?_
   have O:j≠ab:=aO R T;have M:i9≠ab:=aO Z T;simp only[go_sem,e0,e1,e7,e9,I,E,u,F,R,Z];refine aJ (aA _ _ _) (by simp[DT]) ?_;have ad:=U.none T;generalize J:aI (aI _ ab _) ab _=HGi12;replace U:=Sup.eq ((U.upd ad _).upd ad _) J;replace R:=(congrFun J.symm j).trans ((aD _ _ _ _ O).trans ((aD _ _ _ _ O).trans R));replace Z:=(congrFun J.symm i9).trans ((aD _ _ _ _ M).trans ((aD _ _ _ _ M).trans Z));have ag:HGi12 ab=some ((⟨232,2,[fK a]⟩:Row)):=by rw[<-J,aA];try rfl
   clear J T;simp only[go_sem,e0,e1,e7,e9,I,E,u,F,ag,R,Z];have ae:=U.at hj;have ne:js≠ab:=Sup.ne (Sup.refl H0) hj ad;refine eN [js,i9,ab] [(0,true),(1,true),(2,true),(3,true),(4,true),(5,true),(6,true),(7,true),(8,true),(9,true),(10,true),(11,true),(12,false),(13,true),(14,true),(15,true),(16,true),(17,true),(18,true),(19,true)] (by simp[ae,Z,ag]) (by kernel_rfl) fun Hp Hr hp hr _ aw=>?_
   have aa:=(hp js (by simp)).trans ae;have am:=(hp i9 (by simp)).trans Z;have ah:=(hp ab (by simp)).trans ag;simp only[go_sem,e0,e1,e7,e9,I,E,u,F,aa,am,ah];refine PC.use (Vv s.x.net t.profile src st.place a.ready hn) ?_;simp only[go_sem,e0,e1,e7,e9,I,E,u,F,aa,am,ah];refine lP hr ?_;have ha:LX s.x.net t src st out a=(if((iM s.x.net t.profile src st.place a.ready).2.2 != 0||decide (W (W (a.driven+(iM s.x.net t.profile src st.place a.ready).1)-a.ready)>t.drive))=true then out
     else if((Rx.kO st (iM s.x.net t.profile src st.place a.ready).1).2 != 0)=true then out
     else mD t out (Rx.kO st (iM s.x.net t.profile src st.place a.ready).1).1 (W (W (a.driven+(iM s.x.net t.profile src st.place a.ready).1)-a.ready))):=rfl
   rw[ha]at hs;clear ha;generalize iM s.x.net t.profile src st.place a.ready=g at *;simp only[go_sem,e0,e1,e7,e9,I,E,u,F,Z,ag];refine aB (fun c1=>?_) (fun c1=>?_)
   . have c1:(g.2.2 != 0||decide (W (W (a.driven+g.1)-a.ready)>t.drive))=true:=c1
     rw[if_pos c1]at hs;simp only[go_sem,e0,e1,e7,e9,I,E,u,F,aP (show k<=4611686018427387904 by omega)];refine⟨⟨k+1,j,ac,rfl,rfl,U,nj,Z,?_⟩,by simp only[aF];omega⟩;rw[hs];exact R
   have c1:(g.2.2 != 0||decide (W (W (a.driven+g.1)-a.ready)>t.drive))=false:=c1;rw[if_neg (fun h=>Bool.noConfusion (c1.symm.trans h))]at hs;simp only[go_sem,e0,e1,e7,e9,I,E,u,F];refine PC.use (Rx.Xi st g.1) ?_;simp only[go_sem,e0,e1,e7,e9,I,E,u,F];generalize Rx.kO st g.1=dp at *;refine aB (fun c2=>?_) (fun c2=>?_)
   . rw[if_pos c2]at hs
     simp only[go_sem,e0,e1,e7,e9,I,E,u,F,aP (show k<=4611686018427387904 by omega)];refine⟨⟨k+1,j,ac,rfl,rfl,U,nj,Z,?_⟩,by simp only[aF];omega⟩;rw[hs];exact R
   rw[if_neg (fun h=>Bool.noConfusion (c2.symm.trans h))]at hs;simp only[go_sem,e0,e1,e7,e9,I,E,u,F,ag];refine UI s t out dp.1 (W (W (a.driven+g.1)-a.ready)) ht ae R (by omega) fun j2 H2 R2 ao=>?_
   simp only[go_sem,e0,e1,e7,e9,I,E,u,F,aP (show k<=4611686018427387904 by omega)];refine⟨⟨k+1,j2,ac,rfl,rfl,fun q row hq=>?_,?_,(ao i9 _ au Z).2,?_⟩,by simp only[aF];omega⟩
   . have aq:q≠j:=fun e=>by subst e;rw[nj]at hq;cases hq
     exact(ao q row aq (U q row hq)).2
   . cases e:H0 j2 with
     | none=>rfl
     | some row=>
       have aq:j2≠j:=fun e2=>by subst e2;rw[nj]at e;cases e
       exact absurd rfl (ao j2 row aq (U j2 row e)).1
   . rw[hs];exact R2
 have ap:=geB hk (by simpa using ap);subst ap;rw[Xag]at R;simp only[go_sem,e0,e1,e7,e9,I,E,u,F];exact⟨U,[j],by simpa using nj,.row _ _ _ (by simp;exact R) (ConvE.refl _)⟩
theorem UD(H0:aG)(I:Nat)(s:Sr)(t:VType)(d E:Int)(J:s.x.types[s.kind]?=some t)(M:H0 I=some (iY s)):
   LC prog 120 [.op I 0 0,.v (.slice none 0 0),int d,int E] H0 (.sl ((mD t [] d E).map fK)):=fun K T=>
 aX.data (V7 s t d E J M fun F H' R u=>⟨fun k row h=>(u k row h).2,[F],fun k Z=>by
   have e:k=F:=by simpa using Z
   subst e;cases O:H0 k with
   | none=>rfl
   | some row=>exact absurd rfl (u k row O).1,.row _ _ _ (by simp;exact R) (ConvE.refl _)⟩) T
end Go.Proofs.YtohmomanmikphaaGreatDoor.Sq
end
section
namespace Go.Proofs.YtohmomanmikphaaGreatDoor.Sq
open Go.Proofs.Tryz(prog)
open Go.Aw Go.Aw.D Go.Proofs Ty
open Go.Proofs.YtohmomanmikphaaGreatDoor.Nu (ltB geB)
open Mv (bW cN NC.pc aT)
def HB(a b:Column):Bool:=if(a.price != b.price)=true then decide (a.price<b.price)else decide (RB a.route.visits b.route.visits<0)
theorem Uu(a b:Column)(E:a.route.visits.length<=1048576):PC prog 189 [.agg (aS a),.agg (aS b)] (boo (HB a b)):=by
 refine pcd Tryz.func189 ?_;unfold Tryz.f189;simp only[gdS];simp only[go_sem];unfold HB;refine aB (fun u=>?_) (fun u=>?_)
 . rw[if_pos u]
   simp only[go_sem];exact .refl _
 . rw[if_neg (by rw[u];simp)]
   simp only[go_sem];refine PC.use (Yl a.route.visits b.route.visits E) ?_;simp only[go_sem];exact .refl _
def yW(best:Column)(fd:Bool)(next:Column):Column:=if(!fd||HB next best)=true then next else best
abbrev oH(c:Column):Row:=⟨43,7,[aS c]⟩
def cD:Column:=⟨0,0,0,⟨0,0,[],[]⟩⟩
theorem XR(best:Column)(T:Bool)(next:Column)(Z:next.route.visits.length<=1048576):PC prog 188 [.agg (aS best),boo T,.agg (aS next),.v (.func (.func 189) #[] #[])] (.agg (aS (yW best T next))):=by
 have O:aC prog 189=true:=by kernel_rfl
 have J:=Uu next best Z
 refine pcd Tryz.func188 ?_;unfold Tryz.f188;simp only[gdS];simp only[go_sem];refine aM fun F I=>?_
 generalize u:aI _ F _=HGi8;have E:HGi8 F=some (oH cD):=by rw[<-u,aA];try rfl
 clear u I;simp only[go_sem,O,E];refine⟨_,fun _=>J.q rfl,?_⟩;simp only[go_sem];unfold yW;refine aB (fun J=>?_) (fun J=>?_)
 . rw[if_pos J]
   simp only[go_sem];refine aJ E (by simp[dI]) ?_;generalize M:aI _ F _=HP;replace E:HP F=some (oH next):=by rw[<-M,aA];rfl
   clear M;simp only[go_sem,E];exact .refl _
 . rw[if_neg (fun h=>Bool.noConfusion (J.symm.trans h))]
   simp only[go_sem];refine aJ E (by simp[dI]) ?_;generalize M:aI _ F _=HP;replace E:HP F=some (oH best):=by rw[<-M,aA];rfl
   clear M;simp only[go_sem,E];exact .refl _
def kW(s:Sr)(l:List Visit):Route:=⟨(s.kind:Nat),0,[],l⟩
def HH(s:Sr)(l:List Visit)(p:Int):Column:=⟨(s.kind:Nat),s.set,p,kW s l⟩
def Mo(s:Sr)(l:List Visit):Sr:=if((gE s.x (kW s l)).2 == 0)=true then { s with best:=yW s.best s.found (HH s l (gE s.x (kW s l)).1),found:=true }else s
def yC(t:VType)(rec:Sr->List Visit->Int->List Sta->Sr)(l:List Visit)(src:Int)(st:List Sta)(s:Sr)(v:Visit):Sr:=
 if((eM s.x v).2 != 0)=true then s
 else if(zS s.x.net t src (eM s.x v).1 st).length=0 then s
 else rec s (l++[v]) (eM s.x v).1.place (zS s.x.net t src (eM s.x v).1 st)
def mZ(t:VType):Nat->Sr->List Visit->Int->List Sta->Sr
 | 0,s,_,_,_=>s
 | f+1,s,l,src,st=>if((l.length:Int) == (s.total:Int))=true then Mo s l else(AW s.x s.set l).foldl (yC t (mZ t f) l src st) s
structure SameB(s s':Sr):Prop where
 x:s'.x=s.x
 kind:s'.kind=s.kind
 set:s'.set=s.set
 total:s'.total=s.total
structure SrB(t:VType)(s:Sr):Prop where
 ty:s.x.types[s.kind]?=some t
 ev:EvalB s.x
 before:s.x.before.length<=1048576
 orders:s.x.orders.length<=60
 total:s.total<=16
theorem SameB.refl(s:Sr):SameB s s:=⟨rfl,rfl,rfl,rfl⟩
theorem SameB.trans{a b c:Sr}(h:SameB a b)(g:SameB b c):SameB a c:=⟨g.x.trans h.x,g.kind.trans h.kind,g.set.trans h.set,g.total.trans h.total⟩
theorem SameB.b{t:VType}{a b:Sr}(h:SameB a b)(g:SrB t a):SrB t b:=⟨by rw[h.x,h.kind];exact g.ty,by rw[h.x];exact g.ev,by rw[h.x];exact g.before,by rw[h.x];exact g.orders,by rw[h.total];exact g.total⟩
theorem Q1(s:Sr)(l:List Visit):SameB s (Mo s l):=by unfold Mo;split <;> exact⟨rfl,rfl,rfl,rfl⟩
theorem Fa{α:Type}{g:Sr->α->Sr}(u:∀a v,SameB a (g a v)):∀(l:List α) (a:Sr),SameB a (l.foldl g a)
 | [],a=>.refl a
 | v::l,a=>(u a v).trans (Fa u l (g a v))
theorem pT(t:VType):∀(f:Nat) (s:Sr) (l:List Visit) (src:Int) (st:List Sta),SameB s (mZ t f s l src st)
 | 0,s,_,_,_=>.refl s
 | f+1,s,l,src,st=>by
   unfold mZ;split
   . exact Q1 s l
   . refine Fa (fun a v=>?_) _ _
     unfold yC;split
     . exact .refl a
     . split
       . exact .refl a
       . exact pT t f _ _ _ _
theorem avE{H:aG}{j:Nat}:(fun q=>if q∈[j]then none else H q)=aI H j none:=funext fun q=>by simp only[aI,Xat]
theorem B0{l:List Nat}{H0 H T:aG}{K:Env->aG->Prop}{ρ:Env}{J u:Nat}{a b:Row}{r5:Option Row}(hr:∀k,k∉l->T k=H k)(hn:u∉l)(h5:T J=none)(U:Sup (aI H0 u (some a)) H)
   (h:∀F:aG,F u=some b->Sup (aI H0 u (some b)) F->K ρ F):kU l H K ρ (aI (aI (aI T J r5) J none) u (some b)):=fun h0 F h1 Z=>by
 refine h F ((Z u hn).trans (aA _ _ _)) fun k row M=>?_
 by_cases e:k=u
 . subst e
   rw[aA]at M;rw[Z k hn,aA];exact M
 . rw[aD _ _ _ _ e]at M
   have O:=U k row (by rw[aD _ _ _ _ e];exact M);by_cases I:k∈l
   . rw[h1 k I];exact O
   . have E:k≠J:=fun e2=>by rw[<-e2,hr k I,O]at h5;cases h5
     rw[Z k I,aD _ _ _ _ e,aD _ _ _ _ E,aD _ _ _ _ E,hr k I];exact O
abbrev TO(t:VType)(js f:Nat):Prop:=∀(s:Sr) (_:SrB t s) (H0:aG) (_:H0 js=some (iY s)) (l:List Visit) (src:Int) (st:List Sta) (_:l.length<=s.total) (_:s.total-l.length<f) (_:st.length<=2^(l.length+1)),
 MC prog 119 [.op js 0 0,.sl (l.map aK),int src,.sl (st.map fK)] H0 (aI H0 js (some (iY (mZ t f s l src st)))) (.tup [])
theorem FQ(t:VType)(js f:Nat)(a4:∀f',f=f'+1->TO t js f'):TO t js f:=by
 intro s az H0 a6 l src st bw hf br;obtain⟨f,rfl⟩:∃f',f=f'+1:=⟨f-1,by omega⟩;have a4:=a4 f rfl;have bx:=az.total;have hj:=a6;have eW:mZ t (f+1) s l src st=if((l.length:Int) == (s.total:Int))=true then Mo s l else(AW s.x s.set l).foldl (yC t (mZ t f) l src st) s:=rfl
 generalize mZ t (f+1) s l src st=RW at *;refine MC.body (c:=Tryz.f119.body.getD .skip) (fun _=>false) (OP a6) mixed Tryz.func119 rfl (by kernel_rfl) ?_;unfold Tryz.f119;simp only[gdS];simp only[go_sem,hj,Xaa];have U:=Sup.refl H0;refine aB (fun hb=>?_) (fun hb=>?_)
 . rw[if_pos hb]at eW
   subst eW;have eE:Mo s l=if((gE s.x (kW s l)).2 == 0)=true then { s with best:=yW s.best s.found (HH s l (gE s.x (kW s l)).1),found:=true }else s:=rfl
   have hP:=T0 s.x (kW s l) az.ev (by show l.length<=1048575;omega);simp only[go_sem,hj];refine aM fun j8 a5=>?_
   have ah:js≠j8:=aO hj a5;simp only[go_sem,hj];refine aJ (aA _ _ _) (by simp[uG]) ?_;have ba:=U.none a5;generalize av:aI (aI _ j8 _) j8 _=HGj8;replace U:=Sup.eq ((U.upd ba _).upd ba _) av;replace hj:=(congrFun av.symm js).trans ((aD _ _ _ _ ah).trans ((aD _ _ _ _ ah).trans hj));have R8:HGj8 j8=some ((⟨41,4,[cX (kW s l)]⟩:Row)):=by rw[<-av,aA];try rfl
   clear av a5;simp only[go_sem,R8,hj];refine eN [js,j8] [(0,true),(1,true),(2,true),(3,true),(4,true),(5,false),(6,true),(7,true),(8,true),(9,true),(10,true)] (by simp[hj,R8]) (by kernel_rfl) fun Hp Hr hp hr _ am=>?_
   have ad:=(hp js (by simp)).trans hj;have an:=(hp j8 (by simp)).trans R8;simp only[go_sem,ad,an];refine PC.use hP ?_;generalize gE s.x (kW s l)=pr at *;simp only[go_sem];refine lP hr ?_;simp only[go_sem];refine aB (fun hc=>?_) (fun hc=>?_)
   case refine_2=>
     rw[if_neg (fun h=>Bool.noConfusion (hc.symm.trans h))]at eE;rw[eE];simp only[go_sem];refine Ij.flat ?_ _;rw[J5 a6];exact U
   rw[if_pos hc]at eE;simp only[go_sem];clear hp hr am ad an;refine eN [js,j8] [(0,true),(1,true),(2,true),(3,true),(4,true),(5,true),(6,true),(7,true),(8,true),(9,true),(10,true),(11,false),(12,false)] (by simp[hj,R8]) (by kernel_rfl) fun Hp Hr hp hr _ am=>?_
   have ad:=(hp js (by simp)).trans hj;have an:=(hp j8 (by simp)).trans R8;simp only[go_sem,ad,an];refine aM fun au bq=>?_
   simp only[go_sem];refine aJ (aA _ _ _) (by simp[dI,uG]) ?_;refine uW hr bq fun ao=>?_
   have af:js≠au:=aO hj ao;have a0:=U.none ao;generalize aj:aI (aI _ au _) au _=HGj11;replace U:=Sup.eq ((U.upd a0 _).upd a0 _) aj;replace hj:=(congrFun aj.symm js).trans ((aD _ _ _ _ af).trans ((aD _ _ _ _ af).trans hj));have aw:HGj11 au=some (oH (HH s l pr.1)):=by rw[<-aj,aA];try rfl
   clear aj ao;simp only[go_sem,aw,hj];clear hp hr am ad an;have hF:=XR s.best s.found (HH s l pr.1) (by show l.length<=1048576;omega);generalize b3:yW s.best s.found (HH s l pr.1)=fb at *;have bm:js≠au:=fun e=>by subst e;rw[hj]at aw;cases aw
   refine AO [au] (.q 0 (.q 1 (.q 2 (.q 3 (.q 5 (.q 6 (.q 7 (.q 9 (.a2 4 (.a1 8 (.a1 10 (.q 11 (.q 12 (.a1 13 .nil))))) 8 (.a1 4 (.a1 10 (.q 11 (.q 12 (.a1 13 .nil)))))))))))))) (fun ab H'=>ab 0=.op js 0 0/\H' js=some (iY { s with best:=fb })/\Sup (aI H0 js (some (iY { s with best:=fb }))) H') (by simp[aw]) (by kernel_rfl) (fun K' al Hp Hr hp hr _ am=>?_) ?_
   . have bn:=(hp au (by simp)).trans aw
     have ai:=(hr js (by simpa using bm)).trans hj;simp only[go_sem,bn];refine lA ?_ ?_
     . simp only[go_sem,ai]
       refine PC.use hF ?_;simp only[go_sem,ai];refine aJ ai (by simp[nF,dI]) ?_;simp only[go_sem];refine nM hr (by simpa using bm) (al _ _ ⟨by simp only[go_sem],(aA _ _ _).trans rfl,?_⟩);exact U.set js (some (iY { s with best:=fb }))
     . simp only[go_sem,ai]
       refine PC.use hF ?_;simp only[go_sem,ai];refine aJ ai (by simp[nF,dI]) ?_;simp only[go_sem];refine nM hr (by simpa using bm) (al _ _ ⟨by simp only[go_sem],(aA _ _ _).trans rfl,?_⟩);exact U.set js (some (iY { s with best:=fb }))
   clear hj U R8 aw;rintro ρ H ⟨I,R,U⟩;simp only[go_sem,I,R];refine eF so4 R (by simp[nF]) ?_;simp only[go_sem];rw[eE];refine Ij.flat ?_ _;exact Sup.set2 U (some (iY { s with best:=fb,found:=true }))
 rw[if_neg (fun h=>Bool.noConfusion (hb.symm.trans h))]at eW;subst eW;have b2:l.length<s.total:=by simp at hb;omega
 have bz:=az.orders;have bp:=zF s.x s.set l s.x.orders.length;simp only[go_sem];refine eN [js] [(0,true),(1,true),(2,true),(3,true),(4,true),(5,true),(6,true),(7,true),(8,true),(11,true),(9,false),(10,true)] (by simp[hj]) (by kernel_rfl) fun Hp Hr hp hr _ am=>?_
 have ad:=(hp js (by simp)).trans hj;simp only[go_sem,ad];refine PC.use (aaE s.x s.set l (by omega) az.before (by omega)) ?_;have bp:(AW s.x s.set l).length<=120:=Xaj bp (by omega);generalize AW s.x s.set l=vs at *;simp only[go_sem,Xaa];refine lP hr ?_;clear hp hr am ad U;have b0:st.length<=131072:=Xaj br (Xaj (Xav (by decide) (show l.length+1<=17 by omega)) (by decide));refine⟨fun ρ H=>∃(k:Nat) (a:Sr),k<=vs.length/\ρ 0=.op js 0 0/\ρ 1=.sl (l.map aK)/\ρ 2=int src/\ρ 3=.sl (st.map fK)/\ρ 77=.sl (vs.map aK)/\ρ 78=int (vs.length:Nat)/\ρ 79=int k/\a=(vs.take k).foldl (yC t (mZ t f) l src st) s/\SameB s a/\H js=some (iY a)/\Sup (aI H0 js (some (iY a))) H,fun ρ _=>vs.length-aV (ρ 79),⟨0,s,Xac _,by simp only[go_sem],by simp only[go_sem],by simp only[go_sem],by simp only[go_sem],by simp only[go_sem],by simp only[go_sem,Xaa],(by simp only[go_sem];rfl),rfl,SameB.refl s,a6,by rw[J5 a6];exact Sup.refl H0⟩,?_⟩;rintro ρ H ⟨k,a,hk,I,J,T,Z,F,E,u,ha,hS,R,U⟩;simp only[go_sem,I,J,T,Z,F,E,u];refine aB (fun aq=>?_) (fun bk=>?_)
 . have aq:=ltB (by simpa using aq)
   obtain⟨v,hv⟩:=aN aq;have b1:=inB aq;have hs:=gQ (f:=yC t (mZ t f) l src st) (b:=s) hv;rw[<-ha]at hs;have bb:=hS.b az;have eX:yC t (mZ t f) l src st a v=if((eM a.x v).2 != 0)=true then a
     else if(zS a.x.net t src (eM a.x v).1 st).length=0 then a
     else mZ t f a (l++[v]) (eM a.x v).1.place (zS a.x.net t src (eM a.x v).1 st):=rfl
   have bt:SameB a (yC t (mZ t f) l src st a v):=by
     unfold yC;split
     . exact .refl a
     . split
       . exact .refl a
       . exact pT t f _ _ _ _
   generalize yC t (mZ t f) l src st a v=EV at *;have bo:=Qa a.x v;generalize b4:eM a.x v=sv at *;simp only[go_sem,I,J,T,Z,F,E,u,aE hv,b1];refine aM fun ae ap=>?_
   have ag:js≠ae:=aO R ap;simp only[go_sem,I,J,T,Z,F,E,u,R];refine aJ (aA _ _ _) (by simp[cU]) ?_;have a7:=U.none ap;generalize ak:aI (aI _ ae _) ae _=HGi13;replace U:=Sup.eq ((U.upd a7 _).upd a7 _) ak;replace R:=(congrFun ak.symm js).trans ((aD _ _ _ _ ag).trans ((aD _ _ _ _ ag).trans R));have ac:HGi13 ae=some ((⟨119,2,[aK v]⟩:Row)):=by rw[<-ak,aA];try rfl
   clear ak ap;simp only[go_sem,I,J,T,Z,F,E,u,ac,R];refine AO [js,ae] (.q 0 (.q 1 (.q 2 (.q 3 (.q 4 (.q 5 (.a2 6 (.q 7 (.q 8 (.q 9 (.a1 10 (.a1 11 (.q 12 .nil)))))) 10 (.a1 6 (.q 7 (.q 8 (.q 9 (.a1 11 (.q 12 .nil))))))))))))) (fun ab H'=>ab 0=.op js 0 0/\ab 1=.sl (l.map aK)/\ab 2=int src/\ab 3=.sl (st.map fK)/\ab 77=.sl (vs.map aK)/\ab 78=int vs.length/\ab 79=int (k:Nat)/\ab 13=.op ae 0 0/\ab 15=int sv.2/\∃ay,ab 14=.op ay 0 0/\H' ay=some (⟨109,4,[dR sv.1]⟩:Row)/\H' ae=some (⟨119,2,[aK v]⟩:Row)/\H' js=some (iY a)/\Sup (aI H0 js (some (iY a))) H') (by simp[R,ac]) (by kernel_rfl) (fun K' al Hp Hr hp hr _ am=>?_) ?_
   . have bu:=(hp js (by simp)).trans R
     have ar:=(hp ae (by simp)).trans ac;simp only[go_sem,I,J,T,Z,F,E,u,bu,ar];refine lA ?_ ?_
     . simp only[go_sem,I,J,T,Z,F,E,u]
       refine PC.use bo ?_;simp only[go_sem,I,J,T,Z,F,E,u];refine aM fun j8 be=>?_
       simp only[go_sem,I,J,T,Z,F,E,u];refine aJ (aA _ _ _) (by simp[kF]) ?_;simp only[go_sem];refine uW hr be fun h8=>al _ _ ⟨by simp only[go_sem,I,J,T,Z,F,E,u],by simp only[go_sem,I,J,T,Z,F,E,u],by simp only[go_sem,I,J,T,Z,F,E,u],by simp only[go_sem,I,J,T,Z,F,E,u],by simp only[go_sem,I,J,T,Z,F,E,u],by simp only[go_sem,I,J,T,Z,F,E,u],by simp only[go_sem,I,J,T,Z,F,E,u],by simp only[go_sem,I,J,T,Z,F,E,u],by simp only[go_sem],j8,by simp only[go_sem],aA _ _ _,(aD _ _ _ _ (aO ac h8)).trans ((aD _ _ _ _ (aO ac h8)).trans ac),(aD _ _ _ _ (aO R h8)).trans ((aD _ _ _ _ (aO R h8)).trans R),(U.upd (U.none h8) _).upd (U.none h8) _⟩
     . simp only[go_sem,I,J,T,Z,F,E,u]
       refine aM fun j8 be=>?_
       simp only[go_sem,I,J,T,Z,F,E,u];refine PC.use bo ?_;simp only[go_sem,I,J,T,Z,F,E,u];refine aJ (aA _ _ _) (by simp[kF]) ?_;simp only[go_sem];refine uW hr be fun h8=>al _ _ ⟨by simp only[go_sem,I,J,T,Z,F,E,u],by simp only[go_sem,I,J,T,Z,F,E,u],by simp only[go_sem,I,J,T,Z,F,E,u],by simp only[go_sem,I,J,T,Z,F,E,u],by simp only[go_sem,I,J,T,Z,F,E,u],by simp only[go_sem,I,J,T,Z,F,E,u],by simp only[go_sem,I,J,T,Z,F,E,u],by simp only[go_sem,I,J,T,Z,F,E,u],by simp only[go_sem],j8,by simp only[go_sem],aA _ _ _,(aD _ _ _ _ (aO ac h8)).trans ((aD _ _ _ _ (aO ac h8)).trans ac),(aD _ _ _ _ (aO R h8)).trans ((aD _ _ _ _ (aO R h8)).trans R),(U.upd (U.none h8) _).upd (U.none h8) _⟩
   clear ac R U I J T Z F E u;rintro ρ H ⟨I,J,T,Z,F,E,u,aa,M,ay,O,ax,ac,R,U⟩;simp only[go_sem,I,J,T,Z,F,E,u,aa,M,O];refine aB (fun c1=>?_) (fun c1=>?_)
   . rw[if_pos c1]at eX
     simp only[go_sem,I,J,T,Z,F,E,u,aa,M,O,aP (show k<=4611686018427387904 by omega)];exact⟨⟨k+1,a,aq,rfl,by rw[hs,eX],hS,R,U⟩,by simp only[aF];omega⟩
   rw[if_neg (fun h=>Bool.noConfusion (c1.symm.trans h))]at eX;have bv:=WO H js a t R bb.ty src st sv.1 bb.ev.net (by omega);have a8:=zT a.x.net t src sv.1 st st.length;rw[Xag]at a8;replace a8:(zS a.x.net t src sv.1 st).length<=2*st.length:=a8;generalize zS a.x.net t src sv.1 st=nx at *;simp only[go_sem,I,J,T,Z,F,E,u,aa,M,O,ax];refine LC.use bv ?_;simp only[go_sem,I,J,T,Z,F,E,u,aa,M,O,Xaa];refine aB (fun c2=>?_) (fun c2=>?_)
   case refine_2=>
     have hz:nx.length=0:=by simp at c2;simp[c2]
     rw[if_pos hz]at eX;simp only[go_sem,I,J,T,Z,F,E,u,aa,M,O,aP (show k<=4611686018427387904 by omega)];exact⟨⟨k+1,a,aq,rfl,by rw[hs,eX],hS,R,U⟩,by simp only[aF];omega⟩
   have hz:¬nx.length=0:=by simp at c2;omega
   rw[if_neg hz]at eX;have bf:js≠ae:=fun e=>by subst e;rw[R]at ac;cases ac
   have bh:js≠ay:=fun e=>by subst e;rw[R]at ax;cases ax
   simp only[go_sem,I,J,T,Z,F,E,u,aa,M,O];have bd:(l++[v]).length=l.length+1:=by simp
   have bc:=fun(Hx:aG) (hx:Hx js=some (iY a))=>a4 a bb Hx hx (l++[v]) sv.1.place nx (by rw[bd,hS.total];omega) (by rw[bd,hS.total];omega) (by rw[bd,Nat.pow_succ];omega)
   rw[<-eX]at bc;refine AO [ae,ay] (.q 0 (.q 1 (.q 3 (.q 6 (.q 7 (.q 8 (.a2 2 (.a1 4 (.a1 5 (.a1 9 .nil))) 4 (.a1 2 (.a1 5 (.a1 9 .nil)))))))))) (fun ab H'=>ab 0=.op js 0 0/\ab 1=.sl (l.map aK)/\ab 2=int src/\ab 3=.sl (st.map fK)/\ab 77=.sl (vs.map aK)/\ab 78=int vs.length/\ab 79=int (k:Nat)/\H' js=some (iY EV)/\Sup (aI H0 js (some (iY EV))) H') (by simp[ac,ax]) (by kernel_rfl) (fun K' al Hp Hr hp hr _ am=>?_) ?_
   . have ar:=(hp ae (by simp)).trans ac
     have bi:=(hp ay (by simp)).trans ax;have a9:=(hr js (by simp[bf,bh])).trans R;simp only[go_sem,I,J,T,Z,F,E,u,aa,M,O,ar,bi];refine lA ?_ ?_
     . simp only[go_sem,I,J,T,Z,F,E,u,aa,M,O]
       refine PC.use (TT l (by omega)) ?_;simp only[go_sem,I,J,T,Z,F,E,u,aa,M,O];refine Qh acR (.inl rfl) (by simp) (zQ cU l) (by simp only[go_sem]) (by simp;omega) fun j5 h5=>?_
       have n5:js≠j5:=aO a9 h5;simp only[go_sem,I,J,T,Z,F,E,u,aa,M,O];refine aX.frz [j5] (args':=[.op js 0 0,.sl (l.map aK++[aK v]),int sv.1.place,.sl (nx.map fK)]) (.cons _ _ _ _ (.refl _) (.cons _ _ _ _ (.row _ _ _ (by simp;exact aA _ _ _) (ConvE.refl _)) (.cons _ _ _ _ (.refl _) (.cons _ _ _ _ (.refl _) .nil)))) ?_;rw[avE,show l.map aK++[aK v]=(l++[v]).map aK by simp];refine MC.use (bc _ ((aD _ _ _ _ n5).trans ((aD _ _ _ _ n5).trans a9))) ?_;simp only[go_sem,I,J,T,Z,F,E,u,aa,M,O];refine B0 hr (by simp[bf,bh]) h5 U fun Hm bg bj=>al _ _ ⟨by simp only[go_sem,I,J,T,Z,F,E,u,aa,M,O],by simp only[go_sem,I,J,T,Z,F,E,u,aa,M,O],by simp only[go_sem,I,J,T,Z,F,E,u,aa,M,O],by simp only[go_sem,I,J,T,Z,F,E,u,aa,M,O],by simp only[go_sem,I,J,T,Z,F,E,u,aa,M,O],by simp only[go_sem,I,J,T,Z,F,E,u,aa,M,O],by simp only[go_sem,I,J,T,Z,F,E,u,aa,M,O],bg,bj⟩
     . simp only[go_sem,I,J,T,Z,F,E,u,aa,M,O]
       refine PC.use (TT l (by omega)) ?_;simp only[go_sem,I,J,T,Z,F,E,u,aa,M,O];refine Qh acR (.inl rfl) (by simp) (zQ cU l) (by simp only[go_sem]) (by simp;omega) fun j5 h5=>?_
       have n5:js≠j5:=aO a9 h5;simp only[go_sem,I,J,T,Z,F,E,u,aa,M,O];refine aX.frz [j5] (args':=[.op js 0 0,.sl (l.map aK++[aK v]),int sv.1.place,.sl (nx.map fK)]) (.cons _ _ _ _ (.refl _) (.cons _ _ _ _ (.row _ _ _ (by simp;exact aA _ _ _) (ConvE.refl _)) (.cons _ _ _ _ (.refl _) (.cons _ _ _ _ (.refl _) .nil)))) ?_;rw[avE,show l.map aK++[aK v]=(l++[v]).map aK by simp];refine MC.use (bc _ ((aD _ _ _ _ n5).trans ((aD _ _ _ _ n5).trans a9))) ?_;simp only[go_sem,I,J,T,Z,F,E,u,aa,M,O];refine B0 hr (by simp[bf,bh]) h5 U fun Hm bg bj=>al _ _ ⟨by simp only[go_sem,I,J,T,Z,F,E,u,aa,M,O],by simp only[go_sem,I,J,T,Z,F,E,u,aa,M,O],by simp only[go_sem,I,J,T,Z,F,E,u,aa,M,O],by simp only[go_sem,I,J,T,Z,F,E,u,aa,M,O],by simp only[go_sem,I,J,T,Z,F,E,u,aa,M,O],by simp only[go_sem,I,J,T,Z,F,E,u,aa,M,O],by simp only[go_sem,I,J,T,Z,F,E,u,aa,M,O],bg,bj⟩
   clear ac ax R U I J T Z F E u aa M O;rintro ρ H ⟨I,J,T,Z,F,E,u,R,U⟩;simp only[go_sem,I,J,T,Z,F,E,u,aP (show k<=4611686018427387904 by omega)];exact⟨⟨k+1,EV,aq,rfl,hs.symm,hS.trans bt,R,U⟩,by simp only[aF];omega⟩
 have bk:=geB hk (by simpa using bk);subst bk;rw[Xag]at ha;rw[<-ha];simp only[go_sem];exact Ij.flat U _
end Go.Proofs.YtohmomanmikphaaGreatDoor.Sq
end
section
namespace Go.Proofs.YtohmomanmikphaaGreatDoor.Sq
open Go.Aw Go.Aw.D Go.Proofs Ty
open Go.Proofs.YtohmomanmikphaaGreatDoor.Nu (ltB geB)
open Mv (bW cN NC.pc aT)
theorem Pv(t:VType)(u:Nat):∀f,TO t u f
 | 0=>FQ t u 0 (fun E e=>by omega)
 | f + 1 => FQ t u (f + 1) (fun E e => by
     obtain rfl:E=f:=by omega
     exact Pv t u E)
def wC(x:Instance)(set:Int)(l:List Visit):Prop:=∀p v q,l=p++v::q->v∈AW x set p
theorem wC.nil{x:Instance}{set:Int}:wC x set []:=fun p v q h=>by simp at h
theorem wC.snoc{x:Instance}{set:Int}{l:List Visit}(h:wC x set l){v:Visit}(I:v∈AW x set l):wC x set (l++[v]):=fun p w q e=>by
 rcases List.eq_nil_or_concat q with rfl|⟨E,u,rfl⟩
 . obtain⟨rfl,F⟩:=List.append_inj' e rfl
   cases F;exact I
 . rw[List.concat_eq_append,show p++w::(E++[u])=(p++w::E)++[u]by simp]at e
   obtain⟨rfl,F⟩:=List.append_inj' e rfl;exact h p w E rfl
def wF(s:Sr):Prop:=s.found=true->∃l,s.best=HH s l (gE s.x (kW s l)).1/\(gE s.x (kW s l)).2=0/\wC s.x s.set l/\l.length=s.total
theorem Nx{s:Sr}(h:wF s){l:List Visit}(J:wC s.x s.set l)(I:l.length=s.total):wF (Mo s l):=by
 unfold Mo;split
 next u=>
   have u:(gE s.x (kW s l)).2=0:=by simpa using u
   intro _;show ∃l',yW s.best s.found (HH s l (gE s.x (kW s l)).1)=HH s l' (gE s.x (kW s l')).1/\(gE s.x (kW s l')).2=0/\wC s.x s.set l'/\l'.length=s.total;unfold yW;split
   . exact⟨l,rfl,u,J,I⟩
   next E=>
     have F:s.found=true:=by
       cases e:s.found with
       | true=>rfl
       | false=>rw[e]at E;simp at E
     exact h F
 . exact h
theorem D9{l:List Visit}{g:Sr->Visit->Sr}{E:Sr}(F:∀a v,SameB E a->wF a->v∈AW E.x E.set l->SameB E (g a v)/\wF (g a v)):∀(vs:List Visit) (a:Sr),(∀v∈vs,v∈AW E.x E.set l)->SameB E a->wF a->wF (vs.foldl g a)
 | [],a,_,_,h=>h
 | v::vs,a,hv,hs,h=>by
   obtain⟨h1,I⟩:=F a v hs h (hv v (by simp));exact D9 F vs (g a v) (fun u J=>hv u (by simp[J])) h1 I
theorem CS(t:VType):∀(f:Nat) (s:Sr) (l:List Visit) (src:Int) (st:List Sta),wF s->wC s.x s.set l->wF (mZ t f s l src st)
 | 0,s,_,_,_,h,_=>h
 | f+1,s,l,src,st,h,hl=>by
   unfold mZ;split
   next I=>exact Nx h hl (by simp at I;omega)
   . refine D9 (l:=l) (fun a v u E F=>?_) _ s (fun v F=>F) (SameB.refl s) h
     unfold yC;split
     . exact⟨u,E⟩
     . split
       . exact⟨u,E⟩
       . refine⟨u.trans (pT t f _ _ _ _),CS t f _ _ _ _ E ?_⟩
         rw[u.x,u.set];exact hl.snoc F
def nZ(x:Instance)(l:List Int):Nat:=(l.map fun i=>(iE x.orders i).length).sum
def tW(x:Instance)(set:Int):Nat:=nZ x (fR set)
theorem Ow(x:Instance){l:List Int}{k:Nat}{i:Int}(h:l[k]?=some i):nZ x (l.take (k+1))=nZ x (l.take k)+(iE x.orders i).length:=by
 unfold nZ;rw[bQ h];simp
theorem Dy(x:Instance):∀l:List Int,nZ x l<=2*l.length
 | []=>Xaf _
 | i::l=>by
   have h1:=Dy x l;have u:=pJ x.orders i;unfold nZ at h1 |-;simp only[Xar,List.sum_cons,Xad];omega
theorem NH(x:Instance)(l:List Int)(k:Nat):nZ x (l.take k)<=2*k:=by
 have h1:=Dy x (l.take k);rw[Xal]at h1;omega
theorem Gq{set:Int}{n:Nat}(h:∀i:Nat,n<=i->dH set (i:Int)=false):∀d,qF set (n+d)=qF set n
 | 0=>rfl
 | d+1=>by
   rw[<-Xbo,nB,h (n+d) (by omega),Gq h d];simp
theorem T7{set:Int}{n:Nat}(h0:0<=set)(h1:set<2^n)(i:Nat)(E:n<=i):dH set (i:Int)=false:=by
 obtain⟨m,rfl⟩:=Int.eq_ofNat_of_zero_le h0;by_cases u:i<=62
 . rw[sH (by omega) (by omega),Xbf]
   refine Nat.testBit_lt_two_pow (Xbn (m:=2^n) ?_ (Xav (by decide) E))
   exact_mod_cast h1
 . unfold dH
   rw[decide_eq_false (show ¬(i:Int)<=62 by omega)];simp
theorem PI{set:Int}{n:Nat}(h0:0<=set)(h1:set<2^n)(u:n<=63):(fR set).length<=n:=by
 have h:=Gq (T7 h0 h1) (63-n);unfold fR;rw[show 63=n+(63-n)by omega,h];exact pS set n
theorem Gx{x:Instance}{set:Int}{n:Nat}(h0:0<=set)(h1:set<2^n)(u:n<=63):tW x set<=2*n:=by
 have F:=PI h0 h1 u;have E:=Dy x (fR set);unfold tW;omega
theorem K4{α:Type}{o:Option α}{f:α->Prop}{a:α}(h:o=some a)(u:f a):bK o f:=by subst h;exact u
abbrev jS(t:VType):Row:=⟨113,14,[bB t]⟩
end Go.Proofs.YtohmomanmikphaaGreatDoor.Sq
end
section
namespace Go.Proofs.YtohmomanmikphaaGreatDoor.Sq
open Go.Proofs.Tryz(prog)
open Go.Aw Go.Aw.D Go.Proofs Ty
open Go.Proofs.YtohmomanmikphaaGreatDoor.Nu (ltB geB)
open Mv (bW cN NC.pc aT)
def O4(x:Instance)(kind set:Int):Bool:=((decide (kind<0)||decide (kind>=(x.types.length:Int)))||decide (set<=0))||(shV .shr .i64 set (x.orders.length:Nat) != 0)
def GI(x:Instance)(kind:Nat)(set:Int)(t:VType):Sr:=mZ t 17 ⟨x,kind,set,tW x set,cD,false⟩ [] t.src (mD t [] t.start 0)
def vJ(x:Instance)(kind set:Int):Column×Int:=
 if O4 x kind set=true then(cD,2)
 else if(E6 x set != 0)=true then(cD,24)
 else match x.types[kind.toNat]? with
 | none=>(cD,24)
 | some t=>if(GI x kind.toNat set t).found=true then((GI x kind.toNat set t).best,0)else(cD,24)
theorem XE(x:Instance)(kind set:Int)(hE:EvalB x)(hn:x.orders.length<=8):PC prog 67 [.agg (aH x),int kind,int set] (.tup [.agg (aS (vJ x kind set).1),int (vJ x kind set).2]):=by
 refine pcb (fun t=>t == 43||t == 75) Tryz.func67 ?_;unfold Tryz.f67;simp only[gdS];simp only[go_sem];have hP:vJ x kind set=((if O4 x kind set=true then(cD,2)
   else if(E6 x set != 0)=true then(cD,24)
   else match x.types[kind.toNat]? with
   | none=>(cD,24)
   | some t=>if(GI x kind.toNat set t).found=true then((GI x kind.toNat set t).best,0)else(cD,24)):Column×Int):=rfl
 generalize vJ x kind set=RP at *;refine aM fun j6 ar=>?_
 generalize av:aI _ j6 _=HG6;have R6:HG6 j6=some (oH cD):=by rw[<-av,aA];try rfl
 clear av ar;simp only[go_sem,R6,Xaa];refine⟨fun _=>by omega,aB (fun hb=>?_) (fun hb=>?_)⟩
 . simp only[go_sem,R6]
   refine aJ R6 (by simp only[go_sem]) ?_;generalize hP:aI _ j6 _=HP;replace R6:HP j6=some (oH cD):=by rw[<-hP,aA];rfl
   clear hP;simp only[go_sem,R6];have hb:O4 x kind set=true:=hb;rw[if_pos hb]at hP;rw[hP];exact .refl _
 have aw:O4 x kind set=false:=hb;rw[if_neg (by rw[aw];simp)]at hP;obtain⟨⟨⟨hk0,hk1⟩,hs0⟩,hs1⟩:((0<=kind/\kind<x.types.length)/\0<set)/\shV .shr .i64 set (x.orders.length:Nat)=0:=by
   simpa using hb
 rw[rT (by omega)]at hs1;obtain⟨k0,rfl⟩:=Int.eq_ofNat_of_zero_le hk0;have hk:k0<x.types.length:=by omega
 obtain⟨t,ht⟩:=aN hk;have bk:=inB hk;have am:set<2^x.orders.length:=by
   have hp:(0:Int)<2^x.orders.length:=Int.pow_pos (by decide);rcases Int.lt_or_le set (2^x.orders.length)with h|h
   . exact h
   . have:=Int.le_ediv_of_mul_le hp (show 1*2^x.orders.length<=set by omega)
     omega
 have hM:=Gx (x:=x) (by omega) am (by omega);have ax:=PI (by omega) am (by omega);rw[show tW x set=nZ x (fR set)from rfl]at *;simp only[go_sem,R6,Xaa];refine PC.use (Sy x set (by omega) hE.apart hE.before) ?_;rw[Xbf,ht]at hP;unfold GI at hP;simp only at hP;rw[show tW x set=nZ x (fR set)from rfl]at hP;simp only[go_sem,R6];refine aB (fun ak=>?_) (fun ak=>?_)
 . simp only[go_sem,R6]
   refine aJ R6 (by simp only[go_sem]) ?_;generalize hP:aI _ j6 _=HP;replace R6:HP j6=some (oH cD):=by rw[<-hP,aA];rfl
   clear hP;simp only[go_sem,R6];rw[if_pos ak]at hP;rw[hP];exact .refl _
 rw[if_neg (by rw[ak];simp)]at hP;clear hb ak aw;simp only[go_sem,R6];refine K4 (a:=qY ⟨x,k0,set,0,cD,false⟩) rfl ⟨by rw[nF];decide,?_⟩;refine aM fun js an=>?_
 have al:j6≠js:=aO R6 an;simp only[go_sem,R6];generalize ap:aI _ js _=HGs;replace R6:=(congrFun ap.symm j6).trans ((aD _ _ _ _ al).trans R6);have R:HGs js=some (iY ⟨x,k0,set,0,cD,false⟩):=by rw[<-ap,aA]
 clear ap an;refine PC.use (lR set) ?_;simp only[go_sem,R6,R,Xaa];have ag:=pS set 63
 change (fR set).length<=63 at ag
 generalize fR set=M at *;clear ax;have a4:M.length<=63:=ag;refine⟨fun ρ H=>∃(k:Nat),k<=M.length/\ρ 1=int (k0:Nat)/\ρ 3=.rp (aH x) 0/\ρ 6=.op j6 0 0/\ρ 8=.op js 0 0/\ρ 45=.sl (M.map bN)/\ρ 46=int (M.length:Nat)/\ρ 47=int k/\H j6=some (oH cD)/\H js=some (iY ⟨x,k0,set,nZ x (M.take k),cD,false⟩),fun ρ _=>M.length-aV (ρ 47),⟨0,Xac _,by simp only[go_sem],by simp only[go_sem],by simp only[go_sem],by simp only[go_sem],by simp only[go_sem],by simp only[go_sem,Xaa],(by simp only[go_sem];rfl),R6,R⟩,?_⟩;clear R6 R;rintro ρ H ⟨k,a0,I,Z,J,O,u,F,E,R6,R⟩;simp only[go_sem,I,Z,J,O,u,F,E];refine aB (fun ah=>?_) (fun aq=>?_)
 . have ah:=ltB (by simpa using ah)
   obtain⟨i,hi⟩:=aN ah;have b1:=inB ah;have hs:=Ow x hi;have hb:=NH x M k;have hV:=pJ x.orders i;generalize nZ x (M.take k)=T at *;simp only[go_sem,I,Z,J,O,u,F,E,aE hi,b1];refine AO [] (.q 0 (.q 1 (.q 2 (.q 4 (.q 5 (.q 6 (.a2 3 (.a1 7 (.q 8 (.q 9 (.q 10 (.q 11 (.a1 12 .nil)))))) 7 (.q 8 (.a1 3 (.q 9 (.q 10 (.q 11 (.a1 12 .nil)))))))))))))
     (fun ad H'=>ad 1=int (k0:Nat)/\ad 3=.rp (aH x) 0/\ad 6=.op j6 0 0/\ad 8=.op js 0 0/\ad 45=.sl (M.map bN)/\ad 46=int (M.length:Nat)/\ad 47=int (k:Nat)/\H' j6=some (oH cD)/\H' js=some (iY ⟨x,k0,set,nZ x (M.take (k+1)),cD,false⟩)) (by simp) (by kernel_rfl) (fun K' au Hp Hr hp hr _ ay=>?_) ?_
   . have aa:=(hr js (by simp)).trans R
     simp only[go_sem,I,Z,J,O,u,F,E];refine lA ?_ ?_
     . simp only[go_sem,I,Z,J,O,u,F,E,aa]
       refine PC.use (pA x.orders i) ?_;simp only[go_sem,I,Z,J,O,u,F,E,aa,Xaa];refine eF so3 aa (by simp[nF]) ?_;simp only[go_sem];refine nM hr (by simp) (au _ _ ⟨by simp only[go_sem,I,Z,J,O,u,F,E],by simp only[go_sem,I,Z,J,O,u,F,E],by simp only[go_sem,I,Z,J,O,u,F,E],by simp only[go_sem,I,Z,J,O,u,F,E],by simp only[go_sem,I,Z,J,O,u,F,E],by simp only[go_sem,I,Z,J,O,u,F,E],by simp only[go_sem,I,Z,J,O,u,F,E],?_,?_⟩)
       . rw[aD _ _ _ _ al];exact R6
       rw[hs,aA];refine congrArg (fun l=>some (⟨170,17,[l]⟩:Row)) ?_;rw[bA (by omega)];rfl
     . simp only[go_sem,I,Z,J,O,u,F,E,aa]
       refine PC.use (pA x.orders i) ?_;simp only[go_sem,I,Z,J,O,u,F,E,aa,Xaa];refine eF so3 aa (by simp[nF]) ?_;simp only[go_sem];refine nM hr (by simp) (au _ _ ⟨by simp only[go_sem,I,Z,J,O,u,F,E],by simp only[go_sem,I,Z,J,O,u,F,E],by simp only[go_sem,I,Z,J,O,u,F,E],by simp only[go_sem,I,Z,J,O,u,F,E],by simp only[go_sem,I,Z,J,O,u,F,E],by simp only[go_sem,I,Z,J,O,u,F,E],by simp only[go_sem,I,Z,J,O,u,F,E],?_,?_⟩)
       . rw[aD _ _ _ _ al];exact R6
       rw[hs,aA];refine congrArg (fun l=>some (⟨170,17,[l]⟩:Row)) ?_;rw[bA (by omega)];rfl
   clear R6 R I Z J O u F E;rintro ρ H ⟨I,Z,J,O,u,F,E,R6,R⟩;simp only[go_sem,I,Z,J,O,u,F,E,aP (show k<=4611686018427387904 by omega)];exact⟨⟨k+1,ah,rfl,R6,R⟩,by simp only[aF];omega⟩
 have aq:=geB a0 (by simpa using aq);subst aq;rw[Xag]at R;simp only[go_sem,I,Z,J,O,u,F,E,aE ht,bk];refine aM fun ac ae=>?_
 have af:js≠ac:=aO R ae;have ao:j6≠ac:=aO R6 ae;simp only[go_sem,I,Z,J,O,u,F,E];refine aJ (aA _ _ _) (by simp[jB]) ?_;generalize aj:aI (aI _ ac _) ac _=HGi;replace R6:=(congrFun aj.symm j6).trans ((aD _ _ _ _ ao).trans ((aD _ _ _ _ ao).trans R6));replace R:=(congrFun aj.symm js).trans ((aD _ _ _ _ af).trans ((aD _ _ _ _ af).trans R));have ai:HGi ac=some (jS t):=by rw[<-aj,aA];try rfl
 clear aj ae;simp only[go_sem,I,Z,J,O,u,F,E,ai];refine eN [ac] [(0,true),(1,true),(2,true),(3,true),(4,true),(5,true),(6,false),(7,false)] (by simp[ai]) (by kernel_rfl) fun Hp Hr hp hr _ ay=>?_
 have az:=(hp ac (by simp)).trans ai;have aa:=(hr js (by simpa using af)).trans R;simp only[go_sem,I,Z,J,O,u,F,E,az];refine LC.use (UD Hr js _ t t.start 0 ht aa) ?_;simp only[go_sem,I,Z,J,O,u,F,E];refine MC.use (Pv t js 17 ⟨x,k0,set,nZ x M,cD,false⟩ ⟨ht,hE,hE.before,by show x.orders.length<=60;omega,by show nZ x M<=16;omega⟩ Hr aa [] t.src (mD t [] t.start 0) (Xac _) (by show nZ x M-0<17;omega) (E5 t [] t.start 0)) ?_;have hB:=pT t 17 ⟨x,k0,set,nZ x M,cD,false⟩ [] t.src (mD t [] t.start 0);generalize mZ t 17 ⟨x,k0,set,nZ x M,cD,false⟩ [] t.src (mD t [] t.start 0)=s' at *;simp only[go_sem,I,Z,J,O,u,F,E];refine nM hr (by simpa using af) ?_;have R2:aI HGi js (some (iY s')) js=some (iY s'):=aA _ _ _;have ab:aI HGi js (some (iY s')) j6=some (oH cD):=(aD _ _ _ _ al).trans R6;generalize aI HGi js (some (iY s'))=HX at *;clear R6 R ai;simp only[go_sem,I,Z,J,O,u,F,E,R2];refine aB (fun hb=>?_) (fun hb=>?_)
 . simp only[go_sem,I,Z,J,O,u,F,E,ab]
   refine aJ ab (by simp only[go_sem]) ?_;generalize hP:aI _ j6 _=HP;replace ab:HP j6=some (oH cD):=by rw[<-hP,aA];rfl
   clear hP;simp only[go_sem,I,Z,J,O,u,F,E,ab];rw[if_neg (by simpa using hb)]at hP;rw[hP];exact .refl _
 simp only[go_sem,I,Z,J,O,u,F,E,R2,ab];refine aJ ab (by simp[dI]) ?_;generalize hP:aI _ j6 _=HP;replace ab:HP j6=some (oH s'.best):=by rw[<-hP,aA];rfl
 clear hP;simp only[go_sem,I,Z,J,O,u,F,E,ab];rw[if_pos (by simpa using hb)]at hP;rw[hP];exact .refl _
structure BestQ(x:Instance)(k:Nat)(set:Int)(c:Column):Prop where
 lt:k<x.types.length
 pos:0<set
 top:set<2^x.orders.length
 is:∃l,c=⟨(k:Nat),set,(gE x ⟨(k:Nat),0,[],l⟩).1,⟨(k:Nat),0,[],l⟩⟩/\(gE x ⟨(k:Nat),0,[],l⟩).2=0/\wC x set l/\l.length=tW x set
theorem VB{x:Instance}{k:Nat}{set:Int}(hn:x.orders.length<=8)(h:(vJ x (k:Nat) set).2=0):BestQ x k set (vJ x (k:Nat) set).1:=by
 unfold vJ at h |-;split at h
 . exact absurd h (by decide)
 split at h
 . exact absurd h (by decide)
 next hb _=>
 rw[Xbf]at *;split at h
 . exact absurd h (by decide)
 next t ht=>
 split at h
 case isFalse=>exact absurd h (by decide)
 next J=>
 have E:O4 x (k:Nat) set=false:=by simpa using hb
 unfold O4 at E;obtain⟨⟨⟨hk0,hk1⟩,hs0⟩,hs1⟩:((0<=(k:Int)/\(k:Int)<x.types.length)/\0<set)/\shV .shr .i64 set (x.orders.length:Nat)=0:=by
   simpa using E
 rw[rT (by omega)]at hs1;have F:set<2^x.orders.length:=by
   have Z:(0:Int)<2^x.orders.length:=Int.pow_pos (by decide);rcases Int.lt_or_le set (2^x.orders.length)with h|h
   . exact h
   . have:=Int.le_ediv_of_mul_le Z (show 1*2^x.orders.length<=set by omega)
     omega
 rw[if_neg hb,if_neg (by assumption)];simp only[J,if_true];have u:=pT t 17 ⟨x,k,set,tW x set,cD,false⟩ [] t.src (mD t [] t.start 0);obtain⟨l,z1,T,O,M⟩:=CS t 17 ⟨x,k,set,tW x set,cD,false⟩ [] t.src (mD t [] t.start 0) (fun h=>Bool.noConfusion h) wC.nil J;unfold GI;generalize mZ t 17 ⟨x,k,set,tW x set,cD,false⟩ [] t.src (mD t [] t.start 0)=s' at *;have I:kW s' l=⟨(k:Nat),0,[],l⟩:=by unfold kW;rw[u.kind]
 rw[I,u.x]at T;rw[u.x,u.set]at O;rw[u.total]at M;refine⟨by omega,hs0,F,l,?_,T,O,M⟩;rw[z1];unfold HH;rw[I,u.x,u.set,u.kind]
abbrev dQ(l:List Column):Row:=⟨43,7,l.map aS⟩
def El(x:Instance)(kind set:Nat):List Column:=if((vJ x (kind:Nat) (set:Nat)).2 == 0)=true then[(vJ x (kind:Nat) (set:Nat)).1]else[]
def sD(x:Instance)(kind m:Nat):List Column:=(List.range m).flatMap fun s=>El x kind (s+1)
def CP(x:Instance)(k:Nat):List Column:=(List.range k).flatMap fun kind=>sD x kind (2^x.orders.length-1)
def sF(x:Instance):List Column:=CP x x.types.length
theorem Ca(x:Instance)(kind m:Nat):sD x kind (m+1)=sD x kind m++El x kind (m+1):=by
 unfold sD;rw[Xbk,List.flatMap_append];simp
theorem Fb(x:Instance)(k:Nat):CP x (k+1)=CP x k++sD x k (2^x.orders.length-1):=by
 unfold CP;rw[Xbk,List.flatMap_append];simp
theorem Rb(x:Instance)(kind set:Nat):(El x kind set).length<=1:=by unfold El;split <;> simp
theorem zW(x:Instance)(kind:Nat):∀m,(sD x kind m).length<=m
 | 0=>Xaf _
 | m+1=>by
   rw[Ca,Xab];have:=zW x kind m;have:=Rb x kind (m+1);omega
theorem xR(x:Instance):∀k,(CP x k).length<=k*2^x.orders.length
 | 0=>Xac _
 | k+1=>by
   rw[Fb,Xab,Nat.succ_mul];have:=xR x k;have:=zW x k (2^x.orders.length-1);have u:0<2^x.orders.length:=Nat.two_pow_pos _;omega
theorem SR{x:Instance}{kind set:Nat}{c:Column}(u:x.orders.length<=8)(h:c∈El x kind set):BestQ x kind set c:=by
 unfold El at h;split at h
 next E=>
   have:=VB (x:=x) (k:=kind) (set:=(set:Nat)) u (by simpa using E);rw[Xat.1 h];exact this
 . cases h
theorem mI{x:Instance}{c:Column}(u:x.orders.length<=8)(h:c∈sF x):∃kind set:Nat,BestQ x kind set c:=by
 unfold sF CP sD at h;obtain⟨kind,_,h⟩:=List.mem_flatMap.1 h;obtain⟨s,_,h⟩:=List.mem_flatMap.1 h;exact⟨kind,s+1,SR u h⟩
theorem KE(l:List Column)(c:Column):(⟨43,7,l.map aS++[aS c]⟩:Row)=dQ (l++[c]):=by
 show _=(⟨43,7,(l++[c]).map aS⟩:Row);rw[Xam];rfl
theorem PH{s n:Nat}(u:n<=8):shV .shr .i64 ((s:Nat):Int) ((n:Nat):Int)=((s/2^n:Nat):Int):=by
 rw[rT (by omega)];simp
theorem abW(x:Instance)(hE:EvalB x)(hn:x.orders.length<=8)(ht:x.types.length<=1000):NC prog 36 [.agg (aH x)] (dQ (sF x)) (fun j=>.tup [.os j,int 0]):=by
 refine ncb (fun t=>t == 4) Tryz.func36 ?_;unfold Tryz.f36;simp only[gdS];simp only[go_sem];refine aM fun j ah=>?_
 generalize af:aI _ j _=HGj;have R:HGj j=some (dQ []):=by rw[<-af,aA];try rfl
 clear af ah;simp only[go_sem,R];refine⟨fun ρ H=>∃(k:Nat) (j:Nat),k<=x.types.length/\ρ 1=.rp (aH x) 0/\ρ 11=int (x.types.length:Nat)/\ρ 12=int k/\ρ 4=.os j/\H j=some (dQ (CP x k)),fun ρ _=>x.types.length-aV (ρ 12),⟨0,j,Xac _,by simp only[go_sem],by simp only[go_sem,Xaa],(by simp only[go_sem];rfl),by simp only[go_sem],R⟩,?_⟩;rintro ρ H ⟨k,j,hk,F,E,u,I,R⟩;simp only[go_sem,F,E,u,I];refine aB (fun ac=>?_) (fun ab=>?_)
 . have ac:=ltB (by simpa using ac)
   have hs:=Fb x k;have an:=xR x k;have h8:2^x.orders.length<=256:=Xaj (Xav (by decide) hn) (by decide);have hp:0<2^x.orders.length:=Nat.two_pow_pos _;have ap:k*2^x.orders.length<=256000:=Xaj (Nat.mul_le_mul (show k<=1000 by omega) h8) (by decide);generalize am:CP x k=A at *;simp only[go_sem,F,E,u,I];refine⟨fun ρ H=>∃m j:Nat,m<=2^x.orders.length-1/\ρ 1=.rp (aH x) 0/\ρ 5=int (k:Nat)/\ρ 6=int (m+1:Nat)/\ρ 11=int x.types.length/\ρ 12=int (k:Nat)/\ρ 4=.os j/\H j=some (dQ (A++sD x k m)),fun ρ _=>2^x.orders.length-aV (ρ 6),⟨0,j,Xac _,by simp only[go_sem,F,E,u,I],by simp only[go_sem,F,E,u,I],(by simp only[go_sem,F,E,u,I];rfl),by simp only[go_sem,F,E,u,I],by simp only[go_sem,F,E,u,I],by simp only[go_sem,F,E,u,I],by simpa[sD]using R⟩,?_⟩;clear F I E u R;rintro ρ H ⟨m,j,hm,F,T,e6,E,u,I,R⟩;simp only[go_sem,F,I,T,e6,E,u,Xaa];refine⟨by omega,aB (fun ad=>?_) (fun ae=>?_)⟩
   . rw[PH hn]at ad
     have aa:(m+1)/2^x.orders.length=0:=by
       have:(((m+1)/2^x.orders.length:Nat):Int)=0:=by simpa using ad
       omega
     have aj:m+1<2^x.orders.length:=(Nat.div_eq_zero_iff.1 aa).resolve_left (by omega);have M:=Ca x k m;have al:=zW x k m;simp only[go_sem,F,I,T,e6,E,u];refine PC.use (XE x (k:Nat) ((m+1:Nat):Int) hE hn) ?_;have ag:El x k (m+1)=if((vJ x (k:Nat) ((m+1:Nat):Int)).2 == 0)=true then[(vJ x (k:Nat) ((m+1:Nat):Int)).1]else[]:=rfl
     rw[ag]at M;generalize vJ x (k:Nat) ((m+1:Nat):Int)=B at *;generalize sD x k m=KM at *;simp only[go_sem,F,I,T,e6,E,u];refine aM fun i7 Z=>?_
     have J:j≠i7:=aO R Z;simp only[go_sem,F,I,T,e6,E,u,R];refine aJ (aA _ _ _) (by simp[dI]) ?_;generalize O:aI (aI _ i7 _) i7 _=HGi7;replace R:=(congrFun O.symm j).trans ((aD _ _ _ _ J).trans ((aD _ _ _ _ J).trans R));have R7:HGi7 i7=some (dQ [B.1]):=by rw[<-O,aA];try rfl
     clear O Z;simp only[go_sem,F,I,T,e6,E,u,R7,R];refine aB (fun hc=>?_) (fun hc=>?_)
     . rw[if_pos hc]at M
       simp only[go_sem,F,I,T,e6,E,u,R7];refine bE R ⟨rfl,rfl⟩ (by simp only[go_sem]) (by simp only[Xaa,Xab,Xad,List.length_nil];omega) (fun j2 ao=>?_);simp only[go_sem,F,I,T,e6,E,u,aP (show m+1<=4611686018427387904 by omega)];refine⟨⟨m+1,j2,by omega,rfl,rfl,?_⟩,by simp only[aF];omega⟩;rw[M,<-Xai,aA];exact congrArg some (KE _ _)
     . rw[if_neg (by rw[hc];simp),Xah]at M
       simp only[go_sem,F,I,T,e6,E,u,aP (show m+1<=4611686018427387904 by omega)];refine⟨⟨m+1,j,by omega,rfl,rfl,?_⟩,by simp only[aF];omega⟩;rw[M];exact R
   . rw[PH hn]at ae
     have aa:¬(m+1)/2^x.orders.length=0:=by
       have:¬(((m+1)/2^x.orders.length:Nat):Int)=0:=by simpa using ae
       omega
     have ak:¬m+1<2^x.orders.length:=fun h=>aa (Nat.div_eq_of_lt h)
     have ai:m=2^x.orders.length-1:=by omega
     subst ai;simp only[go_sem,F,I,E,u,aP (show k<=4611686018427387904 by omega)];refine⟨⟨k+1,j,ac,rfl,rfl,?_⟩,by simp only[aF];omega⟩;rw[hs];exact R
 have ab:=geB hk (by simpa using ab);subst ab;simp only[go_sem,F,E,u,I];exact⟨j,rfl,R⟩
end Go.Proofs.YtohmomanmikphaaGreatDoor.Sq
end
section
namespace Go.Proofs.YtohmomanmikphaaGreatDoor.Sq
open Go.Proofs.Tryz(prog)
open Go.Aw Go.Aw.D Go.Proofs Ty
open Rx (aX.cutO BF Be yD)
open Mv (bW cN NC.pc aT)
theorem Wr{g:Nat}{cap:List AV}{p:Column->Bool}(l:List Column)(hl:l.length<=4000000000000000000)(T:aC prog g=true)(hg:∀v∈l,PC prog g ((.agg (aS v))::cap) (boo (p v))):
   PC prog 68 [.sl (l.map aS),.fn g cap] (int (lU p l 0)):=by
 refine pcd Tryz.func68 ?_;unfold Tryz.f68;simp only[gdS];simp only[go_sem];refine⟨fun ρ _=>∃k:Nat,k<=l.length/\ρ 0=.sl (l.map aS)/\ρ 1=.fn g cap/\ρ 7=int l.length/\ρ 8=int k/\∀u∈l.take k,p u=false,fun ρ _=>l.length-aV (ρ 8),⟨0,Xac _,rfl,rfl,rfl,rfl,by simp⟩,?_⟩;rintro ρ H ⟨k,hk,h0,h1,J,I,M⟩;simp only[go_sem,h0,h1,J,I];refine aB (fun E=>?_) (fun F=>?_)
 . have E:=aZ E
   obtain⟨u,O⟩:=aN E;have b1:=inB E;simp only[go_sem,h0,h1,J,I,aE O,b1,T];refine PC.use (hg u (Xae O)) ?_;simp only[go_sem,h0,h1,J,I];refine aB (fun Z=>?_) (fun Z=>?_)
   . simp only[go_sem,I]
     exact bW (by rw[mS M O Z];omega)
   . simp only[go_sem,h0,h1,J,I,aP (show k<=4611686018427387904 by omega)]
     exact⟨⟨k+1,E,rfl,aT (p:=fun u=>p u=false) O Z M⟩,by simp only[aF];omega⟩
 . have F:=bC hk F
   subst F;rw[Xag]at M;simp only[go_sem];exact bW (by rw[kN M])
theorem Iq(u v:Column):mX (aS u) 0 (aS v)=aS v:=(rfl)
theorem Lr{g:Nat}{cap cap':List AV}{p:Column->Bool}(l:List Column)(H0:aG)(F:Nat)(hj:H0 F=some ⟨43,7,l.map aS⟩)(hl:l.length<=1000000000)(ab:aC prog g=true)(hg:∀v∈l,PC prog g ((.agg (aS v))::cap') (boo (p v)))
   (hc:∀H:aG,(∀k row,k≠F->H0 k=some row->H k=some row)->ConvL H cap cap') {K:AV->aG->Prop}
   (hK:∀(I:Nat) (H':aG),(∀k row,k≠F->H0 k=some row->H' k=some row)->(H0 I=none\/I=F)->H' I=some ⟨43,7,(l.filter fun v=> !p v).map aS⟩->K (.os I) H'):
   aX prog 37 [.os F,.fn g cap] H0 K:=by
 have aa:aX prog 37 [.os F,.fn g cap] H0 fun a H'=>K a H'\/∃j i row,a=.oz j 0 i/\H' j=some row/\i<=row.es.length/\∀I,H' I=none->K (.os I) (aI (aI H' j none) I (some ⟨row.e,row.sz,row.es.take i⟩)):=by
   refine aX.body (c:=Tryz.f37.body.getD .skip) (fun _=>false) mixed Tryz.func37 rfl (by kernel_rfl) ?_;unfold Tryz.f37;simp only[gdS];simp only[go_sem];refine cZ.use ⟨[.sl (l.map aS),.fn g cap'],.cons _ _ _ _ (.row _ _ _ hj (ConvE.refl _)) (.cons _ _ _ _ (.fn _ _ _ (hc H0 fun _ _ _ h=>h)) .nil),Wr l (by omega) ab hg,rfl⟩ ?_;simp only[go_sem];refine aB (fun hb=>?_) (fun hb=>?_)
   . have hm:∀y∈l,p y=false:=BF (Xbx 0) (by simpa using hb)
     simp only[go_sem];refine .inl (hK F H0 (fun _ _ _ h=>h) (.inr rfl) ?_);rw[List.filter_eq_self.2 (fun v hv=>by rw[hm v hv];rfl)];exact hj
   obtain⟨i,y,hi,hy,al,ah⟩:=Be (p:=p) (l:=l) (by simpa using hb);have ap:=(List.getElem?_eq_some_iff.1 hy).1;rw[Int.zero_add]at hi;rw[hi];simp only[go_sem,aP (show i<=4611686018427387904 by omega)];refine⟨fun ρ H=>∃(k m:Nat) (E:List Column),k<=l.length/\m<k/\ρ 0=.os F/\ρ 1=.fn g cap/\ρ 5=int m/\ρ 6=int k/\H F=some ⟨43,7,E.map aS⟩/\E.length=l.length/\E.take m=(l.take k).filter (fun v=> !p v)/\E.drop k=l.drop k/\∀q row,q≠F->H0 q=some row->H q=some row,fun ρ _=>l.length-aV (ρ 6),⟨i+1,i,l,ap,Nat.lt_succ_self _,by simp only[go_sem],by simp only[go_sem],(by simp only[go_sem]),(by simp only[go_sem]),hj,rfl,?_,rfl,fun _ _ _ h=>h⟩,?_⟩
   . rw[bQ hy,List.filter_append,List.filter_eq_self.2 (fun v hv=>by rw[ah v hv];rfl)]
     simp[al]
   rintro ρ H ⟨k,m,E,hk,au,h0,h1,J,T,R,hE,ht,hd,hs⟩;simp only[go_sem,h0,h1,J,T,R,Xaa];refine aB (fun Z=>?_) (fun ad=>?_)
   . have Z:k<l.length:=by simp at Z;omega
     obtain⟨v,hv⟩:=aN Z;have ao:E[k]?=some v:=by
       have h2:=congrArg (fun L=>L[0]?) hd;simp only[List.getElem?_drop,Nat.add_zero]at h2;rw[h2,hv]
     have b1:((0:Int)<=(k:Nat)/\((k:Nat):Int)<((E.length:Nat):Int)):=by omega
     have b2:((0:Int)<=(m:Nat)/\((m:Nat):Int)<((E.length:Nat):Int)):=by omega
     simp only[go_sem,h0,h1,J,T,R,Xaa,aE ao,b1,ab];refine⟨by omega,aM fun i7 h7=>?_⟩;have af:F≠i7:=aO R h7;simp only[go_sem,h0,h1,J,T];refine aJ (aA _ _ _) (by simp[dI]) ?_;generalize hG:aI (aI H i7 _) i7 _=HG;have R':HG F=some ⟨43,7,E.map aS⟩:=by rw[<-hG,aD _ _ _ _ af,aD _ _ _ _ af];exact R
     have R7:HG i7=some ⟨43,7,[aS v]⟩:=by rw[<-hG,aA];rfl
     have ac:∀q row,q≠F->H0 q=some row->HG q=some row:=fun q row hq h=>by
       have h2:=hs q row hq h;have:q≠i7:=fun e=>by rw[e,h7]at h2;cases h2
       rw[<-hG,aD _ _ _ _ this,aD _ _ _ _ this];exact h2
     clear hG h7 R hs;simp only[go_sem,h0,h1,J,T,R7,ab];refine cZ.use ⟨(.agg (aS v))::cap',.cons _ _ _ _ (.refl _) (hc HG ac),hg v (Xae hv),rfl⟩ ?_;simp only[go_sem,h0,h1,J,T];refine kG (fun O H'=>O 0=.os F/\O 1=.fn g cap/\O 6=int k/\∃(m':Nat) (E':List Column),m'<k+1/\O 5=int m'/\H' F=some ⟨43,7,E'.map aS⟩/\E'.length=l.length/\E'.take m'=(l.take (k+1)).filter (fun v=> !p v)/\E'.drop (k+1)=l.drop (k+1)/\∀q row,q≠F->H0 q=some row->H' q=some row) ?_ fun K' ae _ _=>aB (fun hb=>?_) (fun hb=>?_)
     rotate_left
     . have hp:p v=false:=by simpa using hb
       simp only[go_sem,h0,J,R7,R',Xaa,b2];refine aJ R' (by simp[dI];omega) ?_;simp only[go_sem,J,aP (show m<=4611686018427387904 by omega)];refine ae _ _ ⟨by simp only[go_sem,h0],by simp only[go_sem,h1],by simp only[go_sem,T],m+1,E.set m v,by omega,rfl,?_,by rw[Xbd,hE],?_,?_,fun q row hq h=>by rw[aD _ _ _ _ hq];exact ac q row hq h⟩
       . rw[aA,List.map_set]
         obtain⟨u,hu⟩:=aN (l:=E) (k:=m) (by omega);rw[aE hu];exact congrArg (fun x=>some (⟨43,7,(E.map aS).set m x⟩:Row)) (Iq u v)
       . rw[yD E (by omega),ht,bQ hv,List.filter_append]
         simp[hp]
       . rw[List.drop_set_of_lt (by omega),<-List.drop_drop,hd,List.drop_drop]
     . have hp:p v=true:=by simpa using hb
       simp only[go_sem];refine ae _ _ ⟨by simp only[go_sem,h0],by simp only[go_sem,h1],by simp only[go_sem,T],m,E,by omega,by simp only[go_sem,J],R',hE,?_,?_,ac⟩
       . rw[ht,bQ hv,List.filter_append]
         simp[hp]
       . rw[<-List.drop_drop,hd,List.drop_drop]
     rintro ρ H ⟨h0,h1,T,m',E',aj,J,R,ar,am,an,ak⟩;simp only[go_sem,T,aP (show k<=4611686018427387904 by omega)];exact⟨⟨k+1,m',E',Z,aj,h0,h1,J,rfl,R,ar,am,an,ak⟩,by simp only[aF];omega⟩
   . have ad:k=l.length:=by simp at ad;omega
     subst ad;rw[Xag]at ht;have av:m<=E.length:=by omega
     simp only[go_sem,h0,J,R,Xaa];refine⟨by omega,Ws akZ atK R (.inr ⟨_,rfl,rfl⟩) rfl ?_⟩;simp only[go_sem,h0,J,aA];refine⟨⟨by omega,by simp;omega⟩,.inr ⟨F,m,_,rfl,aA _ _ _,?_,fun I M=>?_⟩⟩
     . simp;omega
     have ag:I≠F:=fun e=>by rw[e,aA]at M;cases M
     rw[aD _ _ _ _ ag]at M;have ai:H0 I=none:=by
       cases e:H0 I with
       | none=>rfl
       | some row=>rw[hs I row ag e]at M;cases M
     refine hK I _ (fun q row hq h=>?_) (.inl ai) ?_
     . have aq:q≠I:=fun e=>by rw[e,ai]at h;cases h
       rw[aD _ _ _ _ aq,aD _ _ _ _ hq,aD _ _ _ _ hq];exact hs q row hq h
     . rw[aA]
       refine congrArg (fun L=>some (⟨43,7,L⟩:Row)) ?_;rw[List.take_append_of_le_length (by simp;omega),List.take_append_of_le_length (by simp;omega),Xan (by simp;omega),<-List.map_take,ht]
 exact aX.cutO aa
end Go.Proofs.YtohmomanmikphaaGreatDoor.Sq
end
section
namespace Go.Proofs.YtohmomanmikphaaGreatDoor.Nu
open Go.Aw Go.Aw.D Go.Proofs Ty Go.Nu Go.So Go.Sb
structure ColsOk(cols:List Column)(rates:List ByteArray):Prop where
 set:∀c∈cols,0<=c.set/\c.set<=9223372036854775807
 cl:cols.length<=1048576
 rl:rates.length<=1048576
 rs:∀s∈rates,s.size<=1048576
end Go.Proofs.YtohmomanmikphaaGreatDoor.Nu
end
section
namespace Go.Proofs.YtohmomanmikphaaGreatDoor.Nu
open Go.Proofs.Tryz(prog)
open Go.Aw Go.Aw.D Go.Proofs Ty Go.Nu Go.So Go.Sb
theorem QV{l:List Int}{d:Int}(h:wL l d=true):1<=(l.length:Int)/\(l.length:Int)<=3/\(l.length:Int)=d/\∀n∈l,0<=n/\n<=1000:=by
 unfold wL at h;split at h
 . cases h
 . next h1=>
   simp only[Xbl,not_or,Bool.not_eq_true,Xbv,bne_eq_false_iff_eq]at h1;have e:=jT.1 h1.1;exact⟨e.1,e.2,h1.2,fun n u=>jT.1 (Xao.1 h n u)⟩
theorem Su{l:List Int}{d:Int}(h:eU l d=true):(l.length:Int)=d/\∀n∈l,0<=n/\n<=1000:=by
 unfold eU at h;split at h
 . next h1=>
   refine⟨h1,fun n u=>?_⟩;have:=Xao.1 h n u;simp at this;omega
 . cases h
theorem ND{x:Instance}(h:Acc x):LoadsOk x (jU x.types).toNat/\x.types≠[]:=by
 have u:x.types≠[]:=by
   intro h0;have:=h.types;rw[h0]at this;simp at this
 obtain⟨t,r,E⟩:=List.exists_cons_of_ne_nil u;have J:jU x.types=t.cap.length:=by rw[E];rfl
 have I:=QV (h.type t (by rw[E];exact List.mem_cons_self)).cap;have e:((jU x.types).toNat:Int)=jU x.types:=by omega
 refine⟨⟨by omega,by have:=h.orders;omega,by have:=h.types;omega,fun o F=>?_,fun t E=>?_⟩,u⟩
 . have:=Su (h.order o F).load
   exact⟨by omega,this.2⟩
 . have:=QV (h.type t E).cap
   exact⟨by omega,this.2.2.2⟩
theorem Yj(c:Cut)(E:Nat)(h:0<=c.set)(u:c.set<9223372036854775808)(F:E<2^63):PC prog 159 [.agg (dX c),int E] (int (CQ c.kind (c.set.toNat &&& E))):=by
 obtain⟨k,s,n⟩:=c;obtain⟨m,rfl⟩:=Int.eq_ofNat_of_zero_le h;have u:(m:Int)<9223372036854775808:=u;exact afF k n m E (by omega) F
end Go.Proofs.YtohmomanmikphaaGreatDoor.Nu
end
section
namespace Go.Proofs.YtohmomanmikphaaGreatDoor.Nu
open Go.Aw Go.Aw.D Go.Proofs Ty Go.Nu
open Dec (mW dO eQ dE tU jV)
def amN(x:Instance):List Nat:=(List.range x.orders.length).filter (CO (fun _=>true) x.orders)
def yU(x:Instance):List Int:=(amN x).map fun i:Nat=>(i:Int)
def abY(x:Instance)(k:Nat):List Int:=((List.range k).filter (CO (fun _=>true) x.orders)).map fun i:Nat=>(i:Int)
theorem Th(x:Instance)(k:Nat):(abY x k).length<=k:=by
 unfold abY;rw[Xaa];exact Xaj (Xbt _ _) (by rw[Xas];exact Xaf _)
theorem JK(x:Instance):(yU x).length<=x.orders.length:=Th x _
theorem EW{p q:Nat->Bool}{n:Nat}(h1:∀i,i<n->p i=q i)(u:∀i,n<=i->p i=false):∀m,(List.range (n+m)).filter p=(List.range n).filter q
 | 0=>List.filter_congr fun i E=>h1 i (Xaz.1 E)
 | m+1=>by
   rw[<-Xbo,Xbk,List.filter_append,EW h1 u m];simp[u (n+m) (by omega)]
theorem Pp(x:Instance)(h:x.orders.length<=62):fR (YM x:Nat)=yU x:=by
 unfold fR qF yU amN
 congr 1
 obtain⟨m,hm⟩:∃m,63=x.orders.length+m:=⟨63-x.orders.length,by omega⟩;have F:∀i,(YM x).testBit i=(decide (i<x.orders.length)&&CO (fun _=>true) x.orders i):=fun i=>EP _ _ _
 have u:∀i:Nat,dH ((YM x:Nat):Int) (i:Int)=(decide (i<x.orders.length)&&CO (fun _=>true) x.orders i):=by
   intro i;by_cases E:i<=62
   . rw[sH E,F]
   . unfold dH
     rw[decide_eq_false (show ¬((i:Int)<=62)by omega),decide_eq_false (show ¬i<x.orders.length by omega)];simp
 rw[hm];refine EW (fun i E=>?_) (fun i E=>?_) m
 . rw[u,decide_eq_true E,Xbj]
 . rw[u,decide_eq_false (by omega),Bool.false_and]
def Fr(b:Bool):Int:=if b=true then 1 else 0
def CT(d:Decision):Bool:=d.kind == 3||d.kind == 4
theorem My(l:List Decision)(k:Nat):((l.take k).filter CT).length<=k:=Xaj (Xbt _ _) (by rw[Xal];omega)
theorem Kv{α:Type}{p:α->Bool}{l:List α}{k:Nat}{a:α}(h:l[k]?=some a):(l.take (k+1)).filter p=(l.take k).filter p++(if p a=true then[a]else[]):=by
 rw[bQ h,List.filter_append];by_cases u:p a=true
 . simp[u]
 . simp[u]
abbrev wA(l:List Int):Row:=⟨3,1,l.map bN⟩
def QE(x:Instance)(cuts:List Cut)(ds:List Decision):Nat:=(yU x).length+x.types.length+cuts.length+(ds.filter CT).length
structure MIn(x:Instance)(cuts:List Cut)(ds:List Decision):Prop where
 orders:x.orders.length<=62
 types:x.types.length<=1048576
 cl:cuts.length<=1048576
 dl:ds.length<=1048576
def vI(x:Instance)(c:Column):List Int:=(yU x).map fun i=>Fr (dH c.set i)
def pQ(x:Instance)(c:Column)(k:Nat):List Int:=(List.range k).map fun t:Nat=>Fr (c.type == (t:Int))
def vF(c:Column)(cuts:List Cut):List Int:=cuts.map fun q=>CQ q.kind (q.set.toNat &&& c.set.toNat)
def vD(c:Column)(ds:List Decision):List Int:=(ds.filter CT).map fun d=>Fr (c.type == d.a)
def tZ(x:Instance)(c:Column)(cuts:List Cut)(ds:List Decision):List Int:=vI x c++pQ x c x.types.length++vF c cuts++vD c ds
structure ColB(c:Column):Prop where
 set:0<=c.set/\c.set<=9223372036854775807
structure CutsB(cuts:List Cut):Prop where
 set:∀q∈cuts,0<=q.set/\q.set<=9223372036854775807
end Go.Proofs.YtohmomanmikphaaGreatDoor.Nu
end
section
namespace Go.Proofs.YtohmomanmikphaaGreatDoor.Nu
open Go.Proofs.Tryz(prog)
open Go.Aw Go.Aw.D Go.Proofs Ty Go.Nu
open Dec (mW dO eQ dE tU jV)
theorem adY(d:Decision):PC prog 160 [.agg (aW d)] (boo (CT d)):=by
 refine pcd Tryz.func160 ?_;unfold Tryz.f160;simp only[gdS];simp only[go_sem];exact .refl _
theorem VO(b:Bool):PC prog 158 [boo b] (int (Fr b)):=by
 refine pcd Tryz.func158 ?_;unfold Tryz.f158;simp only[gdS];simp only[go_sem];refine aB (fun u=>?_) (fun u=>?_)
 . simp only[go_sem]
   subst u;exact .refl _
 . simp only[go_sem]
   subst u;exact .refl _
theorem YB(x:Instance)(c:Column)(cuts:List Cut)(ds:List Decision)(h:MIn x cuts ds)(hc:ColB c)(hq:CutsB cuts):
   PC prog 96 [.agg (aH x),.agg (aS c),.sl (cuts.map dX),.sl (ds.map aW)] (.sl ((tZ x c cuts ds).map bN)):=by
 have h1:=h.orders;have h2:=h.types;have h3:=h.cl;have h4:=h.dl;have a4:=JK x;obtain⟨sn,av⟩:=Int.eq_ofNat_of_zero_le hc.set.1;have au:sn<2^63:=by have:=hc.set.2;omega
 refine pcb (fun t=>t == 9) Tryz.func96 ?_;unfold Tryz.f96;simp only[gdS];simp only[go_sem];refine aM fun j a0=>?_
 generalize aw:aI _ j _=HGj;have R:HGj j=some (wA []):=by rw[<-aw,aA];try rfl
 clear aw a0;simp only[go_sem,R];refine PC.use (abP x h1) ?_;simp only[go_sem];refine PC.use (lR _) ?_;rw[Pp x h1];simp only[go_sem];refine⟨fun ρ H=>∃(k:Nat) (j:Nat),k<=(yU x).length/\ρ 2=.sl (cuts.map dX)/\ρ 3=.sl (ds.map aW)/\ρ 4=.rp (aH x) 0/\ρ 5=.rp (aS c) 0/\ρ 19=.sl ((yU x).map bN)/\ρ 20=int ((yU x).length:Nat)/\ρ 21=int k/\ρ 9=.os j/\H j=some (wA (((yU x).take k).map fun i=>Fr (dH c.set i))),fun ρ _=>(yU x).length-aV (ρ 21),⟨0,j,Xac _,by simp only[go_sem],by simp only[go_sem],by simp only[go_sem],by simp only[go_sem],by simp only[go_sem],by simp only[go_sem,Xaa],(by simp only[go_sem];rfl),by simp only[go_sem],R⟩,?_⟩;rintro ρ H ⟨k,j,hk,e2,J,e4,u,ai,ah,ag,F,R⟩;simp only[go_sem,e2,J,e4,u,ai,ah,ag,F];refine aB (fun E=>?_) (fun I=>?_)
 . have E:=ltB (by simpa using E)
   obtain⟨i,hi⟩:=aN E;have b1:=inB E;simp only[go_sem,e2,J,e4,u,ai,ah,ag,F,aE hi,b1];refine PC.use (tK _ i) ?_;simp only[go_sem,e2,J,e4,u,ai,ah,ag,F];refine PC.use (VO _) ?_;simp only[go_sem,e2,J,e4,u,ai,ah,ag,F];refine bE R ⟨rfl,rfl⟩ ⟨rfl,trivial⟩ (by simp only[Xaa,Xal,Xad,List.length_nil];omega) (fun j' ar=>?_);simp only[go_sem,e2,J,e4,u,ai,ah,ag,F,aP (show k<=4611686018427387904 by omega)];refine⟨⟨k+1,j',E,rfl,rfl,?_⟩,by simp only[aF];omega⟩;rw[bQ hi,Xam];exact oA rfl
 have I:=geB hk (by simpa using I);subst I;rw[Xag]at R
 change H j=some (wA (vI x c))at R
 simp only[go_sem,e2,J,e4,u,ai,ah,ag,F,Xaa];refine⟨fun ρ H=>∃(k:Nat) (j:Nat),k<=x.types.length/\ρ 2=.sl (cuts.map dX)/\ρ 3=.sl (ds.map aW)/\ρ 5=.rp (aS c) 0/\ρ 36=int (x.types.length:Nat)/\ρ 37=int k/\ρ 9=.os j/\H j=some (wA (vI x c++pQ x c k)),fun ρ _=>x.types.length-aV (ρ 37),⟨0,j,Xac _,by simp only[go_sem,e2,J,u],by simp only[go_sem,e2,J,u],by simp only[go_sem,e2,J,u],by simp only[go_sem,Xaa,e2,J,u],(by simp only[go_sem,e2,J,u];rfl),by simp only[go_sem,F],by simpa[pQ]using R⟩,?_⟩;rintro ρ H ⟨k,j,hk,e2,J,u,al,ak,F,R⟩;simp only[go_sem,e2,J,u,al,ak,F];refine aB (fun E=>?_) (fun I=>?_)
 . have E:=ltB (by simpa using E)
   have ap:(vI x c++pQ x c k).length<=62+k:=by unfold vI pQ;simp only[Xab,Xaa,Xas];omega
   simp only[go_sem,e2,J,u,al,ak,F];refine PC.use (VO _) ?_;simp only[go_sem,e2,J,u,al,ak,F];refine bE R ⟨rfl,rfl⟩ ⟨rfl,trivial⟩ (by simp only[Xaa,Xad,List.length_nil];omega) (fun j' ar=>?_);simp only[go_sem,e2,J,u,al,ak,F,aP (show k<=4611686018427387904 by omega)];refine⟨⟨k+1,j',E,rfl,rfl,?_⟩,by simp only[aF];omega⟩;have:pQ x c (k+1)=pQ x c k++[Fr (c.type == (k:Int))]:=by unfold pQ;rw[Xbk,Xam];rfl
   rw[this,<-Xai];exact oA rfl
 have I:=geB hk (by simpa using I);subst I;simp only[go_sem,e2,J,u,al,ak,F,Xaa];refine⟨fun ρ H=>∃(k:Nat) (j:Nat),k<=cuts.length/\ρ 3=.sl (ds.map aW)/\ρ 5=.rp (aS c) 0/\ρ 49=.sl (cuts.map dX)/\ρ 50=int (cuts.length:Nat)/\ρ 51=int k/\ρ 9=.os j/\H j=some (wA (vI x c++pQ x c x.types.length++vF c (cuts.take k))),fun ρ _=>cuts.length-aV (ρ 51),⟨0,j,Xac _,by simp only[go_sem,J,u],by simp only[go_sem,J,u],by simp only[go_sem,J,u],by simp only[go_sem,Xaa,J,u],(by simp only[go_sem,J,u];rfl),by simp only[go_sem,F],by simpa[vF]using R⟩,?_⟩;rintro ρ H ⟨k,j,hk,J,u,ab,ae,af,F,R⟩;simp only[go_sem,J,u,ab,ae,af,F];refine aB (fun E=>?_) (fun I=>?_)
 . have E:=ltB (by simpa using E)
   obtain⟨q,aq⟩:=aN E;have b1:=inB E;have ay:=hq.set q (Xae aq);have ap:(vI x c++pQ x c x.types.length++vF c (cuts.take k)).length<=62+1048576+1048576:=by unfold vI pQ vF;simp only[Xab,Xaa,Xas,Xal];omega
   simp only[go_sem,J,u,ab,ae,af,F,aE aq,b1];refine aM fun an aj=>?_
   have Z:j≠an:=aO R aj;simp only[go_sem,J,u,ab,ae,af,F,R];refine aJ (aA _ _ _) (by simp[uR]) ?_;generalize ac:aI (aI _ an _) an _=HGi14;replace R:=(congrFun ac.symm j).trans ((aD _ _ _ _ Z).trans ((aD _ _ _ _ Z).trans R));have az:HGi14 an=some (⟨115,3,[dX q]⟩):=by rw[<-ac,aA];try rfl
   clear ac aj;simp only[go_sem,J,u,ab,ae,af,F,az,R];rw[av];refine PC.use (Yj q sn ay.1 (by omega) au) ?_;simp only[go_sem,J,u,ab,ae,af,F];refine bE R ⟨rfl,rfl⟩ ⟨rfl,trivial⟩ (by simp only[Xaa,Xad,List.length_nil];omega) (fun j' ar=>?_);simp only[go_sem,J,u,ab,ae,af,F,aP (show k<=4611686018427387904 by omega)];refine⟨⟨k+1,j',E,rfl,rfl,?_⟩,by simp only[aF];omega⟩;have:vF c (cuts.take (k+1))=vF c (cuts.take k)++[CQ q.kind (q.set.toNat &&& sn)]:=by unfold vF;rw[bQ aq,Xam,av];rfl
   rw[this,<-Xai];exact oA rfl
 have I:=geB hk (by simpa using I);subst I;rw[Xag]at R;simp only[go_sem,J,u,ab,ae,af,F,Xaa];refine⟨fun ρ H=>∃(k:Nat) (j:Nat),k<=ds.length/\ρ 5=.rp (aS c) 0/\ρ 63=.sl (ds.map aW)/\ρ 64=int (ds.length:Nat)/\ρ 65=int k/\ρ 9=.os j/\H j=some (wA (vI x c++pQ x c x.types.length++vF c cuts++vD c (ds.take k))),fun ρ _=>ds.length-aV (ρ 65),⟨0,j,Xac _,by simp only[go_sem,u],by simp only[go_sem,u],by simp only[go_sem,Xaa,u],(by simp only[go_sem,u];rfl),by simp only[go_sem,F],by simpa[vD]using R⟩,?_⟩;rintro ρ H ⟨k,j,hk,u,T,M,O,F,R⟩;simp only[go_sem,u,T,M,O,F];refine aB (fun E=>?_) (fun I=>?_)
 . have E:=ltB (by simpa using E)
   obtain⟨d,hd⟩:=aN E;have b1:=inB E;have hs:=Kv (p:=CT) hd;have ap:(vI x c++pQ x c x.types.length++vF c cuts++vD c (ds.take k)).length<=62+1048576+1048576+1048576:=by
     have:=My ds k;unfold vI pQ vF vD;simp only[Xab,Xaa,Xas];omega
   simp only[go_sem,u,T,M,O,F,aE hd,b1];refine aM fun ao am=>?_
   have aa:j≠ao:=aO R am;simp only[go_sem,u,T,M,O,F,R];refine aJ (aA _ _ _) (by simp[jK]) ?_;generalize ad:aI (aI _ ao _) ao _=HGi16;replace R:=(congrFun ad.symm j).trans ((aD _ _ _ _ aa).trans ((aD _ _ _ _ aa).trans R));have ax:HGi16 ao=some (⟨95,4,[aW d]⟩):=by rw[<-ad,aA];try rfl
   clear ad am;simp only[go_sem,u,T,M,O,F,ax,R];refine PC.use (adY d) ?_;simp only[go_sem,u,T,M,O,F];refine aB (fun hb=>?_) (fun hb=>?_)
   . rw[if_pos hb]at hs
     have:vD c (ds.take (k+1))=vD c (ds.take k)++[Fr (c.type == d.a)]:=by
       unfold vD;rw[hs,Xam,Xar,Xbc]
     simp only[go_sem,u,T,M,O,F,ax];refine PC.use (VO _) ?_;simp only[go_sem,u,T,M,O,F];refine bE R ⟨rfl,rfl⟩ ⟨rfl,trivial⟩ (by simp only[Xaa,Xad,List.length_nil];omega) (fun j' ar=>?_);simp only[go_sem,u,T,M,O,F,aP (show k<=4611686018427387904 by omega)];refine⟨⟨k+1,j',E,rfl,rfl,?_⟩,by simp only[aF];omega⟩;rw[this,<-Xai];exact oA rfl
   . rw[if_neg (by rw[hb];simp),Xah]at hs
     simp only[go_sem,u,T,M,O,F,aP (show k<=4611686018427387904 by omega)];refine⟨⟨k+1,j,E,rfl,rfl,?_⟩,by simp only[aF];omega⟩;have:vD c (ds.take (k+1))=vD c (ds.take k):=by unfold vD;rw[hs]
     rw[this];exact R
 have I:=geB hk (by simpa using I);subst I;rw[Xag]at R;simp only[go_sem,u,T,M,O,F];exact .row _ _ _ R (ConvE.refl _)
def dL(x:Instance)(c:Column)(cuts:List Cut)(ds:List Decision)(dual:List ByteArray):ByteArray×Int:=
 if dual.length≠(tZ x c cuts ds).length then(emp,2)else if(pL (tZ x c cuts ds) dual).2≠0 then(emp,(pL (tZ x c cuts ds) dual).2)else Ev (zed c.price) (pL (tZ x c cuts ds) dual).1
theorem Pl{n:Int}(h0: -9223372036854775808<=n)(h1:n<=9223372036854775807):(zed n).size<=8194:=by
 have:=Go.Nu.gH (m:=n) (Pc (k:=20) (by omega) (by omega));omega
theorem In(b:Bool):Fr b=0\/Fr b=1:=by cases b <;> simp[Fr]
theorem UH(k:Int)(n:Nat):CQ k n=0\/CQ k n=1:=by unfold CQ;split <;> simp
theorem RN{x:Instance}{c:Column}{cuts:List Cut}{ds:List Decision}{n:Int}(h:n∈tZ x c cuts ds):n=0\/n=1:=by
 unfold tZ vI pQ vF vD at h;simp only[Xba,List.mem_map]at h;rcases h with((⟨i,_,rfl⟩|⟨i,_,rfl⟩)|⟨i,_,rfl⟩)|⟨i,_,rfl⟩
 . exact In _
 . exact In _
 . exact UH _ _
 . exact In _
theorem OE(x:Instance)(c:Column)(cuts:List Cut)(ds:List Decision)(dual:List ByteArray)(h:MIn x cuts ds)(hc:ColB c)(Z:CutsB cuts)(F: -9223372036854775808<=c.price/\c.price<=9223372036854775807)(O:dual.length<=1048576)(hs:∀s∈dual,s.size<=1048576):
   PC prog 58 [.agg (aH x),.agg (aS c),.sl (cuts.map dX),.sl (ds.map aW),.sl (dual.map Go.Aw.D.fJ)] (.tup [str (dL x c cuts ds dual).1,int (dL x c cuts ds dual).2]):=by
 refine pcd Tryz.func58 ?_;unfold Tryz.f58;simp only[gdS];simp only[go_sem];refine PC.use (YB x c cuts ds h hc Z) ?_;have J:∀n∈tZ x c cuts ds,-9223372036854775808<=n/\n<=9223372036854775807:=fun n hn=>by rcases RN hn with e|e <;> omega
 unfold dL;generalize tZ x c cuts ds=L at *;simp only[go_sem,Xaa];refine aB (fun u=>?_) (fun u=>?_)
 . rw[if_pos (by simp at u;omega)]
   simp only[go_sem];exact .refl _
 rw[if_neg (by simp at u;omega)];simp only[go_sem];refine PC.use (Vq L dual J O hs) ?_;have I:=Mn (ns:=L) (xs:=dual);generalize pL L dual=T at *;obtain⟨t,e⟩:=T;simp only[go_sem];refine aB (fun u=>?_) (fun u=>?_)
 . have E:e≠0:=by simpa using u
   rw[if_pos E];simp only[go_sem];exact .refl _
 have E:e=0:=by simpa using u
 rw[if_neg (by simpa using E)];have M:=qS (I E);simp only[go_sem];refine PC.use (Am c.price F.1 F.2) ?_;simp only[go_sem];have hz:=Pl F.1 F.2;refine PC.use (wV (zed c.price) t (by omega) (by simp only at M;omega)) ?_;simp only[go_sem];exact .refl _
end Go.Proofs.YtohmomanmikphaaGreatDoor.Nu
end
