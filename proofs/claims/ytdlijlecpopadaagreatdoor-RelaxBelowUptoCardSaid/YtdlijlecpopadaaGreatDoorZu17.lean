import Derived.Test.YtdlijlecpopadaaGreatDoorZu16
set_option linter.unusedSimpArgs false
set_option linter.unusedVariables false
set_option maxRecDepth 100000
section
namespace Go.Proofs.YtdlijlecpopadaaGreatDoor.Rx
open Go.Proofs.Tryz(prog)
open Go.Aw Go.Aw.D Go.Proofs Ty Go.Nu Go.So
open Sq (W eM dD gL NetOk)
open Nu (ltB geB)
open Mv (bZ cQ NC.pc aT)
theorem X6(a b:List Int)(ha:a.length<=1048576):PC prog 13 [.sl (a.map aR),.sl (b.map aR)] (boo (decide (a=b))):=by
 refine pcd Tryz.func13 ?_;unfold Tryz.f13;simp only[gdS];simp only[go_sem];refine aB (fun X=>?_) (fun X=>?_)
 . have J:¬a=b:=fun e=>by subst e;simp at X
   rw[decide_eq_false J];simp only[go_sem];exact .refl _
 have hl:a.length=b.length:=by simp at X;omega
 simp only[go_sem];refine⟨fun ρ H=>∃(k:Nat),k<=a.length/\ρ 0=.sl (a.map aR)/\ρ 1=.sl (b.map aR)/\ρ 12=int (a.length:Nat)/\ρ 13=int k/\a.take k=b.take k,fun ρ _=>a.length-aX (ρ 13),⟨0,Xab _,by simp only[go_sem],by simp only[go_sem],by simp only[go_sem,Xaa],(by simp only[go_sem];rfl),rfl⟩,?_⟩;rintro ρ H ⟨k,hk,e0,Z,I,F,hz⟩;simp only[go_sem,e0,Z,I,F];refine aB (fun E=>?_) (fun O=>?_)
 . have E:=ltB (by simpa using E)
   obtain⟨u,hu⟩:=aQ E;obtain⟨v,Y⟩:=aQ (l:=b) (k:=k) (by omega);have b1:=inB E;have b2:=inB (show k<b.length by omega);simp only[go_sem,e0,Z,I,F];refine lO [(0,true),(1,true),(2,true),(3,true),(4,true),(5,true),(6,true),(7,true),(8,true)] (by kernel_rfl) ?_;simp only[go_sem,e0,Z,I,F,aH hu,aH Y,b1,b2];refine aB (fun X=>?_) (fun X=>?_)
   . have J:¬a=b:=fun e=>by subst e;rw[hu]at Y;injection Y with Y;subst Y;simp at X
     rw[decide_eq_false J];simp only[go_sem];exact .refl _
   . have aa:u=v:=by simpa using X
     simp only[go_sem,e0,Z,I,F,aS (show k<=4611686018427387904 by omega)];exact⟨⟨k+1,E,rfl,by rw[bX hu,bX Y,hz,aa]⟩,by simp only[aG];omega⟩
 have O:=geB hk (by simpa using O);subst O;rw[Xaf,hl,Xaf]at hz;rw[decide_eq_true hz];simp only[go_sem];exact .refl _
def HI(x:Instance)(size:Int):List Int×Int:=if(decide (size<1)||decide (size>10))=true then([],2)else(akQ x size.toNat,0)
theorem Lo(x:Instance)(size:Int)(I:x.orders.length<=19)(F:x.net.arcs.length<=1048576):PC prog 11 [.agg (aL x),int size] (.tup [.sl ((HI x size).1.map aR),int (HI x size).2]):=by
 unfold HI;by_cases h:(decide (size<1)||decide (size>10))=true
 . rw[if_pos h]
   refine pcd Tryz.func11 ?_;unfold Tryz.f11;simp only[gdS];simp only[go_sem];refine aB (fun E=>?_) (fun E=>?_)
   . simp only[go_sem]
     exact .refl _
   . exact Bool.noConfusion (E.symm.trans h)
 . rw[if_neg h]
   simp at h;obtain⟨n,rfl⟩:∃n:Nat,size=(n:Nat):=⟨size.toNat,by omega⟩;rw[Xan];exact amL x n (by omega) (by omega) I F
def smA(i k:Nat):Arc:=⟨i,k,0,10,[⟨0,10⟩],[]⟩
def GQ(i n:Nat):List Arc:=((List.range n).filter fun k=>i != k).map (smA i)
def uV(n:Nat):List Arc:=(List.range n).flatMap fun i=>GQ i 3
def smT:VType:=⟨⟨#[118]⟩,1,0,0,[1],0,0,0,40,100,0,0,1,0⟩
def smO(s:ByteArray)(i:Nat):Order:=⟨s,[1],⟨-1,0,0,0⟩,⟨(i:Int)+1,0,90,0⟩,0,5,1,-1,-1,false⟩
def wZ:List ByteArray:=[⟨#[111]⟩,⟨#[112]⟩]
def Es(n:Nat):List Order:=(List.range n).map fun i=>smO (wZ.getD i ByteArray.empty) i
def smP:List ByteArray:=[⟨#[72,117,98]⟩,⟨#[65]⟩,⟨#[66]⟩]
def smX:Instance:=⟨⟨smP,uV 3⟩,[smT],Es 2,[],[]⟩
structure SmH(H:aJ)(i0 j1 ja jo jp jb:Nat)(ty:AV)(arcs:List Arc)(os:List Order):Prop where
 r0:∃cs,H i0=some ⟨30,6,[cs]⟩
 ne:i0≠j1
 r1:H j1=some ⟨30,6,[[.sl (smP.map Go.Aw.D.fK),.os ja,ty,.os jo,.os jp,.os jb]]⟩
 ra:H ja=some ⟨139,6,arcs.map gF⟩
 ro:H jo=some ⟨143,16,os.map bF⟩
 rp:H jp=some ⟨192,2,[]⟩
 rb:H jb=some ⟨192,2,[]⟩
abbrev Tu(ja:Nat)(ty:AV)(jo jp jb:Nat):Row:=⟨30,6,[[.sl (smP.map Go.Aw.D.fK),.os ja,ty,.os jo,.os jp,.os jb]]⟩
theorem SmH.app{H:aJ}{i0 j1 ja jo jp jb:Nat}{ty:AV}{arcs:List Arc}{os:List Order}(h:SmH H i0 j1 ja jo jp jb ty arcs os){F:Nat}(E:H F=none)(c:Arc):
   SmH (aI (aI (aI H ja none) F (some ⟨139,6,(arcs++[c]).map gF⟩)) j1 (some (Tu F ty jo jp jb))) i0 j1 F jo jp jb ty (arcs++[c]) os:=by
 obtain⟨⟨cs,r0⟩,ne,r1,ra,ro,rp,rb⟩:=h;have n0:=aO r0 E;have Y:=aO r1 E;have no:=aO ro E;have np:=aO rp E;have nb:=aO rb E;have a0:=eV ra r0 rfl;have I:=eV ra ro rfl;have ap:=eV ra rp rfl;have J:=eV ra rb rfl;have O:=eV ro r1 rfl;have Z:=eV rp r1 rfl;have X:=eV rb r1 rfl;exact⟨⟨cs,by rw[aD _ _ _ _ ne,aD _ _ _ _ n0,aD _ _ _ _ a0.symm];exact r0⟩,ne,aA _ _ _,by rw[aD _ _ _ _ Y.symm,aA],
   by rw[aD _ _ _ _ O,aD _ _ _ _ no,aD _ _ _ _ I.symm];exact ro,by rw[aD _ _ _ _ Z,aD _ _ _ _ np,aD _ _ _ _ ap.symm];exact rp,by rw[aD _ _ _ _ X,aD _ _ _ _ nb,aD _ _ _ _ J.symm];exact rb⟩
theorem SmH.appO{H:aJ}{i0 j1 ja jo jp jb:Nat}{ty:AV}{arcs:List Arc}{os:List Order}(h:SmH H i0 j1 ja jo jp jb ty arcs os){F:Nat}(E:H F=none)(c:Order):
   SmH (aI (aI (aI H jo none) F (some ⟨143,16,(os++[c]).map bF⟩)) j1 (some (Tu ja ty F jp jb))) i0 j1 ja F jp jb ty arcs (os++[c]):=by
 obtain⟨⟨cs,r0⟩,ne,r1,ra,ro,rp,rb⟩:=h;have n0:=aO r0 E;have X:=aO r1 E;have na:=aO ra E;have np:=aO rp E;have nb:=aO rb E;have a0:=eV ro r0 rfl;have I:=eV ro ra rfl;have Z:=eV ro rp rfl;have J:=eV ro rb rfl;have a1:=eV ra r1 rfl;have Y:=eV rp r1 rfl;have O:=eV rb r1 rfl;exact⟨⟨cs,by rw[aD _ _ _ _ ne,aD _ _ _ _ n0,aD _ _ _ _ a0.symm];exact r0⟩,ne,aA _ _ _,by rw[aD _ _ _ _ a1,aD _ _ _ _ na,aD _ _ _ _ I.symm];exact ra,
   by rw[aD _ _ _ _ X.symm,aA],by rw[aD _ _ _ _ Y,aD _ _ _ _ np,aD _ _ _ _ Z.symm];exact rp,by rw[aD _ _ _ _ O,aD _ _ _ _ nb,aD _ _ _ _ J.symm];exact rb⟩
theorem SmH.types{H:aJ}{i0 j1 ja jo jp jb:Nat}{ty:AV}{arcs:List Arc}{os:List Order}(h:SmH H i0 j1 ja jo jp jb ty arcs os)(E:AV):SmH (aI H j1 (some (Tu ja E jo jp jb))) i0 j1 ja jo jp jb E arcs os:=by
 obtain⟨⟨cs,r0⟩,ne,r1,ra,ro,rp,rb⟩:=h;exact⟨⟨cs,by rw[aD _ _ _ _ ne];exact r0⟩,ne,aA _ _ _,by rw[aD _ _ _ _ (eV ra r1 rfl)];exact ra,by rw[aD _ _ _ _ (eV ro r1 rfl)];exact ro,by rw[aD _ _ _ _ (eV rp r1 rfl)];exact rp,by rw[aD _ _ _ _ (eV rb r1 rfl)];exact rb⟩
theorem UB(k:Nat):Es (k+1)=Es k++[smO (wZ.getD k ByteArray.empty) k]:=by
 unfold Es;rw[Xbx,Xat];rfl
theorem aaF(k:Nat):(Es k).length=k:=by unfold Es;rw[Xaa,Xbf]
theorem Wn(i k:Nat):GQ i (k+1)=if(i != k)=true then GQ i k++[smA i k]else GQ i k:=by
 unfold GQ;rw[Xbx,List.filter_append,Xat];simp only[List.filter];cases(i != k)with
 | true=>rfl
 | false=>simp
theorem Gi(i:Nat):uV (i+1)=uV i++GQ i 3:=by
 unfold uV;rw[Xbx,List.flatMap_append];simp
theorem OS(i k:Nat):(GQ i k).length<=k:=by
 unfold GQ;rw[Xaa];exact Xah (Xcu _ _) (by rw[Xbf];exact Xag k)
theorem I5:∀i,(uV i).length<=3*i
 | 0=>Xag 0
 | i+1=>by
   rw[Gi,Xae];have:=I5 i;have:=OS i 3;omega
theorem Zq:PC prog 35 [] (.agg (aL smX)):=by
 refine pcb (fun t=>t == 7||t == 8) Tryz.func35 ?_;unfold Tryz.f35;simp only[gdS];simp only[go_sem];refine aN fun i0 a7=>?_
 have E:aI bS i0 (some (⟨30,6,[[.sl [],.sl [],.sl [],.sl [],.sl [],.sl []]]⟩:Row)) i0=some ⟨30,6,[[.sl [],.sl [],.sl [],.sl [],.sl [],.sl []]]⟩:=aA _ _ _;generalize aI bS i0 _=H0 at E |-;simp only[go_sem];refine aN fun a1 ay=>?_
 have E:=cK ay (some (⟨9,1,[]⟩:Row)) _ _ E;have F:aI H0 a1 (some (⟨9,1,[]⟩:Row)) a1=some ⟨9,1,[]⟩:=aA _ _ _;generalize aI H0 a1 _=H1 at E F |-;refine aN fun a2 au=>?_
 have E:=cK au (some (⟨139,6,[]⟩:Row)) _ _ E;have F:=cK au (some (⟨139,6,[]⟩:Row)) _ _ F;have I:aI H1 a2 (some (⟨139,6,[]⟩:Row)) a2=some ⟨139,6,[]⟩:=aA _ _ _;generalize aI H1 a2 _=H2 at E F I |-;refine aN fun b1 aq=>?_
 have E:=cK aq (some (⟨9,1,[]⟩:Row)) _ _ E;have F:=cK aq (some (⟨9,1,[]⟩:Row)) _ _ F;have I:=cK aq (some (⟨9,1,[]⟩:Row)) _ _ I;have J:aI H2 b1 (some (⟨9,1,[]⟩:Row)) b1=some ⟨9,1,[]⟩:=aA _ _ _;generalize aI H2 b1 _=H3 at E F I J |-;refine aN fun b2 ak=>?_
 have E:=cK ak (some (⟨139,6,[]⟩:Row)) _ _ E;have F:=cK ak (some (⟨139,6,[]⟩:Row)) _ _ F;have I:=cK ak (some (⟨139,6,[]⟩:Row)) _ _ I;have J:=cK ak (some (⟨139,6,[]⟩:Row)) _ _ J;have O:aI H3 b2 (some (⟨139,6,[]⟩:Row)) b2=some ⟨139,6,[]⟩:=aA _ _ _;generalize aI H3 b2 _=H4 at E F I J O |-;refine aN fun jt ai=>?_
 have E:=cK ai (some (⟨87,14,[]⟩:Row)) _ _ E;have F:=cK ai (some (⟨87,14,[]⟩:Row)) _ _ F;have I:=cK ai (some (⟨87,14,[]⟩:Row)) _ _ I;have J:=cK ai (some (⟨87,14,[]⟩:Row)) _ _ J;have O:=cK ai (some (⟨87,14,[]⟩:Row)) _ _ O;have X:aI H4 jt (some (⟨87,14,[]⟩:Row)) jt=some ⟨87,14,[]⟩:=aA _ _ _;generalize aI H4 jt _=H5 at E F I J O X |-;refine aN fun jo ag=>?_
 have E:=cK ag (some (⟨143,16,[]⟩:Row)) _ _ E;have F:=cK ag (some (⟨143,16,[]⟩:Row)) _ _ F;have I:=cK ag (some (⟨143,16,[]⟩:Row)) _ _ I;have J:=cK ag (some (⟨143,16,[]⟩:Row)) _ _ J;have O:=cK ag (some (⟨143,16,[]⟩:Row)) _ _ O;have X:=cK ag (some (⟨143,16,[]⟩:Row)) _ _ X;have Y:aI H5 jo (some (⟨143,16,[]⟩:Row)) jo=some ⟨143,16,[]⟩:=aA _ _ _;generalize aI H5 jo _=H6 at E F I J O X Y |-;refine aN fun jp ad=>?_
 have E:=cK ad (some (⟨192,2,[]⟩:Row)) _ _ E;have F:=cK ad (some (⟨192,2,[]⟩:Row)) _ _ F;have I:=cK ad (some (⟨192,2,[]⟩:Row)) _ _ I;have J:=cK ad (some (⟨192,2,[]⟩:Row)) _ _ J;have O:=cK ad (some (⟨192,2,[]⟩:Row)) _ _ O;have X:=cK ad (some (⟨192,2,[]⟩:Row)) _ _ X;have Y:=cK ad (some (⟨192,2,[]⟩:Row)) _ _ Y;have aa:aI H6 jp (some (⟨192,2,[]⟩:Row)) jp=some ⟨192,2,[]⟩:=aA _ _ _;generalize aI H6 jp _=H7 at E F I J O X Y aa |-;refine aN fun jb ab=>?_
 have E:=cK ab (some (⟨192,2,[]⟩:Row)) _ _ E;have F:=cK ab (some (⟨192,2,[]⟩:Row)) _ _ F;have I:=cK ab (some (⟨192,2,[]⟩:Row)) _ _ I;have J:=cK ab (some (⟨192,2,[]⟩:Row)) _ _ J;have O:=cK ab (some (⟨192,2,[]⟩:Row)) _ _ O;have X:=cK ab (some (⟨192,2,[]⟩:Row)) _ _ X;have Y:=cK ab (some (⟨192,2,[]⟩:Row)) _ _ Y;have aa:=cK ab (some (⟨192,2,[]⟩:Row)) _ _ aa;have ah:aI H7 jb (some (⟨192,2,[]⟩:Row)) jb=some ⟨192,2,[]⟩:=aA _ _ _;generalize aI H7 jb _=H8 at E F I J O X Y aa ah |-;refine aN fun j1 Z=>?_
 have ax:=aO E Z;have E:=cK Z (some (⟨30,6,[[.sl [],.sl [],.sl [],.sl [],.sl [],.sl []]]⟩:Row)) _ _ E;have F:=cK Z (some (⟨30,6,[[.sl [],.sl [],.sl [],.sl [],.sl [],.sl []]]⟩:Row)) _ _ F;have I:=cK Z (some (⟨30,6,[[.sl [],.sl [],.sl [],.sl [],.sl [],.sl []]]⟩:Row)) _ _ I;have J:=cK Z (some (⟨30,6,[[.sl [],.sl [],.sl [],.sl [],.sl [],.sl []]]⟩:Row)) _ _ J;have O:=cK Z (some (⟨30,6,[[.sl [],.sl [],.sl [],.sl [],.sl [],.sl []]]⟩:Row)) _ _ O;have X:=cK Z (some (⟨30,6,[[.sl [],.sl [],.sl [],.sl [],.sl [],.sl []]]⟩:Row)) _ _ X;have Y:=cK Z (some (⟨30,6,[[.sl [],.sl [],.sl [],.sl [],.sl [],.sl []]]⟩:Row)) _ _ Y;have aa:=cK Z (some (⟨30,6,[[.sl [],.sl [],.sl [],.sl [],.sl [],.sl []]]⟩:Row)) _ _ aa;have ah:=cK Z (some (⟨30,6,[[.sl [],.sl [],.sl [],.sl [],.sl [],.sl []]]⟩:Row)) _ _ ah;have af:aI H8 j1 (some (⟨30,6,[[.sl [],.sl [],.sl [],.sl [],.sl [],.sl []]]⟩:Row)) j1=some ⟨30,6,[[.sl [],.sl [],.sl [],.sl [],.sl [],.sl []]]⟩:=aA _ _ _;generalize aI H8 j1 _=H9 at E F I J O X Y aa ah af |-;simp only[go_sem];refine aM af (by simp) ?_;have S:SmH (aI H9 j1 (some (Tu a2 (.os jt) jo jp jb))) i0 j1 a2 jo jp jb (.os jt) (uV 0) (Es 0):=
   ⟨⟨_,by rw[aD _ _ _ _ ax];exact E⟩,ax,aA _ _ _,by rw[aD _ _ _ _ (eV I af rfl)];exact I,by rw[aD _ _ _ _ (eV Y af rfl)];exact Y,by rw[aD _ _ _ _ (eV aa af rfl)];exact aa,by rw[aD _ _ _ _ (eV ah af rfl)];exact ah⟩
 generalize hG:aI H9 j1 _=G;replace S:SmH G i0 j1 a2 jo jp jb (.os jt) (uV 0) (Es 0):=by rw[<-hG];exact S
 clear hG;simp only[go_sem];refine⟨fun ρ H=>∃(k:Nat) (ja:Nat),k<=3/\ρ 0=.op i0 0 0/\ρ 1=.op j1 0 0/\ρ 9=int k/\SmH H i0 j1 ja jo jp jb (.os jt) (uV k) (Es 0),fun ρ _=>3-aX (ρ 9),⟨0,a2,Xab _,by simp only[go_sem],by simp only[go_sem],(by simp only[go_sem];rfl),S⟩,?_⟩;rintro ρ H ⟨k,ja,hk,e0,e1,e9,S⟩;simp only[go_sem,e0,e1,e9];refine aB (fun ac=>?_) (fun ae=>?_)
 . have ac:k<3:=by have:=of_decide_eq_true ac;omega
   have a8:=I5 k;have a6:=Gi k;simp only[go_sem,e0,e1,e9];generalize a9:k=k0 at *;refine⟨fun ρ H=>∃(k:Nat) (ja:Nat),k<=3/\ρ 0=.op i0 0 0/\ρ 1=.op j1 0 0/\ρ 2=int (k0:Nat)/\ρ 9=int (k0:Nat)/\ρ 12=int k/\SmH H i0 j1 ja jo jp jb (.os jt) (uV k0++GQ k0 k) (Es 0),fun ρ _=>3-aX (ρ 12),⟨0,ja,Xab _,by simp only[go_sem,e0,e1,e9],by simp only[go_sem,e0,e1,e9],by simp only[go_sem,e0,e1,e9],by simp only[go_sem,e0,e1,e9],(by simp only[go_sem,e0,e1,e9];rfl),by rw[show uV k0++GQ k0 0=uV k0 from Xal _];exact S⟩,?_⟩;rintro ρ H ⟨k,ja,hk,e0,e1,e2,e9,aj,S⟩;simp only[go_sem,e0,e1,e2,e9,aj];refine aB (fun ac=>?_) (fun ae=>?_)
   . have av:k<3:=by have:=of_decide_eq_true ac;omega
     have ba:=OS k0 k;have ar:=Wn k0 k;simp only[go_sem,e0,e1,e2,e9,aj];have a5:(((k0:Nat):Int) != ((k:Nat):Int))=(k0 != k):=by rw[Xar];simp only[bne_iff_ne,ne_eq];omega
     rw[a5];refine aB (fun hb=>?_) (fun hb=>?_)
     . rw[if_pos hb]at ar
       simp only[go_sem,e0,e1,e2,e9,aj,S.r1];refine bG S.ra ⟨rfl,rfl⟩ (by simp only[go_sem]) (by simp only[Xaa,Xae,Xac,List.length_nil];omega) (fun j2 ao=>?_);have e:=S.app ao (smA k0 k);rw[Xat]at e;simp only[go_sem,e0,e1,e2,e9,aj];refine cE azO ((aD _ _ _ _ (aO S.r1 ao)).trans ((aD _ _ _ _ (eV S.ra S.r1 rfl).symm).trans S.r1)) (by simp) ?_;simp only[go_sem,e0,e1,e2,e9,aj,aS (show k<=4611686018427387904 by omega)];refine⟨⟨k+1,j2,av,rfl,?_⟩,by simp only[aG];omega⟩;rw[ar,<-Xav];exact e
     . rw[if_neg (fun h=>Bool.noConfusion (hb.symm.trans h))]at ar
       simp only[go_sem,e0,e1,e2,e9,aj,aS (show k<=4611686018427387904 by omega)];exact⟨⟨k+1,ja,av,rfl,by rw[ar];exact S⟩,by simp only[aG];omega⟩
   have ae:k=3:=by have:=of_decide_eq_false ae;omega
   subst ae;simp only[go_sem,e0,e1,e2,e9,aj,aS (show k0<=4611686018427387904 by omega)];exact⟨⟨k0+1,ja,ac,rfl,by rw[a6];exact S⟩,by simp only[aG];omega⟩
 have ae:k=3:=by have:=of_decide_eq_false ae;omega
 subst ae;simp only[go_sem,e0,e1,e9];refine cE avE S.r1 (by simp) ?_;have S2:=S.types (.sl [aY smT]);generalize hG:aI H j1 _=G2;replace S2:SmH G2 i0 j1 ja jo jp jb (.sl [aY smT]) (uV 3) (Es 0):=by rw[<-hG];exact S2
 clear hG S;simp only[go_sem,e0,e1,e9];have ap:AV.sl [[.v (.string ⟨#[111]⟩)],[.v (.string ⟨#[112]⟩)]]=.sl (wZ.map Go.Aw.D.fK):=rfl;refine⟨fun ρ H=>∃(k:Nat) (jo:Nat),k<=2/\ρ 0=.op i0 0 0/\ρ 1=.op j1 0 0/\ρ 36=.sl (wZ.map Go.Aw.D.fK)/\ρ 37=int (2:Nat)/\ρ 38=int k/\SmH H i0 j1 ja jo jp jb (.sl [aY smT]) (uV 3) (Es k),fun ρ _=>2-aX (ρ 38),⟨0,jo,Xab _,by simp only[go_sem,e0,e1,ap],by simp only[go_sem,e0,e1,ap],by simp only[go_sem,e0,e1,ap],by simp only[go_sem,Xaa,e0,e1,ap],(by simp only[go_sem,e0,e1,ap];rfl),S2⟩,?_⟩;rintro ρ H ⟨k,jo,hk,e0,e1,al,am,an,S⟩;simp only[go_sem,e0,e1,al,am,an];refine aB (fun ac=>?_) (fun ae=>?_)
 . have ac:k<2:=by have:=of_decide_eq_true ac;omega
   obtain⟨nm,hn⟩:=aQ (l:=wZ) (k:=k) ac;have b1:=inB (show k<wZ.length from ac);have aw:=UB k;have az:=aaF k;have a4:wZ.getD k ByteArray.empty=nm:=by rw[List.getD,hn];rfl
   rw[a4]at aw;simp only[go_sem,e0,e1,al,am,an,aH hn,b1,S.r1];rw[aS (show k<=4611686018427387904 by omega)];refine bG S.ro ⟨rfl,rfl⟩ (by simp only[go_sem]) (by simp only[Xaa,az,Xac,List.length_nil];omega) (fun j2 ao=>?_);have e:=S.appO ao (smO nm k);rw[Xat]at e;simp only[go_sem,e0,e1,al,am,an];refine cE avF ((aD _ _ _ _ (aO S.r1 ao)).trans ((aD _ _ _ _ (eV S.ro S.r1 rfl).symm).trans S.r1)) (by simp) ?_;simp only[go_sem,e0,e1,al,am,an,aS (show k<=4611686018427387904 by omega)];refine⟨⟨k+1,j2,ac,rfl,?_⟩,by simp only[aG];omega⟩;rw[aw];exact e
 have ae:k=2:=by have:=of_decide_eq_false ae;omega
 subst ae;obtain⟨cs,r0⟩:=S.r0;simp only[go_sem,e0,e1,al,am,an,S.r1];refine aM r0 (by simp) ?_;have n0:=S.ne;have a0:=eV S.ra r0 rfl;have o0:=eV S.ro r0 rfl;have p0:=eV S.rp r0 rfl;have c0:=eV S.rb r0 rfl;simp only[go_sem,e0,e1,al,am,an];refine .agg _ _ (.cons _ _ _ _ (.refl _) (.cons _ _ _ _ (.row _ _ _ ((aD _ _ _ _ a0).trans S.ra) (ConvE.refl _)) (.cons _ _ _ _ (.refl _) (.cons _ _ _ _ (.row _ _ _ ((aD _ _ _ _ o0).trans S.ro) (ConvE.refl _)) (.cons _ _ _ _ (.row _ _ _ ((aD _ _ _ _ p0).trans S.rp) (ConvE.refl _)) (.cons _ _ _ _ (.row _ _ _ ((aD _ _ _ _ c0).trans S.rb) (ConvE.refl _)) .nil))))))
theorem Px:XB 1 smX where
 net:=⟨by decide +kernel,by decide +kernel,by decide +kernel⟩
 dim:=by decide +kernel
 cap:=by decide +kernel
 D:=by decide
 n:=by decide
 types:=by decide
def smD:List ByteArray:=[⟨#[50,53,49,54,53,56,50,52,48]⟩,⟨#[54,55,49,48,56,56,54,52]⟩]
theorem Z6:HI smX 1=([1,2],0):=by decide +kernel
theorem ZM:HI smX 2=([3,3],0):=by decide +kernel
theorem XI:HI smX 0=([],2):=by decide +kernel
theorem Xo:uO smX 0 smD [1,2]=(⟨#[56,51,56,56,54,48,56,48]⟩,true,0):=by decide +kernel
theorem Vk:uO smX 0 [⟨#[49]⟩,⟨#[120]⟩] [1,2]=(emp,false,3):=by decide +kernel
theorem UR:Cx smX 0 [1,2]=(4,0):=by decide +kernel
theorem acO:rI [1,2] 1 1=2:=by decide +kernel
theorem afE:rI [3,3] 1 1=3:=by decide +kernel
theorem wJ:PC prog 10 [] (boo true):=by
 have I:=Lo smX 1 (by decide) (by decide);have Z:=Lo smX 2 (by decide) (by decide);have Y:=Lo smX 0 (by decide) (by decide);rw[Z6]at I;rw[ZM]at Z;rw[XI]at Y;have J:=Kk smX Px (by decide) 0 smD [1,2] (by decide) (by decide) (by decide);rw[Xo]at J;have aa:=Kk smX Px (by decide) 0 [⟨#[49]⟩,⟨#[120]⟩] [1,2] (by decide) (by decide) (by decide);rw[Vk]at aa;have hr:=aaO smX Px 0 [1,2] (by decide);rw[UR]at hr;have O:=Gf [1,2] 1 1 (by decide) ⟨by decide,by decide⟩ (by decide);rw[acO]at O;have X:=Gf [3,3] 1 1 (by decide) ⟨by decide,by decide⟩ (by decide);rw[afE]at X;refine pcd Tryz.func10 ?_;unfold Tryz.f10;simp only[gdS];simp only[go_sem];refine PC.use Zq ?_;simp only[go_sem];refine aN fun i1 ab=>?_
 simp only[go_sem];refine aM (aA _ _ _) (by simp[xR]) ?_;generalize F:aI (aI _ i1 _) i1 _=HGi1;have E:HGi1 i1=some ((⟨30,6,[aL smX]⟩:Row)):=by rw[<-F,aA];try rfl
 clear F ab;simp only[go_sem,E];have ad:=X6 [1,2] [1,2] (by decide);have ac:=X6 [3,3] [3,3] (by decide);refine PC.use I ?_;simp only[go_sem,E];refine PC.use Z ?_;simp only[go_sem,E];refine⟨_,fun _=>PC.q ad rfl,?_⟩;simp only[go_sem,E];refine⟨_,fun _=>PC.q ac rfl,?_⟩;simp only[go_sem,E];refine aB (fun hb=>nomatch hb) (fun _=>?_);simp only[go_sem,E];refine PC.use J ?_;simp only[go_sem,E];refine PC.use hr ?_;simp only[go_sem,E];refine PC.use aa ?_;simp only[go_sem,E];refine PC.use Y ?_;simp only[go_sem,E];refine⟨_,fun _=>PC.q O rfl,?_⟩;simp only[go_sem,E];refine⟨_,fun _=>PC.q X rfl,?_⟩;simp only[go_sem,E];exact .refl _
end Go.Proofs.YtdlijlecpopadaaGreatDoor.Rx
end
section
namespace Go.Proofs.YtdlijlecpopadaaGreatDoor
open Go.Aw Go.Aw.D Go.Proofs Ty
theorem fF{α:Type}{b:Bool}{f:α}(h:opt b f=[]):b=false:=by cases b <;> simp[opt]at h |-
theorem jL{n a b:Int}:inR n a b=true↔a<=n/\n<=b:=by
 unfold inR;simp only[Xam,decide_eq_true_eq]
theorem oD{b:Bool}(h:(!b)=false):b=true:=by simpa using h
structure TypeB(t:VType)(d:Int):Prop where
 cap:zJ t.cap d=true
 skills:0<=t.skills/\t.skills<=1073741823
 start:0<=t.start/\t.start<=t.close
 close:t.close<=4096
 drive:1<=t.drive/\t.drive<=4096
 rest:0<=t.rest/\t.rest<=4096
 count:0<=t.count/\t.count<=10
theorem ZZ{n:Network}{l:List VType}{k:Nat}{t:VType}(h:mF n l k t=[]):TypeB t (nH l):=by
 unfold mF at h;simp only[Xbd,Xaz]at h;obtain⟨⟨⟨⟨⟨⟨⟨⟨_,_⟩,h3⟩,_⟩,h5⟩,Z⟩,O⟩,X⟩,h9⟩:=h;have J:=jL.1 (oD (fF h3));have e5:=oD (fF h5);have e6:=jL.1 (oD (fF Z));have F:=Xai.1 (fF O);have E:=Xai.1 (fF X);have I:=jL.1 (oD F.1);have Y:¬t.close>4096:=by simpa using F.2
 exact⟨e5,e6,I,by omega,jL.1 (oD E.1),jL.1 (oD E.2),J⟩
structure OrdB(o:Order)(d:Int):Prop where
 load:eK o.load d=true
 pick: -1<=o.pick.place
 drop: -1<=o.drop.place
 both:(o.pick.place == -1&&o.drop.place == -1)=false
 wpick:fI o.pick=0
 wdrop:fI o.drop=0
 skills:0<=o.skills/\o.skills<=1073741823
 penalty: -1<=o.penalty/\o.penalty<=1000000
theorem aeY{P:Nat}{d T:Int}{l:List Order}{k:Nat}{o:Order}(h:jR P d T l k o=[]):OrdB o d:=by
 unfold jR at h;simp only[Xbd,Xaz]at h;obtain⟨⟨⟨⟨⟨⟨⟨_,_⟩,h3⟩,Y⟩,Z⟩,J⟩,O⟩,X⟩:=h;have F:=Xai.1 (fF Y);have E:=Xai.1 (fF J);have I:=fF X;simp only[Xai]at I;refine⟨oD (fF h3),(jL.1 (oD F.1)).1,(jL.1 (oD F.2)).1,fF Z,by simpa using E.1,by simpa using E.2,jL.1 (oD (fF O)),jL.1 (oD I.1.1.1.1.1.1)⟩
structure ArcOk(a:Arc):Prop where
 travel:jK a.travel=[]
 slow:a.slow.length<=16
 pt:∀p∈a.slow,(0<=p.t/\p.t<=4096)/\0<=p.a/\p.a<=4096
theorem aaZ{n:Network}{k:Nat}{a:Arc}(O:n.arcs[k]?=some a)(h:Er n k=[]):ArcOk a:=by
 unfold Er at h;rw[nW O]at h;simp only[Xbd,Xaz,Xbq]at h;obtain⟨⟨⟨_,J⟩,X⟩,F⟩:=h;have Y:¬(a.slow.length:Int)>16:=by simpa using fF X
 refine⟨J,by omega,fun p I=>?_⟩;obtain⟨i,hi,rfl⟩:=List.getElem_of_mem I;have:=Xcg.1 F i (Xap.2 hi);have E:=fF this;unfold oW at E;rw[dY (List.getElem?_eq_getElem hi)]at E;simp only[Xai]at E;exact⟨jL.1 (oD E.1.1),jL.1 (oD E.1.2)⟩
structure PairB(N:Int)(q:Pair):Prop where
 a:0<=q.a/\q.a<N
 b:0<=q.b/\q.b<N
 ne:q.a≠q.b
theorem MU{N:Int}{l:List Pair}{w:ByteArray}{s:Bool}(h:uS N l w s=[]):l.length<=16/\∀q∈l,PairB N q:=by
 unfold uS at h;rw[Xaz]at h;have J:¬(l.length:Int)>16:=by simpa using fF h.1
 refine⟨by omega,fun q F=>?_⟩;obtain⟨i,hi,rfl⟩:=List.getElem_of_mem F;have:=Xcg.1 h.2 i (Xap.2 hi);unfold gT at this;have I:pAt l i=l[i]:=by simp[pAt,List.getD,hi]
 rw[I]at this;split at this
 . simp at this
 . rename_i E
   unfold Go.Proofs.YtdlijlecpopadaaGreatDoor.Bo at E;simp only[Xai,decide_eq_false_iff_not]at E;exact⟨by omega,by omega,by simpa using E.2⟩
structure Acc(x:Instance):Prop where
 arcs:x.net.arcs.length<=1024
 arc:∀a∈x.net.arcs,ArcOk a
 types:1<=x.types.length/\x.types.length<=6
 type:∀t∈x.types,TypeB t (nH x.types)
 orders:x.orders.length<=10
 order:∀o∈x.orders,OrdB o (nH x.types)
 apart:x.apart.length<=16
 apartB:∀q∈x.apart,PairB x.orders.length q
 before:x.before.length<=16
 beforeB:∀q∈x.before,PairB x.orders.length q
theorem Y9{x:Instance}(h:kH x=[]):Acc x:=by
 unfold kH at h;simp only[Xaz,Xbq]at h;obtain⟨⟨⟨F,E⟩,I⟩,J⟩:=h;unfold Fe at F;simp only[Xaz]at F;unfold sU at E;rw[Xaz]at E;unfold oF at I;rw[Xaz]at I;unfold C7 at J;rw[Xaz]at J;obtain⟨r1,r2⟩:=MU J.1;obtain⟨Y,Z⟩:=MU J.2;have e1:¬(x.net.arcs.length:Int)>1024:=by simpa using fF F.1.2
 have e2:=jL.1 (oD (fF E.1));have e3:¬(x.orders.length:Int)>10:=by simpa using fF I.1
 refine⟨by omega,fun a ha=>?_,by omega,fun t O=>?_,by omega,fun o X=>?_,r1,r2,Y,Z⟩
 . obtain⟨i,hi,rfl⟩:=List.getElem_of_mem ha
   exact aaZ (List.getElem?_eq_getElem hi) (Xcg.1 F.2 i (Xap.2 hi))
 . obtain⟨i,hi,rfl⟩:=List.getElem_of_mem O
   have:=Xcg.1 E.2 i (Xap.2 hi);unfold iL at this;rw[Xbq,EU (List.getElem?_eq_getElem hi)]at this;exact ZZ this
 . obtain⟨i,hi,rfl⟩:=List.getElem_of_mem X
   have:=Xcg.1 I.2 i (Xap.2 hi);unfold fS at this;rw[Xbq,B9 (List.getElem?_eq_getElem hi)]at this;exact aeY this
theorem sH{l:List Int}{d:Int}(h:eK l d=true):(l.length:Int)=d/\∀n∈l,0<=n/\n<=1000:=by
 unfold eK at h;split at h
 . rename_i E
   refine⟨E,fun n F=>?_⟩;have:=Xao.1 h n F;simp only[Xbh,Xai,decide_eq_false_iff_not]at this;omega
 . cases h
theorem LT{l:List Int}{d:Int}(h:zJ l d=true):(l.length:Int)=d/\1<=d/\d<=3:=by
 unfold zJ at h;split at h
 . cases h
 . rename_i E
   simp only[Xch,Xai]at E;have h1:=jL.1 (oD E.1);have F:(l.length:Int)=d:=by simpa[bne]using E.2
   omega
end Go.Proofs.YtdlijlecpopadaaGreatDoor
end
section
namespace Go.Proofs.YtdlijlecpopadaaGreatDoor.Rx
open Go.Aw Go.Aw.D Go.Proofs Ty Go.Nu Go.So
open Sq (W eM dD gL NetOk)
theorem Za{x:Instance}{o:Nat}{d:Bool}(F:o<x.orders.length)(h:(Sq.qS (aF x o) ⟨(o:Nat),d⟩).place>=0):dD x ⟨(o:Nat),d⟩=(Sq.qS (aF x o) ⟨(o:Nat),d⟩,0):=by
 have I:dF ((o:Nat):Int) x.orders.length=false:=by unfold dF;simp;omega
 have E:Sq.fP x ⟨(o:Nat),d⟩=(Sq.qS (aF x o) ⟨(o:Nat),d⟩,decide ((Sq.qS (aF x o) ⟨(o:Nat),d⟩).place>=0)):=by
   unfold Sq.fP;rw[if_neg (by rw[I];simp)];show(match x.orders[(((o:Nat):Int)).toNat]? with|some o_1=>_|none=>_)=_;rw[Xan,eU F]
 unfold dD;rw[E];show(if decide ((Sq.qS (aF x o) ⟨(o:Nat),d⟩).place>=0)=true then _ else _)=_;rw[if_pos (decide_eq_true h)]
theorem BC{x:Instance}{o:Nat}(F:o<x.orders.length):eM x.orders (o:Nat)=Sq.iU (aF x o) (o:Nat):=by
 have E:dF ((o:Nat):Int) x.orders.length=false:=by unfold dF;simp;omega
 unfold eM;rw[if_neg (by rw[E];simp)];show(match x.orders[(((o:Nat):Int)).toNat]? with|some o_1=>_|none=>_)=_;rw[Xan,eU F]
structure MinOf(b:Int)(M:Arc->Prop)(l:List Arc)(r:Int):Prop where
 le:r<=b
 lb:∀c∈l,M c->r<=c.miles
 at':r=b\/∃c∈l,M c/\r=c.miles
theorem lX(s i:Nat):kS s i=s.testBit i:=by
 unfold kS;rw[Xdh,Xar];simp
theorem Ev{x s:Nat}(h:x.testBit s=false):x+2^s=x ||| 2^s:=by
 have J:x=2^(s+1)*(x/2^(s+1))+x%2^(s+1):=(Nat.div_add_mod x (2^(s+1))).symm;have O:x%2^(s+1)<2^s:=by
   have h1:x/2^s%2=0:=by
     rw[Xdh]at h;have:=of_decide_eq_false h;omega
   rw[Nat.mod_pow_succ,h1,Nat.mul_zero,Nat.add_zero];exact Nat.mod_lt x (Nat.two_pow_pos s)
 generalize x%2^(s+1)=b at *;generalize x/2^(s+1)=a at *;apply Xct;intro j;have X:2^s+b<2^(s+1):=by rw[Xbs];omega
 have F:b<2^(s+1):=by omega
 have I:x+2^s=2^(s+1)*a+(2^s+b):=by omega
 rw[I,Nat.testBit_two_pow_mul_add a X j,Nat.testBit_or,J,Nat.testBit_two_pow_mul_add a F j];by_cases E:j<s+1
 . rw[if_pos E,if_pos E]
   by_cases e:j=s
   . subst e
     rw[Nat.testBit_two_pow_add_eq,Xcx,Nat.testBit_lt_two_pow O];rfl
   . rw[Nat.testBit_two_pow_add_gt (by omega),Xcn (by omega),Bool.or_false]
 . rw[if_neg E,if_neg E,Xcn (by omega),Bool.or_false]
theorem JN(near:List Int)(m o:Nat):∀k b,(Cy near m o k).testBit b=(decide (b<k)&&(b == o||(kS m b&&kS (near.getD o 0).toNat b)))
 | 0,b=>by
   show(0:Nat).testBit b=_;simp
 | k+1,b=>by
   have ih:=JN near m o k;have F:=Gk near m o k;rw[FO];unfold iS;have I:(Cy near m o k).testBit k=false:=Nat.testBit_lt_two_pow F;by_cases E:(k == o||(kS m k&&kS (near.getD o 0).toNat k))=true
   . rw[if_pos E,Ev I,Nat.testBit_or,ih]
     by_cases e:b=k
     . subst e
       rw[Xcx,E];simp
     . rw[Xcn (fun h=>e h.symm),Bool.or_false]
       congr 1
       rw[Xar];simp;omega
   . rw[if_neg E,ih]
     by_cases e:b=k
     . subst e
       rw[Xch]at E;rw[E];simp
     . congr 1
       rw[Xar];simp;omega
theorem YG{near:List Int}{m o:Nat}(J:o<near.length)(F:m<2^near.length):rI near m o=Cy near m o near.length:=by
 unfold rI;apply Xct;intro b;rw[JN,Nat.testBit_or,Xcf,lX,lX];have I:(2^o).testBit b=(b == o):=by
   by_cases e:o=b
   . rw[e,Xcx];simp
   . rw[Xcn e,Xar];simp;omega
 rw[I];by_cases E:b<near.length
 . rw[decide_eq_true E,Xba,Bool.or_comm]
 . rw[decide_eq_false E,Xcd,Nat.testBit_lt_two_pow (Xcc F (Xay (by decide) (by omega))),Xcd,Xbu,Xbv]
   simp;omega
theorem Y6{x:Instance}(h:kH x=[]):∀c∈x.net.arcs,0<=c.miles/\c.miles<=10000:=by
 unfold kH at h;simp only[Xaz,Xbq]at h;obtain⟨⟨⟨F,_⟩,_⟩,_⟩:=h;unfold Fe at F;simp only[Xaz]at F;intro c J;obtain⟨i,hi,rfl⟩:=List.getElem_of_mem J;have E:=Xcg.1 F.2 i (Xap.2 hi);unfold Er at E;rw[nW (List.getElem?_eq_getElem hi)]at E;simp only[Xbd,Xaz]at E;have I:=fF E.1.1.1.1.2;unfold zI at I;simp only[Xai,decide_eq_false_iff_not]at I;omega
end Go.Proofs.YtdlijlecpopadaaGreatDoor.Rx
end
section
namespace Go.Proofs.YtdlijlecpopadaaGreatDoor.Rx
open Go.Aw Go.Aw.D Go.Proofs Ty Go.Nu Go.So
open Sq (W eM dD gL NetOk dH oQ)
open Nu (ltB geB)
open Mv (bZ cQ NC.pc aT)
structure Same(w a:Rs):Prop where
 ex:∃c f l,a={ w with count:=c,found:=f,least:=l }
 sz:a.least.size<=1048576
theorem Same.ok{w a:Rs}(h:Same w a)(E:RsOk w):RsOk a:=by
 obtain⟨c,f,l,rfl⟩:=h.ex;exact⟨E.net,E.near,E.len,E.dlen,E.dual⟩
structure RInv(n D:Nat)(p:RP):Prop where
 mem:p.memory<2^60
 board:p.board<2^n
 load:p.load.length=D
 moms:p.moms.length<=2^(p.visits+1)
 dual:p.dual.size<=8194
structure RsB(D:Nat)(w:Rs):Prop where
 ok:RsOk w
 dim:∀o,o<w.x.orders.length->(aF w.x o).load.length=D
 cap:w.t.cap.length=D
 D:D<=1048576
 n:w.x.orders.length<=60
 most:w.most<=16
def Z5(t:VType)(k:Nat):RP:=⟨t.src,0,0,eA t [⟨t.start,0⟩],0,0,List.replicate k 0,0,0,dec 0⟩
end Go.Proofs.YtdlijlecpopadaaGreatDoor.Rx
end
section
namespace Go.Proofs.YtdlijlecpopadaaGreatDoor.Rx
open Go.Aw Go.Aw.D Go.Proofs Ty Go.Nu Go.So
open Sq (W eM dD gL NetOk)
open Nu (ltB geB)
open Mv (bZ cQ NC.pc aT)
theorem HR{x:Instance}{near:List Int}(h:uM x near=true)(J:x.orders.length<=10):near.length=x.orders.length/\NearB near:=by
 unfold uM at h;rw[Xam,Xao]at h;have F:near.length=x.orders.length:=by have:=h.1;simp at this;omega
 refine⟨F,by omega,fun n I=>?_⟩;obtain⟨i,hi,rfl⟩:=List.getElem_of_mem I;have E:=h.2 i (Xap.2 hi);unfold rW at E;rw[List.getD,List.getElem?_eq_getElem hi]at E;simp only[Xcm,Xbh,Xai,decide_eq_false_iff_not]at E;have h1:((2^near.length:Nat):Int)<=((2^10:Nat):Int):=by
   have:=Xay (n:=2) (by omega) (show near.length<=10 by omega);omega
 have:=E.1;refine⟨by omega,?_⟩;have:((2^10:Nat):Int)=1024:=by decide
 omega
end Go.Proofs.YtdlijlecpopadaaGreatDoor.Rx
end
section
namespace Go.Proofs.YtdlijlecpopadaaGreatDoor.Rx
open Go.Aw Go.Aw.D Go.Proofs Ty Go.Nu Go.So
open Sq (W eM dD gL NetOk dH oQ)
open Nu (ltB geB uY)
open Mv (bZ cQ NC.pc aT)
structure XR(D:Nat)(x:Instance):Prop where
 net:Sq.NetB x.net
 dim:∀o,o<x.orders.length->(aF x o).load.length=D
 cap:∀k,k<x.types.length->(aC x k).cap.length=D
 D:D<=1048576
 n:x.orders.length<=8
def ajS(x:Instance)(kind:Int):Bool:=decide (kind<0)||decide (kind>=(x.types.length:Int))
end Go.Proofs.YtdlijlecpopadaaGreatDoor.Rx
end
section
namespace Go.Proofs.YtdlijlecpopadaaGreatDoor.Rx
open Go.Aw Go.Aw.D Go.Proofs Ty
open Sq
theorem qP{l:List Point}{i:Nat}(h:i<l.length):dW l i∈l:=by
 rw[dY (List.getElem?_eq_getElem h)];exact List.getElem_mem h
theorem MB{p:Point}{t:Int}(E:0<=p.t/\p.t<=4096/\p.t<=p.a/\p.a<=p.t+4096)(F:0<=t/\t<=12288):0<=xH p t/\xH p t<=100000000:=by
 unfold xH;rw[bP (n:=t+p.a) (by omega),bP (by omega)];omega
theorem aaD{p q:Point}{t:Int}(X:0<=p.t/\p.t<=4096/\p.t<=p.a/\p.a<=p.t+4096)(O:0<=q.t/\q.t<=4096/\q.t<=q.a/\q.a<=q.t+4096)(Z:p.a<=q.a)(h1:p.t<=t)(h2:t<q.t):0<=Et p q t/\Et p q t<=100000000:=by
 unfold Et;have J:0<=t-p.t/\t-p.t<=4096:=by omega
 have I:0<=q.a-p.a/\q.a-p.a<=8192:=by omega
 have F:0<=(t-p.t)*(q.a-p.a):=Int.mul_nonneg J.1 I.1;have E:(t-p.t)*(q.a-p.a)<=4096*8192:=Int.mul_le_mul J.2 I.2 I.1 (by omega);rw[bP (n:=t-p.t) (by omega),bP (n:=q.a-p.a) (by omega),bP (n:=(t-p.t)*(q.a-p.a)) (by omega),bP (n:=q.t-p.t) (by omega)];generalize (t-p.t)*(q.a-p.a)=m at F E;rw[bP (n:=m+q.t) (by omega),bP (n:=m+q.t-p.t) (by omega),bP (n:=m+q.t-p.t-1) (by omega),Xbp (by omega)];have Y:0<=(m+q.t-p.t-1)/(q.t-p.t):=Int.ediv_nonneg (by omega) (by omega);have d1:(m+q.t-p.t-1)/(q.t-p.t)<=m+q.t-p.t-1:=Int.ediv_le_self _ (by omega);have e:IntKind.i64.wrap ((m+q.t-p.t-1)/(q.t-p.t))=(m+q.t-p.t-1)/(q.t-p.t):=bP (by omega);rw[e,bP (by omega)];omega
theorem TG{l:List Point}{t:Int}(h:jK l=[])(I:0<=t/\t<=12288):0<=jT l t/\jT l t<=100000000:=by
 have E:=KS h;have O:=E.len;unfold jT;split
 . omega
 . split
   . rename_i k J
     have F:=List.find?_some J;have X:=Xap.1 (List.mem_of_find?_eq_some J);simp only[pD,Xam,decide_eq_true_eq]at F;have:=E.mono k (by omega);exact aaD (E.pt _ (qP (by omega))) (E.pt _ (qP (by omega))) this.2 F.1 F.2
   . split
     . exact MB (E.pt _ (qP (by omega))) I
     . exact MB (E.pt _ (qP (by omega))) I
theorem Pb{t:Int}:∀(l:List Point) (s B:Int),(∀p∈l,0<=p.a/\p.a<=4096)->0<=s/\s<=B->B+4096*l.length<=1000000000000->0<=l.foldl (oX t) s/\l.foldl (oX t) s<=B+4096*l.length
 | [],s,B,_,hs,_=>by simpa using hs
 | p::l,s,B,hp,hs,hB=>by
   have h1:=hp p (by simp);simp only[Xac,Xbg]at hB |-;have e:0<=oX t s p/\oX t s p<=B+4096:=by
     unfold oX;split
     . rw[bP (by omega)];omega
     . omega
   have:=Pb (t:=t) l (oX t s p) (B+4096) (fun q E=>hp q (by simp[E])) e (by omega);omega
theorem Ry{a:Arc}{t:Int}(h:ArcOk a)(E:0<=t/\t<=12288):0<=qQ a t/\qQ a t<=1000000000:=by
 have h1:=TG h.travel E;have I:=h.slow;have:=Pb (t:=t) a.slow _ 100000000 (fun p F=>(h.pt p F).2) h1 (by omega);unfold qQ;omega
theorem apQ{s c:Nat}(I:s<2^63)(Z:c<2^63):pX .andNot .i64 (s:Int) (c:Int)=0↔∀i,i<63->¬(s.testBit i=true/\c.testBit i=false):=by
 have h1:((s:Int)%((2^64:Nat):Int)).toNat=s:=by omega
 have O:((c:Int)%((2^64:Nat):Int)).toNat=c:=by omega
 have J:(BitVec.ofInt 64 (s:Int) &&& ~~~(BitVec.ofInt 64 (c:Int))).toNat<2^63:=by
   rw[BitVec.toNat_and,BitVec.toNat_ofInt,h1];exact Xbb Xcw I
 have e:pX .andNot .i64 (s:Int) (c:Int)=(((BitVec.ofInt 64 (s:Int) &&& ~~~(BitVec.ofInt 64 (c:Int))).toNat:Nat):Int):=by
   exact aW (n:=(((BitVec.ofInt 64 (s:Int) &&& ~~~(BitVec.ofInt 64 (c:Int))).toNat:Nat):Int)) (by omega)
 have E:∀i,i<64->(BitVec.ofInt 64 (s:Int) &&& ~~~(BitVec.ofInt 64 (c:Int))).toNat.testBit i=(s.testBit i&& !c.testBit i):=fun i hi=>by
   rw[BitVec.testBit_toNat,BitVec.getLsbD_and,BitVec.getLsbD_not];have a1:(BitVec.ofInt 64 (s:Int)).getLsbD i=s.testBit i:=by rw[<-BitVec.testBit_toNat,BitVec.toNat_ofInt,h1]
   have a2:(BitVec.ofInt 64 (c:Int)).getLsbD i=c.testBit i:=by rw[<-BitVec.testBit_toNat,BitVec.toNat_ofInt,O]
   rw[a1,a2,decide_eq_true hi];simp
 rw[e];constructor
 . intro h0 i hi F
   have h0:(BitVec.ofInt 64 (s:Int) &&& ~~~(BitVec.ofInt 64 (c:Int))).toNat=0:=by omega
   have:=E i (by omega);rw[h0,F.1,F.2]at this;simp at this
 . intro X
   have:(BitVec.ofInt 64 (s:Int) &&& ~~~(BitVec.ofInt 64 (c:Int))).toNat=0:=by
     refine Xct fun i=>?_
     rw[Nat.zero_testBit];by_cases hi:i<63
     . rw[E i (by omega)]
       have:=X i hi;cases h3:s.testBit i <;> cases Y:c.testBit i <;> simp_all
     . refine Nat.testBit_lt_two_pow (Xcc J (Xay (by decide) (by omega)))
   omega
theorem La{s i:Nat}(F:s<2^63):((IntKind.i64.wrap (Int.tdiv (s:Int) ((2^i:Nat):Int))).tmod 2 == 1)=s.testBit i:=by
 have e:Int.tdiv (s:Int) ((2^i:Nat):Int)=((s/2^i:Nat):Int):=by
   rw[Xbp (by omega)];norm_cast
 have E:s/2^i<=s:=Xde _ _;rw[e,Xdh];generalize s/2^i=q at E;rw[show IntKind.i64.wrap (q:Int)=(q:Int)from aW (by omega),Xda (by omega)];rw[Xar];simp only[Xas,decide_eq_true_eq];omega
theorem JK{s i:Nat}(F:s<2^63):((IntKind.i64.wrap (Int.tdiv (s:Int) ((2^i:Nat):Int))).tmod 2 == 0)= !s.testBit i:=by
 rw[<-La F];have e:Int.tdiv (s:Int) ((2^i:Nat):Int)=((s/2^i:Nat):Int):=by
   rw[Xbp (by omega)];norm_cast
 have E:s/2^i<=s:=Xde _ _;rw[e];generalize s/2^i=q at E;rw[show IntKind.i64.wrap (q:Int)=(q:Int)from aW (by omega),Xda (by omega)];rw[Xar];simp only[Xas,Xbh,beq_eq_false_iff_ne,ne_eq];omega
theorem At{c s:Int}(J:0<=c/\c<=1073741823)(I:0<=s/\s<=1073741823):mU c s=oQ c s:=by
 obtain⟨c,rfl⟩:=Int.eq_ofNat_of_zero_le J.1;obtain⟨s,rfl⟩:=Int.eq_ofNat_of_zero_le I.1;have F:c<2^63:=by omega
 have E:s<2^63:=by omega
 unfold mU oQ;rw[show decide ((c:Int)>=0)=true by simp,show decide ((s:Int)>=0)=true by simp,show decide ((c:Int)<0)=false by simp,show decide ((s:Int)<0)=false by simp];simp only[Xba,Bool.or_self,Xcr];rw[Xar,Xas,apQ E F,Xao];constructor
 . intro h i hi
   have:=h i (Xap.1 hi);unfold KB;rw[La E,JK F];cases h1:s.testBit i <;> cases O:c.testBit i <;> simp_all
 . intro h i hi
   have:=h i (Xap.2 hi);unfold KB at this;rw[La E,JK F]at this;cases h1:s.testBit i <;> cases O:c.testBit i <;> simp_all
theorem N1{s:Stop}(h:fI s=0)(I:0<=s.place):(0<=s.start/\s.start<=s.close)/\s.close<=4096/\0<=s.service/\s.service<=4096:=by
 unfold fI at h;split at h
 . rename_i F
   simp only[Go.Proofs.YtdlijlecpopadaaGreatDoor.kC,Xam,Xas]at F;omega
 . split at h
   . cases h
   . rename_i E
     simp only[Lc,Xbc,decide_eq_true_eq]at E;omega
theorem If{x:Instance}(h:Acc x):NetOk x.net:=⟨by have:=h.arcs;omega,fun a E=>(h.arc a E).travel,fun a E=>by have:=(h.arc a E).slow;omega⟩
theorem kT{x:Instance}{o:Nat}(h:o<x.orders.length):aF x o∈x.orders:=Xad (eU h)
theorem xD{x:Instance}{k:Nat}(h:k<x.types.length):aC x k∈x.types:=by
 unfold aC;rw[List.getD,List.getElem?_eq_getElem h];exact List.getElem_mem h
def rT(x:Instance):Nat:=(nH x.types).toNat
theorem Ai{x:Instance}(h:Acc x){k:Nat}(E:k<x.types.length):(aC x k).cap.length=rT x:=by
 have:=LT (h.type _ (xD E)).cap;unfold rT;omega
theorem sK{x:Instance}(h:Acc x){o:Nat}(E:o<x.orders.length):(aF x o).load.length=rT x:=by
 have h1:=(sH (h.order _ (kT E)).load).1;unfold rT;omega
theorem Tw{x:Instance}(h:Acc x):rT x<=3:=by
 have h1:=h.types;have:=LT (h.type _ (xD (show 0<x.types.length by omega))).cap;unfold rT;omega
theorem amC{x:Instance}(h:Acc x)(I:x.orders.length<=8):XB (rT x) x:=⟨If h,fun _ E=>sK h E,fun _ F=>Ai h F,by have:=Tw h;omega,I,by have:=h.types;omega⟩
theorem L6{n:Nat}{near:List Int}(E:near.length=n)(O:n<=8)(i:Nat)(hi:i<n):qE n near i=rW near i:=by
 unfold qE rW;by_cases h0:near.getD i 0<0
 . rw[decide_eq_true h0];simp
 rw[decide_eq_false h0,Xbu,Xbu];obtain⟨m,F⟩:=Int.eq_ofNat_of_zero_le (show 0<=near.getD i 0 by omega);rw[F,E,uT (by omega) (by omega),A1 (by omega),Xan,Xan,lX,Bool.or_comm]
 congr 1
 rw[Xar];have e:(m:Int)/2^n=((m/2^n:Nat):Int):=by norm_cast
 rw[e];simp only[bne_iff_ne,ne_eq,decide_eq_true_eq];have I:0<2^n:=Nat.two_pow_pos n;have J:m/2^n=0↔m<2^n:=by rw[Nat.div_eq_zero_iff];omega
 generalize 2^n=z at *;generalize m/z=y at *;omega
theorem Wb{x:Instance}(F:x.orders.length<=8)(kind:Int)(near:List Int):jM x kind near=(ajS x kind|| !uM x near):=by
 unfold jM ajS uM;by_cases E:near.length=x.orders.length
 . have e:((near.length:Int) != (x.orders.length:Int))=false:=by rw[E];simp
   rw[e,Bool.or_false,Xcr,Xba]
   congr 1
   rw[Xar];simp only[Xau,Xbh,List.all_eq_false];constructor
   . rintro⟨i,hi,h⟩
     rw[L6 E F i (by have:=Xap.1 hi;omega)]at h;exact⟨i,hi,by rw[h];simp⟩
   . rintro⟨i,hi,h⟩
     refine⟨i,hi,?_⟩;rw[L6 E F i (by have:=Xap.1 hi;omega)];simpa using h
 . have e:((near.length:Int) != (x.orders.length:Int))=true:=by simp;omega
   rw[e];simp
end Go.Proofs.YtdlijlecpopadaaGreatDoor.Rx
end
section
namespace Go.Proofs.YtdlijlecpopadaaGreatDoor.Rx
open Go.Aw Go.Aw.D Go.Proofs Ty
open Sq
theorem KY(n:Network)(p f g a b:Int):(dH n p f g a).2=(dH n p f g b).2:=by
 unfold dH;split
 . rfl
 . split
   . rfl
   . cases nP n p f g <;> rfl
theorem GA{n:Network}(I:∀a∈n.arcs,ArcOk a){p f g t:Int}(E:0<=t/\t<=12288)(h:(dH n p f g t).2.2=0):0<=(dH n p f g t).1/\(dH n p f g t).1<=1000000000:=by
 unfold dH at h |-;split
 . rename_i h1;rw[if_pos h1]at h;cases h
 . rename_i h1
   rw[if_neg h1]at h;split
   . simp only;omega
   . rename_i J
     rw[if_neg J]at h;cases e:nP n p f g with
     | none=>rw[e]at h;cases h
     | some a=>
       have F:a∈n.arcs:=by
         unfold nP at e;exact List.mem_of_find?_eq_some e
       exact Ry (I a F) E
def mil(n:Network)(t:VType)(place goal:Int):Int:=(dH n t.profile place goal 0).2.1
def CL(n:Network)(t:VType)(place goal:Int)(c:Clk):Option Clk:=
 if((dH n t.profile place goal c.ready).2.2 == 0&&decide (W (W (c.since+(dH n t.profile place goal c.ready).1)-c.ready)<=t.drive))=true
 then some ⟨(dH n t.profile place goal c.ready).1,W (W (c.since+(dH n t.profile place goal c.ready).1)-c.ready)⟩else none
def both(t:VType)(l:List Clk):List Clk:=l.flatMap fun c=>[c,oL t c]
theorem NB(n:Network)(t:VType)(place goal:Int)(s:List Clk×Int)(c:Clk)(E:s.1≠[]->s.2=mil n t place goal):
   (xT n t place goal s c).1=s.1++(CL n t place goal c).toList/\((xT n t place goal s c).1≠[]->(xT n t place goal s c).2=mil n t place goal):=by
 unfold xT CL;split
 . exact⟨rfl,fun _=>by show(dH n t.profile place goal c.ready).2.1=_;rw[KY n t.profile place goal c.ready 0];rfl⟩
 . exact⟨by simp,E⟩
theorem Fv(n:Network)(t:VType)(place goal:Int):∀(l:List Clk) (s:List Clk×Int),(s.1≠[]->s.2=mil n t place goal) ->
   (l.foldl (Ck n t place goal) s).1=s.1++(both t l).filterMap (CL n t place goal)/\((l.foldl (Ck n t place goal) s).1≠[]->(l.foldl (Ck n t place goal) s).2=mil n t place goal)
 | [],s,hs=>⟨by simp[both],hs⟩
 | c::l,s,hs=>by
   obtain⟨a1,a2⟩:=NB n t place goal s c hs;obtain⟨I,J⟩:=NB n t place goal (xT n t place goal s c) (oL t c) a2;obtain⟨F,E⟩:=Fv n t place goal l (Ck n t place goal s c) J;refine⟨?_,E⟩;rw[Xbg,F];show(xT n t place goal (xT n t place goal s c) (oL t c)).1++_=_;rw[I,a1];have e:both t (c::l)=c::oL t c::both t l:=rfl;rw[e,List.filterMap_cons,List.filterMap_cons];cases CL n t place goal c <;> cases CL n t place goal (oL t c) <;> simp
theorem kG(n:Network)(t:VType)(place goal:Int)(l:List Clk):(bI n t place goal l).1=(both t l).filterMap (CL n t place goal)/\((bI n t place goal l).1≠[]->(bI n t place goal l).2=mil n t place goal):=by
 have:=Fv n t place goal l ([],0) (fun h=>absurd rfl h);exact⟨by unfold bI;rw[this.1];rfl,this.2⟩
def Cv(n:Network)(t:VType)(place goal close:Int)(m:Mom):Option Mom:=
 if(((dH n t.profile place goal m.time).2.2 == 0&&decide ((dH n t.profile place goal m.time).1<=close))&&decide (W (W (m.driven+(dH n t.profile place goal m.time).1)-m.time)<=t.drive))=true
 then some ⟨(dH n t.profile place goal m.time).1,W (W (m.driven+(dH n t.profile place goal m.time).1)-m.time)⟩else none
theorem Md(n:Network)(t:VType)(place goal close:Int):∀(l:List Mom) (s:List Mom×Int),
   (l.foldl (Xz n t place goal close) s).1=s.1++l.filterMap (Cv n t place goal close)/\(l≠[]->(l.foldl (Xz n t place goal close) s).2=mil n t place goal)
 | [],s=>⟨by simp,fun h=>absurd rfl h⟩
 | m::l,s=>by
   obtain⟨I,F⟩:=Md n t place goal close l (Xz n t place goal close s m);refine⟨?_,fun _=>?_⟩
   . rw[Xbg,I,List.filterMap_cons]
     unfold Xz Cv;simp only;split <;> simp
   . rw[Xbg]
     by_cases E:l=[]
     . subst E
       show(dH n t.profile place goal m.time).2.1=_;rw[KY n t.profile place goal m.time 0];rfl
     . exact F E
theorem B1(n:Network)(t:VType)(place goal close:Int)(l:List Mom):(kQ n t place goal close l).1=l.filterMap (Cv n t place goal close)/\((kQ n t place goal close l).1≠[]->(kQ n t place goal close l).2=mil n t place goal):=by
 have:=Md n t place goal close l ([],0);have h1:(kQ n t place goal close l).1=l.filterMap (Cv n t place goal close):=by unfold kQ;rw[this.1];rfl
 refine⟨h1,fun h=>this.2 fun e=>?_⟩;rw[h1,e]at h;exact h rfl
def okC(s:Stop)(c:Clk):Prop:=gA c.ready s.start<=s.close
def Dv(s:Stop)(c:Clk):Clk:=⟨W (gA c.ready s.start+s.service),c.since⟩
theorem UQ{s:Stop}{c:Clk}(h:okC s c):gK s c.ready=(W (gA c.ready s.start+s.service),0):=by
 unfold gK okC at *;rw[if_neg (by omega)]
theorem U6{s:Stop}{c:Clk}(h:¬okC s c):(gK s c.ready).2=14:=by
 unfold gK okC at *;rw[if_pos (by omega)]
theorem nV{c d:Clk}:iN c d=true↔c.ready=d.ready/\c.since<=d.since:=by
 unfold iN;simp
theorem DR(s:Stop):∀(l:List Clk) (out P:List Clk),(∀e∈out,∃c∈P,okC s c/\e=Dv s c)->(∀c∈P,okC s c->∃e∈out,iN e (Dv s c)=true) ->
   (∀e∈l.foldl (AR s) out,∃c∈P++l,okC s c/\e=Dv s c)/\(∀c∈P++l,okC s c->∃e∈l.foldl (AR s) out,iN e (Dv s c)=true)
 | [],out,P,h1,h2=>by simpa using⟨h1,h2⟩
 | c::l,out,P,h1,h2=>by
   have Z:(∀e∈AR s out c,∃d∈P++[c],okC s d/\e=Dv s d)/\(∀d∈P++[c],okC s d->∃e∈AR s out c,iN e (Dv s d)=true):=by
     have sub:∀e∈out,∃d∈P++[c],okC s d/\e=Dv s d:=fun e I=>by
       obtain⟨d,E,h⟩:=h1 e I;exact⟨d,Xca _ E,h⟩
     by_cases O:okC s c
     . have X:=UQ O
       unfold AR;rw[X];simp only[bne_self_eq_false,Xbj,if_false];have hn:(⟨W (gA c.ready s.start+s.service),c.since⟩:Clk)=Dv s c:=rfl;rw[hn];split
       . rename_i hb
         obtain⟨e,I,J⟩:=Xau.1 hb;refine⟨sub,fun d E F=>?_⟩;rcases Xaq.1 E with E|E
         . exact h2 d E F
         . rw[Xak.1 E];exact⟨e,I,J⟩
       . refine⟨fun e I=>?_,fun d E F=>?_⟩
         . rcases Xaq.1 I with I|I
           . exact sub e (List.mem_filter.1 I).1
           . rw[Xak.1 I];exact⟨c,by simp,O,rfl⟩
         . rcases Xaq.1 E with E|E
           . obtain⟨e,I,J⟩:=h2 d E F
             by_cases Y:iN (Dv s c) e=true
             . refine⟨Dv s c,by simp,?_⟩
               have q1:=nV.1 Y;have q2:=nV.1 J;exact nV.2 ⟨q1.1.trans q2.1,by omega⟩
             . exact⟨e,Xca _ (List.mem_filter.2 ⟨I,by simp[Y]⟩),J⟩
           . rw[Xak.1 E]
             exact⟨Dv s c,by simp,nV.2 ⟨rfl,Xaj _⟩⟩
     . have X:=U6 O
       unfold AR;rw[X];simp only[show((14:Int) != 0)=true from rfl,if_true];refine⟨sub,fun d E F=>?_⟩;rcases Xaq.1 E with E|E
       . exact h2 d E F
       . rw[Xak.1 E]at F;exact absurd F O
   have:=DR s l (AR s out c) (P++[c]) Z.1 Z.2;rw[Xav]at this;exact this
theorem qL(s:Stop)(l:List Clk):(∀e∈eC s l,∃c∈l,okC s c/\e=Dv s c)/\(∀c∈l,okC s c->∃e∈eC s l,iN e (Dv s c)=true):=by
 have:=DR s l [] [] (by simp) (by simp);simpa[eC]using this
structure Cr(k:Nat)(cs:List Clk)(R:List Mom):Prop where
 sub:∀c∈cs,(⟨c.ready,c.since⟩:Mom)∈R
 dom:∀m∈R,∃c∈cs,c.ready=m.time/\c.since<=m.driven
 rng:∀m∈R,(0<=m.time/\m.time<=8192)/\ -(12288*(k:Int))<=m.driven/\m.driven<=4096
theorem nI{t:VType}{l:List Clk}{c:Clk}:c∈both t l↔∃d∈l,c=d\/c=oL t d:=by
 unfold both;simp[Xbo]
theorem xB{t:VType}{l:List Mom}{m:Mom}:m∈eA t l↔∃d∈l,m=d\/m=akV t d:=by
 unfold eA;simp[Xbo]
section
variable{n:Network}{t:VType}{place goal:Int}{k:Nat}{cs:List Clk}{R:List Mom}
theorem A5(I:0<=t.rest/\t.rest<=4096)(h:Cr k cs R){m:Mom}(F:m∈eA t R):(0<=m.time/\m.time<=12288)/\ -(12288*(k:Int))<=m.driven/\m.driven<=4096:=by
 obtain⟨d,E,rfl|rfl⟩:=xB.1 F
 . have:=h.rng _ E;omega
 . have:=h.rng d E
   show(0<=W (d.time+t.rest)/\W (d.time+t.rest)<=12288)/\ -(12288*(k:Int))<=0/\(0:Int)<=4096;rw[bP (by omega)];omega
theorem yP(h:Cr k cs R){c:Clk}(F:c∈both t cs):(⟨c.ready,c.since⟩:Mom)∈eA t R:=by
 obtain⟨d,E,rfl|rfl⟩:=nI.1 F
 . exact xB.2 ⟨_,h.sub c E,.inl rfl⟩
 . exact xB.2 ⟨_,h.sub d E,.inr rfl⟩
theorem M3(h:Cr k cs R){m:Mom}(J:m∈eA t R):∃c∈both t cs,c.ready=m.time/\c.since<=m.driven:=by
 obtain⟨d,F,rfl|rfl⟩:=xB.1 J
 . obtain⟨c,E,h1,I⟩:=h.dom m F
   exact⟨c,nI.2 ⟨c,E,.inl rfl⟩,h1,I⟩
 . obtain⟨c,E,h1,I⟩:=h.dom d F
   exact⟨oL t c,nI.2 ⟨c,E,.inr rfl⟩,by show W (c.ready+t.rest)=W (d.time+t.rest);rw[h1],Xaj _⟩
theorem Qw{close:Int}{m a:Mom}(h:Cv n t place goal close m=some a):
   (dH n t.profile place goal m.time).2.2=0/\a.time=(dH n t.profile place goal m.time).1/\a.time<=close/\a.driven=W (W (m.driven+a.time)-m.time)/\a.driven<=t.drive:=by
 unfold Cv at h;split at h
 . rename_i E
   simp only[Xam,Xas,decide_eq_true_eq]at E;injection h with h;subst h;exact⟨E.1.1,rfl,E.1.2,rfl,E.2⟩
 . cases h
theorem Ab{c a:Clk}(h:CL n t place goal c=some a):
   (dH n t.profile place goal c.ready).2.2=0/\a.ready=(dH n t.profile place goal c.ready).1/\a.since=W (W (c.since+a.ready)-c.ready)/\a.since<=t.drive:=by
 unfold CL at h;split at h
 . rename_i E
   simp only[Xam,Xas,decide_eq_true_eq]at E;injection h with h;subst h;exact⟨E.1,rfl,rfl,E.2⟩
 . cases h
theorem QJ(ha:∀a∈n.arcs,ArcOk a)(X:0<=t.rest/\t.rest<=4096)(hk:k<=16)(h:Cr k cs R){close:Int}{a:Mom}(E:a∈(eA t R).filterMap (Cv n t place goal close)):
   a.time<=close/\(0<=a.time/\a.time<=1000000000)/\(-(12288*((k+1:Nat):Int))<=a.driven/\a.driven<=t.drive)/\∃d∈(both t cs).filterMap (CL n t place goal),d.ready=a.time/\d.since<=a.driven:=by
 obtain⟨m,E,hf⟩:=List.mem_filterMap.1 E;obtain⟨h1,h2,h3,O,h5⟩:=Qw hf;have hr:=A5 X h E;have Z:=GA ha hr.1 h1;rw[<-h2]at Z;obtain⟨c,hc,Y,c2⟩:=M3 (t:=t) h E;have I:=A5 X h (yP h hc);simp only at I;have F:W (W (m.driven+a.time)-m.time)=m.driven+a.time-m.time:=by rw[bP (n:=m.driven+a.time) (by omega),bP (by omega)]
 have J:W (W (c.since+a.time)-c.ready)=c.since+a.time-c.ready:=by rw[bP (n:=c.since+a.time) (by omega),bP (by omega)]
 refine⟨h3,Z,⟨?_,h5⟩,⟨⟨a.time,W (W (c.since+a.time)-c.ready)⟩,List.mem_filterMap.2 ⟨c,hc,?_⟩,rfl,?_⟩⟩
 . rw[O,F];omega
 . unfold CL
   rw[Y,h1,<-h2];rw[Y]at J;rw[if_pos];simp only[Xbt,Xba,decide_eq_true_eq];rw[J];rw[O,F]at h5;omega
 . show W (W (c.since+a.time)-c.ready)<=a.driven
   rw[J,O,F];omega
theorem Xa(h:Cr k cs R){close:Int}{d:Clk}(I:d∈(both t cs).filterMap (CL n t place goal))(O:d.ready<=close):(⟨d.ready,d.since⟩:Mom)∈(eA t R).filterMap (Cv n t place goal close):=by
 obtain⟨c,E,F⟩:=List.mem_filterMap.1 I;obtain⟨h1,Y,X,J⟩:=Ab F;refine List.mem_filterMap.2 ⟨_,yP h E,?_⟩;unfold Cv;simp only;rw[<-Y,h1,<-X,if_pos];simp only[Xbt,Xba,Xam,decide_eq_true_eq];exact⟨O,J⟩
theorem J9{a b c:Int}:gA a b<=c↔a<=c/\b<=c:=by unfold gA;split <;> omega
theorem Un(a b:Int):a<=gA a b/\b<=gA a b:=by unfold gA;split <;> omega
theorem abM(ha:∀a∈n.arcs,ArcOk a)(ht:0<=t.rest/\t.rest<=4096)(ae:t.drive<=4096)(hk:k<=16)(h:Cr k cs R){s:Stop}(hs:(0<=s.start/\s.start<=s.close)/\s.close<=4096/\0<=s.service/\s.service<=4096):
   Cr (k+1) (eC s (bI n t place goal cs).1) (EX s (kQ n t place goal s.close (eA t R)).1)/\(eC s (bI n t place goal cs).1=[]↔(kQ n t place goal s.close (eA t R)).1=[]) /\
   ((kQ n t place goal s.close (eA t R)).1≠[]->(bI n t place goal cs).2=(kQ n t place goal s.close (eA t R)).2):=by
 obtain⟨d1,d2⟩:=kG n t place goal cs;obtain⟨a1,a2⟩:=B1 n t place goal s.close (eA t R);obtain⟨s1,s2⟩:=qL s (bI n t place goal cs).1;rw[d1]at s1 s2;have O:∀e∈eC s (bI n t place goal cs).1,∃a∈(kQ n t place goal s.close (eA t R)).1,(⟨e.ready,e.since⟩:Mom)=⟨W (gA a.time s.start+s.service),a.driven⟩:=fun e J=>by
   obtain⟨c,hc,ab,rfl⟩:=s1 e (by rw[<-d1];exact J);have ac:c.ready<=s.close:=(J9.1 ab).1;exact⟨⟨c.ready,c.since⟩,by rw[a1];exact Xa h hc ac,rfl⟩
 have F:∀a∈(kQ n t place goal s.close (eA t R)).1,((0<=a.time/\a.time<=s.close)/\(-(12288*((k+1:Nat):Int))<=a.driven/\a.driven<=t.drive))/\∃e∈eC s (bI n t place goal cs).1,e.ready=W (gA a.time s.start+s.service)/\e.since<=a.driven:=fun a I=>by
   rw[a1]at I;obtain⟨h1,h2,h3,d,hd,q1,q2⟩:=QJ ha ht hk h I;refine⟨⟨⟨h2.1,h1⟩,h3⟩,?_⟩;obtain⟨e,J,hb⟩:=s2 d hd (by unfold okC;rw[q1];exact J9.2 ⟨h1,hs.1.2⟩);have hb:=nV.1 hb;refine⟨e,by rw[d1];exact J,?_,?_⟩
   . rw[hb.1];show W (gA d.ready s.start+s.service)=_;rw[q1]
   . have:e.since<=d.since:=hb.2
     omega
 refine⟨⟨fun e J=>?_,fun m I=>?_,fun m I=>?_⟩,⟨fun J=>?_,fun J=>?_⟩,fun Z=>?_⟩
 . obtain⟨a,I,E⟩:=O e J
   rw[E];unfold EX;exact List.mem_map.2 ⟨a,I,rfl⟩
 . unfold EX at I
   obtain⟨a,X,rfl⟩:=List.mem_map.1 I;exact(F a X).2
 . unfold EX at I
   obtain⟨a,X,rfl⟩:=List.mem_map.1 I;obtain⟨⟨h1,h2⟩,_⟩:=F a X;have hi:=Un a.time s.start;have ad:gA a.time s.start<=4096:=J9.2 ⟨by omega,by omega⟩;show(0<=W (gA a.time s.start+s.service)/\W (gA a.time s.start+s.service)<=8192)/\ -(12288*((k+1:Nat):Int))<=a.driven/\a.driven<=4096;rw[bP (by omega)];omega
 . cases Y:(kQ n t place goal s.close (eA t R)).1 with
   | nil=>rfl
   | cons a l=>
     obtain⟨_,e,E,_⟩:=F a (by rw[Y];simp);rw[J]at E;cases E
 . cases Y:eC s (bI n t place goal cs).1 with
   | nil=>rfl
   | cons e l=>
     obtain⟨a,I,_⟩:=O e (by rw[Y];simp);rw[J]at I;cases I
 . rw[a2 Z,d2]
   intro aa;cases Y:(kQ n t place goal s.close (eA t R)).1 with
   | nil=>exact Z Y
   | cons a l=>
     obtain⟨_,e,E,_⟩:=F a (by rw[Y];simp);rw[aa]at E;cases E
theorem vD(close:Int):∀(l P:List Clk) (o:Int),(∀c∈P,0<=c.ready)->(∀c∈l,0<=c.ready) ->
   ((o= -1/\∀c∈P,¬c.ready<=close)\/((∃c∈P,c.ready=o/\o<=close)/\∀c∈P,c.ready<=close->o<=c.ready)) ->
   ((l.foldl (lL close) o= -1/\∀c∈P++l,¬c.ready<=close)\/((∃c∈P++l,c.ready=l.foldl (lL close) o/\l.foldl (lL close) o<=close)/\∀c∈P++l,c.ready<=close->l.foldl (lL close) o<=c.ready))
 | [],P,o,_,_,h=>by simpa using h
 | c::l,P,o,hP,hl,h=>by
   have hc:=hl c (by simp);have Z:((lL close o c= -1/\∀d∈P++[c],¬d.ready<=close)\/((∃d∈P++[c],d.ready=lL close o c/\lL close o c<=close)/\∀d∈P++[c],d.ready<=close->lL close o c<=d.ready)):=by
     unfold lL;split
     . rename_i I
       simp only[Xam,Xbc,decide_eq_true_eq]at I;right;refine⟨⟨c,by simp,rfl,I.1⟩,fun d E F=>?_⟩;rcases Xaq.1 E with E|E
       . rcases h with⟨h1,J⟩|⟨⟨e,O,h1,J⟩,Y⟩
         . exact absurd F (J d E)
         . have:=Y d E F
           have:=hP e O;omega
       . rw[Xak.1 E];exact Xaj _
     . rename_i I
       simp only[Xam,Xbc,decide_eq_true_eq]at I;rcases h with⟨h1,J⟩|⟨⟨e,O,h1,J⟩,Y⟩
       . left
         refine⟨h1,fun d E=>?_⟩;rcases Xaq.1 E with E|E
         . exact J d E
         . rw[Xak.1 E];intro X;exact I ⟨X,.inl (by omega)⟩
       . right
         refine⟨⟨e,Xca _ O,h1,J⟩,fun d E F=>?_⟩;rcases Xaq.1 E with E|E
         . exact Y d E F
         . rw[Xak.1 E]at F |-
           have:¬c.ready<o:=fun X=>I ⟨F,.inr X⟩
           omega
   have:=vD close l (P++[c]) (lL close o c) (fun d E=>by
     rcases Xaq.1 E with E|E
     . exact hP d E
     . rw[Xak.1 E];exact hc) (fun d E=>hl d (by simp[E])) Z
   rw[Xav]at this;exact this
theorem JM:∀(l:List Mom) (e:Int),(l.foldl (fun e m=>wF e m.time) e=e\/∃m∈l,m.time=l.foldl (fun e m=>wF e m.time) e)/\l.foldl (fun e m=>wF e m.time) e<=e/\∀m∈l,l.foldl (fun e m=>wF e m.time) e<=m.time
 | [],e=>⟨.inl rfl,Xaj _,by simp⟩
 | m::l,e=>by
   obtain⟨h1,J,I⟩:=JM l (wF e m.time);have hi:wF e m.time<=e/\wF e m.time<=m.time/\(wF e m.time=e\/wF e m.time=m.time):=by unfold wF;split <;> omega
   rw[Xbg];refine⟨?_,by omega,fun d E=>?_⟩
   . rcases h1 with h1|⟨d,E,h1⟩
     . rcases hi.2.2 with F|F
       . exact .inl (h1.trans F)
       . exact .inr ⟨m,by simp,by rw[h1,F]⟩
     . exact .inr ⟨d,by simp[E],h1⟩
   . rcases Xbi.1 E with rfl|E
     . omega
     . exact I d E
theorem Hw{l:List Mom}(h:l≠[]):(∃m∈l,m.time=afJ l)/\∀m∈l,afJ l<=m.time:=by
 cases l with
 | nil=>exact absurd rfl h
 | cons a l=>
   obtain⟨h1,F,E⟩:=JM (a::l) (akD (a::l));refine⟨?_,E⟩;rcases h1 with h1|h1
   . exact⟨a,by simp,h1.symm⟩
   . exact h1
theorem ajE(ha:∀a∈n.arcs,ArcOk a)(ht:0<=t.rest/\t.rest<=4096)(hk:k<=16)(h:Cr k cs R)(close:Int):
   ((bI n t place goal cs).1.foldl (lL close) (-1)>=0↔(kQ n t place goal close (eA t R)).1≠[]) /\
   ((kQ n t place goal close (eA t R)).1≠[]->(bI n t place goal cs).1.foldl (lL close) (-1)=afJ (kQ n t place goal close (eA t R)).1/\(bI n t place goal cs).2=(kQ n t place goal close (eA t R)).2):=by
 obtain⟨d1,d2⟩:=kG n t place goal cs;obtain⟨a1,a2⟩:=B1 n t place goal close (eA t R);have J:∀d∈(bI n t place goal cs).1,0<=d.ready:=fun d E=>by
   rw[d1]at E;obtain⟨c,F,hf⟩:=List.mem_filterMap.1 E;obtain⟨h1,h2,_⟩:=Ab hf;have Z:=A5 ht h (yP h F);simp only at Z;have:=GA ha Z.1 h1;rw[h2];exact this.1
 have I:∀d∈(bI n t place goal cs).1,d.ready<=close->(⟨d.ready,d.since⟩:Mom)∈(kQ n t place goal close (eA t R)).1:=fun d E F=>by
   rw[d1]at E;rw[a1];exact Xa h E F
 have O:∀a∈(kQ n t place goal close (eA t R)).1,a.time<=close/\∃d∈(bI n t place goal cs).1,d.ready=a.time:=fun a hm=>by
   rw[a1]at hm;obtain⟨h1,_,_,d,E,q1,_⟩:=QJ ha ht hk h hm;exact⟨h1,d,by rw[d1];exact E,q1⟩
 have hE:=vD close (bI n t place goal cs).1 [] (-1) (by simp) J (.inl ⟨rfl,by simp⟩);rw[Xbd]at hE;generalize hD:(bI n t place goal cs).1=D at *;generalize hA:(kQ n t place goal close (eA t R)).1=A at *;rcases hE with⟨e1,e2⟩|⟨⟨c,F,e1,e2⟩,e3⟩
 . have X : A = [] := by
     cases A with
     | nil=>rfl
     | cons a l=>
       obtain⟨q1,d,E,q2⟩:=O a (by simp);exact absurd (by omega) (e2 d E)
   refine⟨⟨fun h=>by rw[e1]at h;omega,fun h=>absurd X h⟩,fun h=>absurd X h⟩
 . have Y : A ≠ [] := fun e => by
     have:=I c F (by omega);rw[e]at this;cases this
   have aa:=J c F;refine⟨⟨fun _=>Y,fun _=>by omega⟩,fun _=>⟨?_,?_⟩⟩
   . obtain⟨⟨m,hm,m1⟩,m2⟩:=Hw Y
     have h1:=m2 _ (I c F (by omega));simp only at h1;obtain⟨q1,d,E,q2⟩:=O m hm;have h2:=e3 d E (by omega);omega
   . rw[a2 Y,d2 (fun e=>by rw[e]at F;cases F)]
end
end Go.Proofs.YtdlijlecpopadaaGreatDoor.Rx
end
section
namespace Go.Proofs.YtdlijlecpopadaaGreatDoor.Rx
open Go.Aw Go.Aw.D Go.Proofs Ty
open Sq
open Go.Nu (Bb)
structure Ctx(x:Instance)(k:Nat)(near:List Int):Prop where
 acc:Acc x
 kind:k<x.types.length
 n:x.orders.length<=8
 len:near.length=x.orders.length
 mil:∀c∈x.net.arcs,0<=c.miles/\c.miles<=10000
 money:(0<=(aC x k).fixed/\(aC x k).fixed<=100000)/\(0<=(aC x k).perMile/\(aC x k).perMile<=100)/\0<=(aC x k).perTick/\(aC x k).perTick<=100
 led:∀o∈x.orders,-1<=o.last/\ -1<=o.now
theorem aoD{x:Instance}(h:kH x=[]):∀o∈x.orders,-1<=o.last/\ -1<=o.now:=by
 unfold kH at h;simp only[Xaz,Xbq]at h;obtain⟨⟨⟨_,_⟩,E⟩,_⟩:=h;unfold oF at E;rw[Xaz]at E;intro o F;obtain⟨i,hi,rfl⟩:=List.getElem_of_mem F;have h:=Xcg.1 E.2 i (Xap.2 hi);unfold fS at h;rw[Xbq,B9 (List.getElem?_eq_getElem hi)]at h;unfold jR at h;simp only[Xbd,Xaz]at h;obtain⟨_,I⟩:=h;have J:=fF I;simp only[Xai,decide_eq_false_iff_not]at J;omega
theorem XL{x:Instance}(h:kH x=[]):∀t∈x.types,(0<=t.fixed/\t.fixed<=100000)/\(0<=t.perMile/\t.perMile<=100)/\0<=t.perTick/\t.perTick<=100:=by
 unfold kH at h;simp only[Xaz,Xbq]at h;obtain⟨⟨⟨_,I⟩,_⟩,_⟩:=h;unfold sU at I;rw[Xaz]at I;intro t F;obtain⟨i,hi,rfl⟩:=List.getElem_of_mem F;have h:=Xcg.1 I.2 i (Xap.2 hi);unfold iL at h;rw[Xbq,EU (List.getElem?_eq_getElem hi)]at h;unfold mF at h;simp only[Xbd,Xaz]at h;obtain⟨_,J⟩:=h;have E:=fF J;simp only[Xai]at E;have a1:=jL.1 (oD E.1.1.2);have a2:=jL.1 (oD E.1.2);have a3:=jL.1 (oD E.2);exact⟨a1,a2,a3⟩
theorem YC{x:Instance}(h:kH x=[]){k:Nat}(E:k<x.types.length)(I:x.orders.length<=8){near:List Int}(F:near.length=x.orders.length):Ctx x k near:=
 ⟨Y9 h,E,I,F,Y6 h,XL h _ (xD E),aoD h⟩
theorem wN{n:Network}(E:∀c∈n.arcs,0<=c.miles/\c.miles<=10000)(t:VType)(p g:Int):0<=mil n t p g/\mil n t p g<=10000:=by
 unfold mil dH;split
 . exact⟨Xaj 0,by decide⟩
 . split
   . exact⟨Xaj 0,by decide⟩
   . cases e:nP n t.profile p g with
     | none=>exact⟨Xaj 0,by decide⟩
     | some a=>
       unfold nP at e;exact E a (List.mem_of_find?_eq_some e)
theorem Ctx.ty{x:Instance}{k:Nat}{near:List Int}(h:Ctx x k near):TypeB (aC x k) (nH x.types):=h.acc.type _ (xD h.kind)
structure Rel(x:Instance)(t:VType)(p:Part)(q:RP):Prop where
 place:p.place=q.place
 memory:p.memory=q.memory
 board:p.board=q.board
 visits:p.visits=q.visits
 load:p.load=q.load
 ll:q.load.length=rT x
 mem:q.memory<2^x.orders.length
 clk:∃R,Cr p.visits p.clocks R/\q.moms=eA t R
theorem ZC{s o:Nat}(h:o<=62):gL (s:Nat) (o:Nat)=kS s o:=by
 rw[uT (by omega) (by omega),Xan,lX]
theorem NY{b o:Nat}(h:kS b o=true):AS b o=b-2^o:=by
 rw[lX]at h;have e:b &&& 2^o=2^o:=by
   apply Xct;intro i;rw[Xcf];by_cases hi:o=i
   . subst hi;rw[h,Xcx];rfl
   . rw[Xcn hi];simp
 unfold AS;rw[e];have I:(b ^^^ 2^o).testBit o=false:=by rw[Nat.testBit_xor,h,Xcx];rfl
 have E:=Ev I;have F:(b ^^^ 2^o) ||| 2^o=b:=by
   apply Xct;intro i;rw[Nat.testBit_or,Nat.testBit_xor];by_cases hi:o=i
   . subst hi;rw[h,Xcx];rfl
   . rw[Xcn hi];simp
 rw[F]at E;omega
theorem YE{b o:Nat}(h:kS b o=false):b ||| 2^o=b+2^o:=(Ev (by rw[<-lX];exact h)).symm
theorem EZ{a b:List Int}(E:∀n∈b,0<=n/\n<=1000):pC a b=cR a b 1:=by
 unfold pC cR;induction a generalizing b with
 | nil=>rfl
 | cons u a ih=>
   cases b with
   | nil=>rfl
   | cons v b=>
     have I:=E v (by simp);rw[List.zipWith_cons_cons,List.zipWith_cons_cons,ih (fun n F=>E n (by simp[F]))]
     congr 1
     rw[bP (n:=1*v) (by omega),Int.one_mul];rfl
theorem LM{a b:List Int}(E:∀n∈b,0<=n/\n<=1000):rS a b=cR a b (-1):=by
 unfold rS cR;induction a generalizing b with
 | nil=>rfl
 | cons u a ih=>
   cases b with
   | nil=>rfl
   | cons v b=>
     have I:=E v (by simp);rw[List.zipWith_cons_cons,List.zipWith_cons_cons,ih (fun n F=>E n (by simp[F]))]
     congr 1
     rw[bP (n:= -1*v) (by omega)];show W (u-v)=_
     congr 1
     omega
theorem vT{a c:List Int}(h:a.length=c.length):fE a c=pG a c:=by
 unfold fE pG;rw[h];simp
section
variable{x:Instance}{k:Nat}{near:List Int}{du:Option (List ByteArray)}{dl:List ByteArray}{M:Nat}{cn:Int}{lim fnd:Bool}{le:ByteArray}{p:Part}{q:RP}{o:Nat}{d:Bool}
abbrev wOf(x:Instance)(k:Nat)(near:List Int)(du:Option (List ByteArray))(M:Nat):Wk:=⟨x,k,aC x k,near,du,M⟩
abbrev sOf(x:Instance)(k:Nat)(near:List Int)(dl:List ByteArray)(M:Nat)(cn:Int)(lim fnd:Bool)(le:ByteArray):Rs:=⟨x,aC x k,k,near,dl,M,cn,lim,fnd,le⟩
def rR(x:Instance)(k:Nat)(near:List Int)(du:Option (List ByteArray))(p:Part)(q:RP)(o:Nat)(d:Bool):Part:=
 { p with
   memory:=if bQ (aF x o) d=true then rI near p.memory o else p.memory
   value:=if bQ (aF x o) d=true then Ax (addV p.value ((dU (aF x o).now k*16+dU (aF x o).last k)*65536)) o du else p.value
   board:=if bQ (aF x o) d=true then(if gO (aF x o)=true then p.board+2^o else p.board)else p.board-2^o
   load:=hY q (aF x o) d }
theorem BW(h:Ctx x k near)(r:Rel x (aC x k) p q)(ho:o<x.orders.length)(hp:(stR (aF x o) d).place>=0)(ae:(aF x o).off=false)(ai:oQ (aC x k).skills (aF x o).skills=true)(hM:p.visits<M):
   (rK q o (bQ (aF x o) d)=true->(cH (wOf x k near du M) p ⟨(o:Nat),d⟩).2=false) /\
   (rK q o (bQ (aF x o) d)=false->pG (hY q (aF x o) d) (aC x k).cap=false->(cH (wOf x k near du M) p ⟨(o:Nat),d⟩).2=false) /\
   (rK q o (bQ (aF x o) d)=false->pG (hY q (aF x o) d) (aC x k).cap=true->cH (wOf x k near du M) p ⟨(o:Nat),d⟩=goP (wOf x k near du M) (rR x k near du p q o d) (stR (aF x o) d)):=by
 have hn:=h.n;have hO:=h.acc.order _ (kT ho);have ad:=(sH hO.load).2;have J:dD x ⟨(o:Nat),d⟩=(stR (aF x o) d,0):=Za ho hp;have al:=r.ll;have ak:=sK h.acc ho;have am:=Ai h.acc h.kind;have hA:=EZ (a:=q.load) ad;have hS:=LM (a:=q.load) ad;have ah:(cR q.load (aF x o).load 1).length=(aC x k).cap.length:=by unfold cR;rw[List.length_zipWith];omega
 have aj:(cR q.load (aF x o).load (-1)).length=(aC x k).cap.length:=by unfold cR;rw[List.length_zipWith];omega
 have af:q.load.length=(aC x k).cap.length:=by omega
 have ab : cH (wOf x k near du M) p ⟨(o : Nat), d⟩ =
     (let s:=if(!d||decide ((aF x o).pick.place<0))=true then fO (wOf x k near du M) p o else(p,true)
      if s.2=true then
        let l:=fW (wOf x k near du M) s.1 o d
        if l.2=true then goP (wOf x k near du M) l.1 (stR (aF x o) d)else(l.1,false)
      else(s.1,false)):=by
   unfold cH;have e0:(⟨(o:Nat),d⟩:Visit).order.toNat=o:=Xan o;rw[e0,J];rw[if_neg]
   . rfl
   . rw[ae,At h.ty.skills hO.skills,ai]
     simp;omega
 rw[ab];clear ab J;have bM:gL (p.memory:Nat) (o:Nat)=kS q.memory o:=by rw[r.memory];exact ZC (by omega)
 have bB:gL (p.board:Nat) (o:Nat)=kS q.board o:=by rw[r.board];exact ZC (by omega)
 have ac:(kS q.memory o||kS q.board o)=true->fO (wOf x k near du M) p o=(p,false):=fun F=>by
   unfold fO;rw[bM,bB,if_pos F]
 have aa:(kS q.memory o||kS q.board o)=false->fO (wOf x k near du M) p o=({ p with memory:=rI near p.memory o,value:=Ax (addV p.value ((dU (aF x o).now k*16+dU (aF x o).last k)*65536)) o du },true):=fun F=>by
   unfold fO;rw[bM,bB,if_neg (by rw[F];simp)]
 have e3:rK q o true=(kS q.memory o||kS q.board o):=by unfold rK;simp
 have e4:rK q o false= !kS q.board o:=by unfold rK;simp
 cases d with
 | false=>
   have X:bQ (aF x o) false=true:=rfl;have O:hY q (aF x o) false=cR q.load (aF x o).load 1:=rfl;rw[X,O,e3];have c1:(!false||decide ((aF x o).pick.place<0))=true:=rfl;rw[if_pos c1];cases F:(kS q.memory o||kS q.board o)with
   | true=>
     rw[ac F];exact⟨fun _=>rfl,fun h1=>(by cases h1),fun h1=>(by cases h1)⟩
   | false=>
     have E:kS q.board o=false:=(Xai.1 F).2;have Y : fW (wOf x k near du M) { p with memory := rI near p.memory o, value := Ax (addV p.value ((dU (aF x o).now k * 16 + dU (aF x o).last k) * 65536)) o du } o false =
         (rR x k near du p q o false,pG (cR q.load (aF x o).load 1) (aC x k).cap):=by
       unfold fW rR;rw[if_pos rfl,X,O];simp only[if_true,r.load,r.board,hA,vT ah,YE E]
     rw[aa F];dsimp only;rw[if_pos rfl,Y];dsimp only;refine⟨fun h1=>(by cases h1),fun _ I=>?_,fun _ I=>?_⟩
     . rw[I];rfl
     . rw[I];rfl
 | true=>
   have an:(aF x o).drop.place>=0:=hp;by_cases E:gO (aF x o)=true
   . have Z : ¬ (aF x o).pick.place < 0 := by
       unfold gO at E;simp at E;omega
     have X:bQ (aF x o) true=false:=by unfold bQ;rw[E];rfl
     have O:hY q (aF x o) true=cR q.load (aF x o).load (-1):=by unfold hY;rw[if_neg (by simp),if_pos E]
     have c1:(!true||decide ((aF x o).pick.place<0))=false:=by rw[decide_eq_false Z];rfl
     have ag:(if(!true||decide ((aF x o).pick.place<0))=true then fO (wOf x k near du M) p o else(p,true))=(p,true):=if_neg (fun h=>Bool.noConfusion (c1.symm.trans h));rw[X,O,e4,ag];cases F:kS q.board o with
     | true=>
       have Y:fW (wOf x k near du M) p o true=(rR x k near du p q o true,pG (cR q.load (aF x o).load (-1)) (aC x k).cap):=by
         unfold fW rR;rw[if_neg (by simp),if_pos E,bB,if_pos F,X,O];simp only[Xbj,if_false,r.load,r.board,hS,vT aj,NY F]
       dsimp only;rw[if_pos rfl,Y];dsimp only;refine⟨fun h1=>(by cases h1),fun _ I=>?_,fun _ I=>?_⟩
       . rw[I];rfl
       . rw[I];rfl
     | false=>
       have Y:fW (wOf x k near du M) p o true=(p,false):=by
         unfold fW;rw[if_neg (by simp),if_pos E,bB,if_neg (by rw[F];simp)]
       dsimp only;rw[if_pos rfl,Y];dsimp only;exact⟨fun _=>rfl,fun h1=>(by cases h1),fun h1=>(by cases h1)⟩
   . have E:gO (aF x o)=false:=by simpa using E
     have Z:(aF x o).pick.place<0:=by
       unfold gO at E;simp at E;omega
     have X:bQ (aF x o) true=true:=by unfold bQ;rw[E];rfl
     have O:hY q (aF x o) true=q.load:=by unfold hY;rw[if_neg (by simp),if_neg (by rw[E];simp)]
     have c1:(!true||decide ((aF x o).pick.place<0))=true:=by rw[decide_eq_true Z];rfl
     rw[X,O,e3,if_pos c1];cases F:(kS q.memory o||kS q.board o)with
     | true=>
       rw[ac F];exact⟨fun _=>rfl,fun h1=>(by cases h1),fun h1=>(by cases h1)⟩
     | false=>
       have Y : fW (wOf x k near du M) { p with memory := rI near p.memory o, value := Ax (addV p.value ((dU (aF x o).now k * 16 + dU (aF x o).last k) * 65536)) o du } o true =
           (rR x k near du p q o true,pG q.load (aC x k).cap):=by
         unfold fW rR;rw[if_neg (by simp),if_neg (by rw[E];simp),X,O,E];simp only[if_true,Xbj,if_false,r.load,vT af]
       rw[aa F];dsimp only;rw[if_pos rfl,Y];dsimp only;refine⟨fun h1=>(by cases h1),fun _ I=>?_,fun _ I=>?_⟩
       . rw[I];rfl
       . rw[I];rfl
theorem uR:(pH (sOf x k near dl M cn lim fnd le) q o d).memory=(if bQ (aF x o) d=true then Cy near q.memory o near.length else q.memory) /\
   (pH (sOf x k near dl M cn lim fnd le) q o d).board=(if bQ (aF x o) d=true then(if gO (aF x o)=true then q.board+2^o else q.board)else q.board-2^o) /\
   (pH (sOf x k near dl M cn lim fnd le) q o d).load=q.load/\(pH (sOf x k near dl M cn lim fnd le) q o d).visits=q.visits/\(pH (sOf x k near dl M cn lim fnd le) q o d).miles=q.miles /\
   (pH (sOf x k near dl M cn lim fnd le) q o d).dual=(if bQ (aF x o) d=true then(Bb q.dual (dl.getD o ByteArray.empty)).1 else q.dual) /\
   (pH (sOf x k near dl M cn lim fnd le) q o d).moved=(if bQ (aF x o) d=true then zR (aF x o).now k q.moved else q.moved) /\
   (pH (sOf x k near dl M cn lim fnd le) q o d).other=(if bQ (aF x o) d=true then zR (aF x o).last k q.other else q.other):=by
 unfold pH;cases bQ (aF x o) d with
 | true=>
   cases E:gO (aF x o)with
   | true=>exact⟨rfl,rfl,rfl,rfl,rfl,rfl,rfl,rfl⟩
   | false=>exact⟨rfl,rfl,rfl,rfl,rfl,rfl,rfl,rfl⟩
 | false=>exact⟨rfl,rfl,rfl,rfl,rfl,rfl,rfl,rfl⟩
structure Adds(x:Instance)(k:Nat)(dl:List ByteArray)(p p':Part)(q q':RP)(o:Nat)(d:Bool)(B:ByteArray)(miles:Int):Prop where
 rng:0<=miles/\miles<=10000
 value:p'.value=addV B (W (W ((aC x k).perMile*miles)*16777216))
 miles:q'.miles=W (q.miles+miles)
 dual:q'.dual=if bQ (aF x o) d=true then(Bb q.dual (dl.getD o ByteArray.empty)).1 else q.dual
 moved:q'.moved=if bQ (aF x o) d=true then zR (aF x o).now k q.moved else q.moved
 other:q'.other=if bQ (aF x o) d=true then zR (aF x o).last k q.other else q.other
theorem X1(h:Ctx x k near)(r:Rel x (aC x k) p q)(Z:o<x.orders.length)(hp:(stR (aF x o) d).place>=0)(X:(aF x o).off=false)(ad:oQ (aC x k).skills (aF x o).skills=true)(hM:p.visits<M)(af:M<=16):
   (cH (wOf x k near du M) p ⟨(o:Nat),d⟩).2=(EY (sOf x k near dl M cn lim fnd le) q o d).2 /\
   ((cH (wOf x k near du M) p ⟨(o:Nat),d⟩).2=true->Rel x (aC x k) (cH (wOf x k near du M) p ⟨(o:Nat),d⟩).1 (EY (sOf x k near dl M cn lim fnd le) q o d).1/\(cH (wOf x k near du M) p ⟨(o:Nat),d⟩).1.visits=p.visits+1 /\
     ∃miles,Adds x k dl p (cH (wOf x k near du M) p ⟨(o:Nat),d⟩).1 q (EY (sOf x k near dl M cn lim fnd le) q o d).1 o d (rR x k near du p q o d).value miles):=by
 obtain⟨n1,n2,n3⟩:=BW (near:=near) (du:=du) (M:=M) h r Z hp X ad hM;obtain⟨R,hR,hq⟩:=r.clk;have hT:=h.ty;have hO:=h.acc.order _ (kT Z);have hw:fI (stR (aF x o) d)=0:=by
   unfold stR;split
   . exact hO.wdrop
   . exact hO.wpick
 have ab:=N1 hw hp;obtain⟨c1,c2,c3⟩:=abM (place:=p.place) (goal:=(stR (aF x o) d).place) (fun a ha=>h.acc.arc a ha) hT.rest hT.drive.2 (show p.visits<=16 by omega) hR ab;rw[<-hq]at c1 c2 c3;have E:EY (sOf x k near dl M cn lim fnd le) q o d=if rK q o (bQ (aF x o) d)=true then(q,false)
   else
     if(kQ x.net (aC x k) p.place (stR (aF x o) d).place (stR (aF x o) d).close q.moms).1.length=0 then(q,false)
     else if pG (hY q (aF x o) d) (aC x k).cap=true then(goR (sOf x k near dl M cn lim fnd le) (pH (sOf x k near dl M cn lim fnd le) { q with load:=hY q (aF x o) d } o d) (stR (aF x o) d) (kQ x.net (aC x k) p.place (stR (aF x o) d).place (stR (aF x o) d).close q.moms).2 (kQ x.net (aC x k) p.place (stR (aF x o) d).place (stR (aF x o) d).close q.moms).1,true)
     else({ q with load:=hY q (aF x o) d },false):=by rw[r.place];rfl
 cases F:rK q o (bQ (aF x o) d)with
 | true=>
   rw[E,if_pos F,n1 F];exact⟨rfl,fun h=>by cases h⟩
 | false=>
   rw[if_neg (by rw[F];simp)]at E;cases Y:pG (hY q (aF x o) d) (aC x k).cap with
   | false=>
     rw[n2 F Y];refine⟨?_,fun h=>by cases h⟩;rw[E];split
     . rfl
     . rw[if_neg (by rw[Y];simp)]
   | true=>
     rw[n3 F Y];rw[if_pos Y]at E;have hG:goP (wOf x k near du M) (rR x k near du p q o d) (stR (aF x o) d)=({ rR x k near du p q o d with clocks:=eC (stR (aF x o) d) (bI x.net (aC x k) p.place (stR (aF x o) d).place p.clocks).1,place:=(stR (aF x o) d).place,visits:=p.visits+1,value:=addV (rR x k near du p q o d).value (W (W ((aC x k).perMile*(bI x.net (aC x k) p.place (stR (aF x o) d).place p.clocks).2)*16777216)) },decide ((eC (stR (aF x o) d) (bI x.net (aC x k) p.place (stR (aF x o) d).place p.clocks).1).length>0)):=rfl;rw[hG];clear hG;have ae:∀s,eC s (bI x.net (aC x k) p.place (stR (aF x o) d).place p.clocks).1≠[]->0<=(bI x.net (aC x k) p.place (stR (aF x o) d).place p.clocks).2/\(bI x.net (aC x k) p.place (stR (aF x o) d).place p.clocks).2<=10000:=fun s F=>by
       rw[(kG x.net (aC x k) p.place (stR (aF x o) d).place p.clocks).2 (fun e=>F (by rw[e];rfl))];exact wN h.mil _ _ _
     generalize bI x.net (aC x k) p.place (stR (aF x o) d).place p.clocks=D at *;generalize kQ x.net (aC x k) p.place (stR (aF x o) d).place (stR (aF x o) d).close q.moms=A at *;by_cases J:A.1=[]
     . rw[if_pos (by rw[J];rfl)]at E
       rw[E,c2.2 J];exact⟨rfl,fun h=>by cases h⟩
     . have I:¬eC (stR (aF x o) d) D.1=[]:=fun e=>J (c2.1 e)
       have ac:¬A.1.length=0:=fun e=>J (List.length_eq_zero_iff.1 e)
       rw[if_neg ac]at E;have O:(eC (stR (aF x o) d) D.1).length>0:=Xcy.2 I;rw[E];refine⟨decide_eq_true O,fun _=>⟨⟨?_,?_,?_,?_,?_,?_,?_,?_⟩,rfl,D.2,⟨ae _ I,rfl,?_,?_,?_,?_⟩⟩⟩
       . rfl
       . show(if bQ (aF x o) d=true then rI near p.memory o else p.memory)=(pH (sOf x k near dl M cn lim fnd le) { q with load:=hY q (aF x o) d } o d).memory
         rw[(uR).1,r.memory,YG (by rw[h.len];exact Z) (by rw[h.len];exact r.mem)]
       . show(if bQ (aF x o) d=true then(if gO (aF x o)=true then p.board+2^o else p.board)else p.board-2^o)=(pH (sOf x k near dl M cn lim fnd le) { q with load:=hY q (aF x o) d } o d).board
         rw[(uR).2.1,r.board]
       . show p.visits+1=(pH (sOf x k near dl M cn lim fnd le) { q with load:=hY q (aF x o) d } o d).visits+1
         rw[(uR).2.2.2.1,r.visits]
       . show hY q (aF x o) d=(pH (sOf x k near dl M cn lim fnd le) { q with load:=hY q (aF x o) d } o d).load
         rw[(uR).2.2.1]
       . show(pH (sOf x k near dl M cn lim fnd le) { q with load:=hY q (aF x o) d } o d).load.length=rT x
         rw[(uR).2.2.1];have ag:=sK h.acc Z;have aa:=r.ll;have hc:∀s,(cR q.load (aF x o).load s).length=rT x:=fun s=>by unfold cR;rw[List.length_zipWith];omega
         show(hY q (aF x o) d).length=rT x;unfold hY;split
         . exact hc 1
         . split
           . exact hc (-1)
           . exact aa
       . show(pH (sOf x k near dl M cn lim fnd le) { q with load:=hY q (aF x o) d } o d).memory<2^x.orders.length
         rw[(uR).1];split
         . have:=Gk near q.memory o near.length
           rw[h.len]at this |-;exact this
         . exact r.mem
       . exact⟨_,c1,rfl⟩
       . show W ((pH (sOf x k near dl M cn lim fnd le) { q with load:=hY q (aF x o) d } o d).miles+A.2)=_
         rw[(uR).2.2.2.2.1,c3 J]
       . exact(uR).2.2.2.2.2.1
       . exact(uR).2.2.2.2.2.2.1
       . exact(uR).2.2.2.2.2.2.2
end
end Go.Proofs.YtdlijlecpopadaaGreatDoor.Rx
end
section
namespace Go.Proofs.YtdlijlecpopadaaGreatDoor.Rx
open Go.Aw Go.Aw.D Go.Proofs Ty Go.Nu
theorem Mi(n:Int):oE (n:Rat)=zed n:=by unfold oE;rw[if_pos (Rat.den_intCast n),Rat.num_intCast]
def Sm(A D:Nat)(x:Rat):Prop:=x.den<=D/\x.num.natAbs<=A*x.den
theorem Zl{n:Int}{d:Nat}(F:d≠0):∃g:Nat,0<g/\n.natAbs=(mkRat n d).num.natAbs*g/\d=(mkRat n d).den*g:=by
 have h1:=Tr (n:=n) F;have J:=SQ (n:=n) F;have X:=Ug (n:=n) F;have I:=Nat.gcd_dvd_left n.natAbs d;have O:=Nat.gcd_dvd_right n.natAbs d;refine⟨Nat.gcd n.natAbs d,X,?_,?_⟩
 . generalize Nat.gcd n.natAbs d=g at *
   rw[<-h1,Int.fdiv_eq_ediv_of_nonneg _ (Int.natCast_nonneg g)];have E:(g:Int)∣n:=Int.dvd_natAbs.1 (Int.natCast_dvd_natCast.2 I);rw[Int.natAbs_ediv_of_dvd E,Xbw];exact(Nat.div_mul_cancel I).symm
 . generalize Nat.gcd n.natAbs d=g at *
   rw[Int.fdiv_eq_ediv_of_nonneg _ (Int.natCast_nonneg g),<-Int.natCast_ediv]at J;have:d/g=(mkRat n d).den:=Int.ofNat.inj J;rw[<-this];exact(Nat.div_mul_cancel O).symm
theorem Xv{A B D F:Nat}{x y:Rat}(I:Sm A D x)(O:Sm B F y):Sm (A+B) (D*F) (x+y):=by
 obtain⟨g,Y,J,E⟩:=Zl (n:=x.num*y.den+y.num*x.den) (PT x y)
 rw[<-Kf]at J E
 have X:(x.num*y.den+y.num*x.den).natAbs<=(A+B)*(x.den*y.den):=by
   refine Xah (Int.natAbs_add_le _ _) ?_
   rw[Int.natAbs_mul,Int.natAbs_mul,Xbw,Xbw,Nat.add_mul]
   refine Nat.add_le_add ?_ ?_
   . rw[<-Xcq];exact Xbm _ I.2
   . rw[Nat.mul_comm x.den,<-Xcq];exact Xbm _ O.2
 refine⟨?_,?_⟩
 . have : (x + y).den <= x.den * y.den := by
     calc (x+y).den<=(x+y).den*g:=Nat.le_mul_of_pos_right _ Y
       _=x.den*y.den:=E.symm
   exact Xah this (Nat.mul_le_mul I.1 O.1)
 . rw[J,E,<-Xcq]at X
   exact Nat.le_of_mul_le_mul_right X Y
theorem T3{A B D F:Nat}{x:Rat}(h:Sm A D x)(h1:A<=B)(E:D<=F):Sm B F x:=⟨Xah h.1 E,Xah h.2 (Xbm _ h1)⟩
theorem YU{A D:Nat}{x:Rat}(h:Sm A D x)(h1:A*D<cO)(E:D<cO):sJ x:=
 ⟨Xbb (Xah h.2 (Xdb _ h.1)) h1,Xbb h.1 E⟩
theorem MY{A B D F:Nat}{x y:Rat}(I:Sm A D x)(J:Sm B F y):(x.num*y.den).natAbs<=A*(D*F)/\(y.num*x.den).natAbs<=B*(D*F)/\(x.num*y.den+y.num*x.den).natAbs<=(A+B)*(D*F)/\x.den*y.den<=D*F:=by
 have E:=Nat.mul_le_mul I.1 J.1;have h1:(x.num*y.den).natAbs<=A*(x.den*y.den):=by
   rw[Int.natAbs_mul,Xbw,<-Xcq];exact Xbm _ I.2
 have O:(y.num*x.den).natAbs<=B*(x.den*y.den):=by
   rw[Int.natAbs_mul,Xbw,Nat.mul_comm x.den,<-Xcq];exact Xbm _ J.2
 refine⟨Xah h1 (Xdb _ E),Xah O (Xdb _ E),?_,E⟩;refine Xah (Int.natAbs_add_le _ _) ?_;rw[Nat.add_mul];exact Nat.add_le_add (Xah h1 (Xdb _ E)) (Xah O (Xdb _ E))
theorem aeH{A B D F:Nat}{x y:Rat}(I:Sm A D x)(Y:Sm B F y)(h:(A+B)*(D*F)<cO)(h2:D*F<cO)(X:sJ x)(Z:sJ y):Bb (oE x) (oE y)=(oE (x+y),0):=by
 obtain⟨p1,E,J,O⟩:=MY I Y;unfold Bb;rw[oB X,oB Z,Bool.and_self,if_pos rfl,kR,kR];refine TU (Xbb p1 (Xbb (Xbm _ (Nat.le_add_right _ _)) h)) (Xbb E (Xbb (Xbm _ (Nat.le_add_left _ _)) h)) (Xbb J h) (Xbb O h2)
theorem ahZ{s:ByteArray}(O:cV s=true)(I:s.size<=60):Sm (10^60) (10^60) (jI s):=by
 obtain⟨x,rfl,_,_,_⟩:=lV O;rw[kR];have J:∀n:Int,n.natAbs<10^60\/60<(zed n).size:=by
   intro n;by_cases h:(Lib.decDigits n.natAbs).length<=60
   . exact .inl ((iK (by decide)).1 h)
   . refine .inr ?_
     have h1:(dS (zed n)).size=(Lib.decDigits n.natAbs).length:=by rw[jY,gY]
     have X:(dS (zed n)).size<=(zed n).size:=by
       unfold dS;split
       . rw[<-cF,jE,Xbl,cF];omega
       . exact Xag _
     omega
 have F:1<=x.den:=x.den_pos;have E:x.num.natAbs<10^60/\x.den<=10^60:=by
   unfold oE at I;split at I
   . next h1=>
     refine⟨(J x.num).resolve_right (by omega),?_⟩;rw[h1];exact Nat.pow_pos (by decide)
   . rw[ByteArray.size_append,ByteArray.size_append]at I
     refine⟨(J x.num).resolve_right (by omega),?_⟩;have:(dec x.den).size<=60:=by omega
     rw[gY]at this;exact Nat.le_of_lt ((iK (by decide)).1 this)
 refine⟨E.2,?_⟩;exact Xah (Nat.le_of_lt E.1) (Nat.le_mul_of_pos_right _ F)
theorem acT{A D:Nat}(h:1<=D):Sm A D 0:=⟨h,Xab _⟩
theorem UE(c e k:Nat)(E:c<100)(h:2+(e+e*k)<=4096):c*10^e*(10^e)^k<cO:=by
 refine K0 (k:=2+(e+e*k)) ?_ h;rw[<-Nat.pow_mul,Xcq,<-Nat.pow_add,Nat.pow_add 10 2];exact Nat.mul_lt_mul_of_pos_right E (Nat.pow_pos (by decide))
theorem Qu(e k:Nat)(h:2+(e+e*k)<=4096):(10^e)^k<cO:=by
 refine K0 (k:=e*k+1) ?_ (by omega);rw[<-Nat.pow_mul];exact Xbz (by decide) (Nat.lt_succ_self _)
theorem ZT{A D:Nat}{x:Rat}(h:Sm A D x):Sm A D (-x):=by
 unfold Sm;rw[Rat.neg_num,Rat.neg_den,Int.natAbs_neg];exact h
theorem anF{n:Int}{A:Nat}(h:n.natAbs<=A):Sm A 1 (n:Rat):=by
 unfold Sm;rw[Rat.num_intCast,Rat.den_intCast];omega
theorem adK{A B D F:Nat}{x y:Rat}(I:Sm A D x)(Y:Sm B F y)(h:(A+B)*(D*F)<cO)(h2:D*F<cO)(X:sJ x)(Z:sJ y):yS (oE x) (oE y)=(oE (x-y),0):=by
 obtain⟨p1,E,J,O⟩:=MY I (ZT Y);unfold yS;rw[oB X,oB Z,Bool.and_self,if_pos rfl,kR,kR,TU (Xbb p1 (Xbb (Xbm _ (Nat.le_add_right _ _)) h)) (Xbb E (Xbb (Xbm _ (Nat.le_add_left _ _)) h)) (Xbb J h) (Xbb O h2),Xdg]
def EE:Nat:=10^60
structure Vl(v:Nat)(a:ByteArray)(r:Rat):Prop where
 eq:a=oE r
 sm:Sm (v*EE) (EE^v) r
theorem ZX:1<=EE:=Nat.pow_pos (by decide)
theorem BN{v:Nat}(h:v<=60):v*EE*EE^v<cO/\EE^v<cO:=by
 have F:=UE v 60 v (by omega) (by omega);have E:=Qu 60 v (by omega);exact⟨F,E⟩
theorem Vl.small{v:Nat}{a:ByteArray}{r:Rat}(h:Vl v a r)(E:v<=60):sJ r:=YU h.sm (BN E).1 (BN E).2
theorem Vl.right{v:Nat}{a:ByteArray}{r:Rat}(h:Vl v a r)(E:v<=60):cV a=true:=by rw[h.eq];exact oB (h.small E)
theorem Vl.val{v:Nat}{a:ByteArray}{r:Rat}(h:Vl v a r):jI a=r:=by rw[h.eq,kR]
theorem Vl.mono{v u:Nat}{a:ByteArray}{r:Rat}(h:Vl v a r)(E:v<=u):Vl u a r:=⟨h.eq,T3 h.sm (Xbm _ E) (Xay ZX E)⟩
theorem Vl.add{u v:Nat}{a b:ByteArray}{r s:Rat}(F:Vl u a r)(I:Vl v b s)(h:u+v<=60):(Bb a b).2=0/\Vl (u+v) (Bb a b).1 (r+s):=by
 have E:=BN h;have X:u*EE+v*EE=(u+v)*EE:=(Nat.add_mul _ _ _).symm;have J:EE^u*EE^v=EE^(u+v):=(Nat.pow_add _ _ _).symm;have:=aeH F.sm I.sm (by rw[X,J];exact E.1) (by rw[J];exact E.2) (F.small (by omega)) (I.small (by omega));rw[<-F.eq,<-I.eq]at this;rw[this];refine⟨rfl,rfl,?_⟩;have O:=Xv F.sm I.sm;rw[X,J]at O;exact O
theorem Vl.sub{u v:Nat}{a b:ByteArray}{r s:Rat}(F:Vl u a r)(I:Vl v b s)(h:u+v<=60):(yS a b).2=0/\Vl (u+v) (yS a b).1 (r-s):=by
 have E:=BN h;have X:u*EE+v*EE=(u+v)*EE:=(Nat.add_mul _ _ _).symm;have J:EE^u*EE^v=EE^(u+v):=(Nat.pow_add _ _ _).symm;have:=adK F.sm I.sm (by rw[X,J];exact E.1) (by rw[J];exact E.2) (F.small (by omega)) (I.small (by omega));rw[<-F.eq,<-I.eq]at this;rw[this];refine⟨rfl,rfl,?_⟩;have O:=Xv F.sm (ZT I.sm);rw[X,J,<-Xdg]at O;exact O
theorem Vl.int{n:Int}(h:n.natAbs<=EE):Vl 1 (zed n) (n:Rat):=⟨(Mi n).symm,by rw[Nat.one_mul,Nat.pow_one];exact T3 (anF h) (Xag _) ZX⟩
theorem aaL{n:Int}(h:n.natAbs<=9223372036854775808):n.natAbs<=EE:=Xah h (by decide)
theorem Vl.text{s:ByteArray}(E:cV s=true)(F:s.size<=60):Vl 1 s (jI s):=⟨(Ws E).symm,by rw[Nat.one_mul,Nat.pow_one];exact ahZ E F⟩
theorem Vl.addV{u:Nat}{a:ByteArray}{r:Rat}{n:Int}(E:Vl u a r)(F:n.natAbs<=9223372036854775808)(h:u+1<=60):Vl (u+1) (addV a n) (r+(n:Rat)):=(E.add (Vl.int (aaL F)) h).2
theorem Bc{a b:ByteArray}(F:cV a=true)(I:cV b=true):¬xW a b<0↔jI b<=jI a:=by
 unfold xW VS;rw[F,I,Bool.and_self,if_pos rfl];split
 . next h=>exact⟨fun E=>absurd (by decide) E,fun E=>absurd h (Rat.not_lt.2 E)⟩
 . next h=>
   refine⟨fun _=>Rat.not_lt.1 h,fun _=>?_⟩;split <;> decide
theorem TZ{a b:ByteArray}(I:cV a=true)(J:cV b=true):xW a b<=0↔jI a<=jI b:=by
 unfold xW VS;rw[I,J,Bool.and_self,if_pos rfl];split
 . next h=>exact⟨fun _=>Rat.le_of_lt h,fun _=>by decide⟩
 . next h=>
   split
   . next F=>exact⟨fun E=>absurd E (by decide),fun E=>absurd F (Rat.not_lt.2 E)⟩
   . next F=>exact⟨fun _=>Rat.not_lt.1 F,fun _=>by decide⟩
end Go.Proofs.YtdlijlecpopadaaGreatDoor.Rx
end
section
namespace Go.Proofs.YtdlijlecpopadaaGreatDoor.Rx
open Go.Aw Go.Aw.D Go.Proofs Ty
open Sq
open Go.Nu
def akK(s:Rs)(q:RP):List ByteArray:=
 if((q.visits:Int) == 0||(q.board:Int) != 0)=true then[]
 else if(kQ s.x.net s.t q.place s.t.dst s.t.close q.moms).1.length=0 then[]
 else[(yS (zed (anH s.t q (afJ (kQ s.x.net s.t q.place s.t.dst s.t.close q.moms).1) (kQ s.x.net s.t q.place s.t.dst s.t.close q.moms).2)) q.dual).1]
def mI(w:Wk)(p:Part):List ByteArray:=if(iR w p).2.2=true then[oY w p (iR w p).1 (iR w p).2.1]else[]
def vP(w:Wk)(vs:List Visit):Nat->Part->List ByteArray
 | 0,p=>mI w p
 | f+1,p=>mI w p++vs.flatMap fun v=>if(cH w p v).2=true then vP w vs f (cH w p v).1 else[]
theorem GJ{a:Int}{k:Nat}{n:Int}(I: -1<=a)(J:0<=n/\n<=1000):zR a k n=n+dU a k/\0<=dU a k/\dU a k<=1:=by
 unfold zR dU;by_cases h1:a= -1
 . subst h1
   rw[if_neg (by simp),if_neg (by simp)];omega
 . by_cases E:a=(k:Int)
   . rw[if_neg (by simp[E]),if_neg (by simp[E])]
     omega
   . have F:a>=0:=by omega
     rw[if_pos (by simp[E,F]),if_pos (by simp[h1,E]),bP (by omega)];omega
structure DuB(n:Nat)(du:Option (List ByteArray))(dl:List ByteArray):Prop where
 len:dl.length=n
 some:∀l,du=some l->l=dl
 none:du=none->∀a∈dl,a=dec 0
 right:∀a∈dl,Vl 1 a (jI a)
theorem DuB.at{n:Nat}{du:Option (List ByteArray)}{dl:List ByteArray}(h:DuB n du dl){o:Nat}(E:o<n):dl.getD o ByteArray.empty∈dl:=by
 rw[List.getD,List.getElem?_eq_getElem (by rw[h.len];exact E)];exact List.getElem_mem _
theorem X2:dec 0=oE 0:=by
 have h1:=Mi 0;rw[show zed 0=dec 0 from gW 0]at h1;exact h1.symm
theorem yF:Vl 0 (dec 0) 0:=⟨X2,acT (Nat.le_of_eq (Nat.pow_zero _).symm)⟩
theorem Bm:jI (dec 0)=0:=yF.val
structure Val(x:Instance)(k:Nat)(p:Part)(q:RP)(v d:Rat):Prop where
 own:Vl (3*q.visits+1) p.value v
 ref:Vl (q.visits+1) q.dual d
 eq:v=((((aC x k).perMile*q.miles)*16777216+(q.moved*16+q.other)*65536:Int):Rat)-d
 miles:0<=q.miles/\q.miles<=10000*(q.visits:Int)
 moved:0<=q.moved/\q.moved<=(q.visits:Int)
 other:0<=q.other/\q.other<=(q.visits:Int)
section
variable{x:Instance}{k:Nat}{near:List Int}{du:Option (List ByteArray)}{dl:List ByteArray}{M:Nat}{cn:Int}{lim fnd:Bool}{le:ByteArray}{p p':Part}{q q':RP}{o:Nat}{dr:Bool}{v d:Rat}{miles:Int}
theorem tW{a b:Int}(F:0<=a/\a<=100){c:Int}(E:0<=b/\b<=c):0<=a*b/\a*b<=100*c:=⟨Int.mul_nonneg F.1 E.1,Int.mul_le_mul F.2 E.2 E.1 (by decide)⟩
theorem VY(h:Ctx x k near)(J:DuB x.orders.length du dl)(ho:o<x.orders.length)(E:Val x k p q v d)(ab:q.visits<=15)(a:Adds x k dl p p' q q' o dr (rR x k near du p q o dr).value miles):
   ∃vb db,Vl (3*q.visits+3) (rR x k near du p q o dr).value vb/\Vl (q.visits+2) q'.dual db/\vb=((((aC x k).perMile*q.miles)*16777216+(q'.moved*16+q'.other)*65536:Int):Rat)-db /\
     (0<=q'.moved/\q'.moved<=(q.visits:Int)+1)/\(0<=q'.other/\q'.other<=(q.visits:Int)+1):=by
 have hm:=E.moved;have aa:=E.other;have hO:=h.led _ (kT ho);have hD:=J.at ho;have O:=J.right _ hD;have a1:=a.dual;have a2:=a.moved;have a3:=a.other;unfold rR;simp only;cases Z:bQ (aF x o) dr with
 | false=>
   rw[Z]at a1 a2 a3;simp only[Xbj,if_false]at a1 a2 a3 |-;rw[a1,a2,a3];exact⟨v,d,E.own.mono (by omega),E.ref.mono (by omega),E.eq,by omega,by omega⟩
 | true=>
   rw[Z]at a1 a2 a3;simp only[if_true]at a1 a2 a3 |-;obtain⟨m1,m2⟩:=GJ (k:=k) hO.2 (show 0<=q.moved/\q.moved<=1000 by omega);obtain⟨m3,m4⟩:=GJ (k:=k) hO.1 (show 0<=q.other/\q.other<=1000 by omega);rw[m1]at a2;rw[m3]at a3;rw[a1,a2,a3];have e:=E.eq;generalize dU (aF x o).now k=dn at *;generalize dU (aF x o).last k=dl2 at *;have hT:=O;have w1:=E.own.addV (n:=(dn*16+dl2)*65536) (by omega) (by omega);have w2:=(E.ref.add hT (by omega)).2;have F:du=none->dl.getD o ByteArray.empty=dec 0:=fun e=>J.none e _ hD
   have I:=J.some;generalize X:dl.getD o ByteArray.empty=D at *;have Y:Vl (3*q.visits+1+1+1) (Ax (addV p.value ((dn*16+dl2)*65536)) o du) (v+(((dn*16+dl2)*65536:Int):Rat)-jI D):=by
     cases du with
     | none=>
       rw[F rfl,Bm,Xdg,Rat.neg_zero,Xco];exact w1.mono (by omega)
     | some l=>
       have hl:=I l rfl;subst hl;show Vl _ (yS (addV p.value ((dn*16+dl2)*65536)) (l.getD o ByteArray.empty)).1 _;rw[X];exact(w1.sub hT (by omega)).2
   refine⟨_,_,Y.mono (by omega),w2.mono (by omega),?_,by omega,by omega⟩;generalize jI D=rD at *;generalize (aC x k).perMile*q.miles=PM at *;have e2:PM*16777216+((q.moved+dn)*16+(q.other+dl2))*65536=(PM*16777216+(q.moved*16+q.other)*65536)+(dn*16+dl2)*65536:=by omega
   rw[e2];generalize PM*16777216+(q.moved*16+q.other)*65536=z at *;generalize (dn*16+dl2)*65536=y at *
   grind
theorem YY(h:Ctx x k near)(X:DuB x.orders.length du dl)(ho:o<x.orders.length)(I:Val x k p q v d)(E:q.visits<=15)(hq:q'.visits=q.visits+1)(a:Adds x k dl p p' q q' o dr (rR x k near du p q o dr).value miles):
   ∃v' d',Val x k p' q' v' d':=by
 obtain⟨vb,db,Z,b2,J,b4,b5⟩:=VY h X ho I E a;have hp:=h.money.2.1;have hr:=a.rng;have hm:=I.miles;have aa:=tW hp hr;have a1:=a.value;have a2:=a.miles;rw[bP (by omega)]at a2;have O:W ((aC x k).perMile*miles)=(aC x k).perMile*miles:=bP (by omega);have F:=Int.mul_add (aC x k).perMile q.miles miles;rw[O]at a1;rw[<-a2]at F;generalize (aC x k).perMile*q.miles=PM at *;generalize ab:(aC x k).perMile*miles=pm at *;have Y:W (pm*16777216)=pm*16777216:=bP (by omega);rw[Y]at a1;have w:=Z.addV (n:=pm*16777216) (by omega) (by omega);rw[<-a1]at w;refine⟨_,db,w.mono (by omega),b2.mono (by omega),?_,by omega,by omega,by omega⟩;rw[F,J];have e4:(PM+pm)*16777216+(q'.moved*16+q'.other)*65536=(PM*16777216+(q'.moved*16+q'.other)*65536)+pm*16777216:=by omega
 rw[e4];generalize PM*16777216+(q'.moved*16+q'.other)*65536=z at *;generalize pm*16777216=y at *
 grind
end
end Go.Proofs.YtdlijlecpopadaaGreatDoor.Rx
end
