/- Texts joined by a program: RxM, CuAcc, RxN, RxT. -/
import Derived.Test.YtdlijlecpopadaaGreatDoorZy22
import Derived.Test.YtdlijlecpopadaaGreatDoorZy32
import Derived.Test.YtdlijlecpopadaaGreatDoorZy33

section
set_option linter.unusedSimpArgs false
set_option linter.unusedVariables false
namespace Go.Proofs.YtdlijlecpopadaaGreatDoor.Rx
open Go.Aw Go.Aw.D Go.Proofs Ty Go.Nu Go.So
open Sq (W jW eM kE NetOk)
open Nu (ltB geB)
open Mv (fZ fA kI NC.pc bR)
set_option maxRecDepth 100000
theorem T3(a b:List Int)(ha:a.length≤1048576):PC Tryz.prog 13 [.sl (a.map aO),.sl (b.map aO)] (boo (decide (a=b))):=by
 refine PC.body (c:=Tryz.f13.body.getD .skip) (fun _=>false) mixed Tryz.func13 rfl (by kernel_rfl) ?_;unfold Tryz.f13;simp only[Option.getD_some];simp only[go_sem];refine aB (fun hb=>?_) (fun hb=>?_)
 · have hne:¬a=b:=fun e=>by subst e;simp at hb
   rw[decide_eq_false hne];simp only[go_sem];exact .refl _
 have hl:a.length=b.length:=by simp at hb;omega
 simp only[go_sem];refine⟨fun ρ H=>∃(k:Nat),k≤a.length∧ρ 0=.sl (a.map aO)∧ρ 1=.sl (b.map aO)∧ρ 12=int (a.length:Nat)∧ρ 13=int k∧a.take k=b.take k,fun ρ _=>a.length-bE (ρ 13),⟨0,Nat.zero_le _,by simp only[go_sem],by simp only[go_sem],by simp only[go_sem,List.length_map],(by simp only[go_sem];rfl),rfl⟩,?_⟩;rintro ρ H ⟨k,hk,e0,e1,e12,e13,hz⟩;simp only[go_sem,e0,e1,e12,e13];refine aB (fun hlt=>?_) (fun hge=>?_)
 · have hlt:=ltB (by simpa using hlt)
   obtain⟨u,hu⟩:=aW hlt;obtain⟨v,hv⟩:=aW (l:=b) (k:=k) (by omega);have b1:=inB hlt;have b2:=inB (show k<b.length by omega);simp only[go_sem,e0,e1,e12,e13];refine jD [(0,true),(1,true),(2,true),(3,true),(4,true),(5,true),(6,true),(7,true),(8,true)] (by kernel_rfl) ?_;simp only[go_sem,e0,e1,e12,e13,aF hu,aF hv,b1,b2];refine aB (fun hb=>?_) (fun hb=>?_)
   · have hne:¬a=b:=fun e=>by subst e;rw[hu]at hv;injection hv with hv;subst hv;simp at hb
     rw[decide_eq_false hne];simp only[go_sem];exact .refl _
   · have huv:u=v:=by simpa using hb
     simp only[go_sem,e0,e1,e12,e13,bA (show k≤4611686018427387904 by omega)];exact⟨⟨k+1,hlt,rfl,by rw[cM hu,cM hv,hz,huv]⟩,by simp only[aH];omega⟩
 have hge:=geB hk (by simpa using hge);subst hge;rw[List.take_length,hl,List.take_length]at hz;rw[decide_eq_true hz];simp only[go_sem];exact .refl _
def EM(x:Instance)(size:Int):List Int×Int:=if(decide (size<1)||decide (size>10))=true then([],2)else(Yn x size.toNat,0)
theorem GH(x:Instance)(size:Int)(hn:x.orders.length≤19)(hx:x.net.arcs.length≤1048576):PC Tryz.prog 11 [.agg (aS x),int size] (.tup [.sl ((EM x size).1.map aO),int (EM x size).2]):=by
 unfold EM;by_cases h:(decide (size<1)||decide (size>10))=true
 · rw[if_pos h]
   refine PC.body (c:=Tryz.f11.body.getD .skip) (fun _=>false) mixed Tryz.func11 rfl (by kernel_rfl) ?_;unfold Tryz.f11;simp only[Option.getD_some];simp only[go_sem];refine aB (fun hb=>?_) (fun hb=>?_)
   · simp only[go_sem]
     exact .refl _
   · exact Bool.noConfusion (hb.symm.trans h)
 · rw[if_neg h]
   simp at h;obtain⟨n,rfl⟩:∃n:Nat,size=(n:Nat):=⟨size.toNat,by omega⟩;rw[Int.toNat_natCast];exact YD x n (by omega) (by omega) hn hx
def smA(i k:Nat):Arc:=⟨i,k,0,10,[⟨0,10⟩],[]⟩
def Eo(i n:Nat):List Arc:=((List.range n).filter fun k=>i != k).map (smA i)
def sX(n:Nat):List Arc:=(List.range n).flatMap fun i=>Eo i 3
def smT:VType:=⟨⟨#[118]⟩,1,0,0,[1],0,0,0,40,100,0,0,1,0⟩
def smO(s:ByteArray)(i:Nat):Order:=⟨s,[1],⟨-1,0,0,0⟩,⟨(i:Int)+1,0,90,0⟩,0,5,1,-1,-1,false⟩
def uF:List ByteArray:=[⟨#[111]⟩,⟨#[112]⟩]
def Cg(n:Nat):List Order:=(List.range n).map fun i=>smO (uF.getD i ByteArray.empty) i
def smP:List ByteArray:=[⟨#[72,117,98]⟩,⟨#[65]⟩,⟨#[66]⟩]
def smX:Instance:=⟨⟨smP,sX 3⟩,[smT],Cg 2,[],[]⟩
structure SmH(H:aE)(i0 j1 ja jo jp jb:Nat)(ty:AV)(arcs:List Arc)(os:List Order):Prop where
 r0:∃cs,H i0=some ⟨30,6,[cs]⟩
 ne:i0≠j1
 r1:H j1=some ⟨30,6,[[.sl (smP.map Go.Aw.D.fL),.os ja,ty,.os jo,.os jp,.os jb]]⟩
 ra:H ja=some ⟨139,6,arcs.map eH⟩
 ro:H jo=some ⟨143,16,os.map aV⟩
 rp:H jp=some ⟨192,2,[]⟩
 rb:H jb=some ⟨192,2,[]⟩
abbrev OL(ja:Nat)(ty:AV)(jo jp jb:Nat):Row:=⟨30,6,[[.sl (smP.map Go.Aw.D.fL),.os ja,ty,.os jo,.os jp,.os jb]]⟩
theorem SmH.app{H : aE}{i0 j1 ja jo jp jb : Nat}{ty : AV}{arcs : List Arc}{os : List Order}(h : SmH H i0 j1 ja jo jp jb ty arcs os){j2 : Nat}(hj : H j2 = none)(c : Arc):
   SmH (aG (aG (aG H ja none) j2 (some ⟨139,6,(arcs++[c]).map eH⟩)) j1 (some (OL j2 ty jo jp jb))) i0 j1 j2 jo jp jb ty (arcs++[c]) os:=by
 obtain⟨⟨cs,r0⟩,ne,r1,ra,ro,rp,rb⟩:=h;have n0:=aN r0 hj;have n1:=aN r1 hj;have no:=aN ro hj;have np:=aN rp hj;have nb:=aN rb hj;have a0:=dW ra r0 rfl;have ao:=dW ra ro rfl;have ap:=dW ra rp rfl;have ab:=dW ra rb rfl;have o1:=dW ro r1 rfl;have p1:=dW rp r1 rfl;have c1:=dW rb r1 rfl;exact⟨⟨cs,by rw[aC _ _ _ _ ne,aC _ _ _ _ n0,aC _ _ _ _ a0.symm];exact r0⟩,ne,aA _ _ _,by rw[aC _ _ _ _ n1.symm,aA],
   by rw[aC _ _ _ _ o1,aC _ _ _ _ no,aC _ _ _ _ ao.symm];exact ro,by rw[aC _ _ _ _ p1,aC _ _ _ _ np,aC _ _ _ _ ap.symm];exact rp,by rw[aC _ _ _ _ c1,aC _ _ _ _ nb,aC _ _ _ _ ab.symm];exact rb⟩
theorem SmH.appO{H : aE}{i0 j1 ja jo jp jb : Nat}{ty : AV}{arcs : List Arc}{os : List Order}(h : SmH H i0 j1 ja jo jp jb ty arcs os){j2 : Nat}(hj : H j2 = none)(c : Order):
   SmH (aG (aG (aG H jo none) j2 (some ⟨143,16,(os++[c]).map aV⟩)) j1 (some (OL ja ty j2 jp jb))) i0 j1 ja j2 jp jb ty arcs (os++[c]):=by
 obtain⟨⟨cs,r0⟩,ne,r1,ra,ro,rp,rb⟩:=h;have n0:=aN r0 hj;have n1:=aN r1 hj;have na:=aN ra hj;have np:=aN rp hj;have nb:=aN rb hj;have a0:=dW ro r0 rfl;have ao:=dW ro ra rfl;have ap:=dW ro rp rfl;have ab:=dW ro rb rfl;have a1:=dW ra r1 rfl;have p1:=dW rp r1 rfl;have c1:=dW rb r1 rfl;exact⟨⟨cs,by rw[aC _ _ _ _ ne,aC _ _ _ _ n0,aC _ _ _ _ a0.symm];exact r0⟩,ne,aA _ _ _,by rw[aC _ _ _ _ a1,aC _ _ _ _ na,aC _ _ _ _ ao.symm];exact ra,
   by rw[aC _ _ _ _ n1.symm,aA],by rw[aC _ _ _ _ p1,aC _ _ _ _ np,aC _ _ _ _ ap.symm];exact rp,by rw[aC _ _ _ _ c1,aC _ _ _ _ nb,aC _ _ _ _ ab.symm];exact rb⟩
theorem SmH.types{H:aE}{i0 j1 ja jo jp jb:Nat}{ty:AV}{arcs:List Arc}{os:List Order}(h:SmH H i0 j1 ja jo jp jb ty arcs os)(ty':AV):SmH (aG H j1 (some (OL ja ty' jo jp jb))) i0 j1 ja jo jp jb ty' arcs os:=by
 obtain⟨⟨cs,r0⟩,ne,r1,ra,ro,rp,rb⟩:=h;exact⟨⟨cs,by rw[aC _ _ _ _ ne];exact r0⟩,ne,aA _ _ _,by rw[aC _ _ _ _ (dW ra r1 rfl)];exact ra,by rw[aC _ _ _ _ (dW ro r1 rfl)];exact ro,by rw[aC _ _ _ _ (dW rp r1 rfl)];exact rp,by rw[aC _ _ _ _ (dW rb r1 rfl)];exact rb⟩
theorem P6(k:Nat):Cg (k+1)=Cg k++[smO (uF.getD k ByteArray.empty) k]:=by
 unfold Cg;rw[List.range_succ,List.map_append];rfl
theorem SQ(k:Nat):(Cg k).length=k:=by unfold Cg;rw[List.length_map,List.length_range]
theorem Qi(i k:Nat):Eo i (k+1)=if(i != k)=true then Eo i k++[smA i k]else Eo i k:=by
 unfold Eo;rw[List.range_succ,List.filter_append,List.map_append];simp only[List.filter];cases(i != k)with
 | true=>rfl
 | false=>simp
theorem DT(i:Nat):sX (i+1)=sX i++Eo i 3:=by
 unfold sX;rw[List.range_succ,List.flatMap_append];simp
theorem Jn(i k:Nat):(Eo i k).length≤k:=by
 unfold Eo;rw[List.length_map];exact Nat.le_trans (List.length_filter_le _ _) (by rw[List.length_range];exact Nat.le_refl k)
theorem GC:∀i,(sX i).length≤3*i
 | 0=>Nat.le_refl 0
 | i+1=>by
   rw[DT,List.length_append];have:=GC i;have:=Jn i 3;omega
theorem Tt:PC Tryz.prog 35 [] (.agg (aS smX)):=by
 refine PC.body (c:=Tryz.f35.body.getD .skip) (fun t=>t == 7||t == 8) mixed Tryz.func35 rfl (by kernel_rfl) ?_;unfold Tryz.f35;simp only[Option.getD_some];simp only[go_sem];refine aL fun i0 h_i0=>?_
 have R_i0:aG bU i0 (some (⟨30,6,[[.sl [],.sl [],.sl [],.sl [],.sl [],.sl []]]⟩:Row)) i0=some ⟨30,6,[[.sl [],.sl [],.sl [],.sl [],.sl [],.sl []]]⟩:=aA _ _ _;generalize aG bU i0 _=H0 at R_i0 ⊢;simp only[go_sem];refine aL fun a1 h_a1=>?_
 have R_i0:=cL h_a1 (some (⟨9,1,[]⟩:Row)) _ _ R_i0;have R_a1:aG H0 a1 (some (⟨9,1,[]⟩:Row)) a1=some ⟨9,1,[]⟩:=aA _ _ _;generalize aG H0 a1 _=H1 at R_i0 R_a1 ⊢;refine aL fun a2 h_a2=>?_
 have R_i0:=cL h_a2 (some (⟨139,6,[]⟩:Row)) _ _ R_i0;have R_a1:=cL h_a2 (some (⟨139,6,[]⟩:Row)) _ _ R_a1;have R_a2:aG H1 a2 (some (⟨139,6,[]⟩:Row)) a2=some ⟨139,6,[]⟩:=aA _ _ _;generalize aG H1 a2 _=H2 at R_i0 R_a1 R_a2 ⊢;refine aL fun b1 h_b1=>?_
 have R_i0:=cL h_b1 (some (⟨9,1,[]⟩:Row)) _ _ R_i0;have R_a1:=cL h_b1 (some (⟨9,1,[]⟩:Row)) _ _ R_a1;have R_a2:=cL h_b1 (some (⟨9,1,[]⟩:Row)) _ _ R_a2;have R_b1:aG H2 b1 (some (⟨9,1,[]⟩:Row)) b1=some ⟨9,1,[]⟩:=aA _ _ _;generalize aG H2 b1 _=H3 at R_i0 R_a1 R_a2 R_b1 ⊢;refine aL fun b2 h_b2=>?_
 have R_i0:=cL h_b2 (some (⟨139,6,[]⟩:Row)) _ _ R_i0;have R_a1:=cL h_b2 (some (⟨139,6,[]⟩:Row)) _ _ R_a1;have R_a2:=cL h_b2 (some (⟨139,6,[]⟩:Row)) _ _ R_a2;have R_b1:=cL h_b2 (some (⟨139,6,[]⟩:Row)) _ _ R_b1;have R_b2:aG H3 b2 (some (⟨139,6,[]⟩:Row)) b2=some ⟨139,6,[]⟩:=aA _ _ _;generalize aG H3 b2 _=H4 at R_i0 R_a1 R_a2 R_b1 R_b2 ⊢;refine aL fun jt h_jt=>?_
 have R_i0:=cL h_jt (some (⟨87,14,[]⟩:Row)) _ _ R_i0;have R_a1:=cL h_jt (some (⟨87,14,[]⟩:Row)) _ _ R_a1;have R_a2:=cL h_jt (some (⟨87,14,[]⟩:Row)) _ _ R_a2;have R_b1:=cL h_jt (some (⟨87,14,[]⟩:Row)) _ _ R_b1;have R_b2:=cL h_jt (some (⟨87,14,[]⟩:Row)) _ _ R_b2;have R_jt:aG H4 jt (some (⟨87,14,[]⟩:Row)) jt=some ⟨87,14,[]⟩:=aA _ _ _;generalize aG H4 jt _=H5 at R_i0 R_a1 R_a2 R_b1 R_b2 R_jt ⊢;refine aL fun jo h_jo=>?_
 have R_i0:=cL h_jo (some (⟨143,16,[]⟩:Row)) _ _ R_i0;have R_a1:=cL h_jo (some (⟨143,16,[]⟩:Row)) _ _ R_a1;have R_a2:=cL h_jo (some (⟨143,16,[]⟩:Row)) _ _ R_a2;have R_b1:=cL h_jo (some (⟨143,16,[]⟩:Row)) _ _ R_b1;have R_b2:=cL h_jo (some (⟨143,16,[]⟩:Row)) _ _ R_b2;have R_jt:=cL h_jo (some (⟨143,16,[]⟩:Row)) _ _ R_jt;have R_jo:aG H5 jo (some (⟨143,16,[]⟩:Row)) jo=some ⟨143,16,[]⟩:=aA _ _ _;generalize aG H5 jo _=H6 at R_i0 R_a1 R_a2 R_b1 R_b2 R_jt R_jo ⊢;refine aL fun jp h_jp=>?_
 have R_i0:=cL h_jp (some (⟨192,2,[]⟩:Row)) _ _ R_i0;have R_a1:=cL h_jp (some (⟨192,2,[]⟩:Row)) _ _ R_a1;have R_a2:=cL h_jp (some (⟨192,2,[]⟩:Row)) _ _ R_a2;have R_b1:=cL h_jp (some (⟨192,2,[]⟩:Row)) _ _ R_b1;have R_b2:=cL h_jp (some (⟨192,2,[]⟩:Row)) _ _ R_b2;have R_jt:=cL h_jp (some (⟨192,2,[]⟩:Row)) _ _ R_jt;have R_jo:=cL h_jp (some (⟨192,2,[]⟩:Row)) _ _ R_jo;have R_jp:aG H6 jp (some (⟨192,2,[]⟩:Row)) jp=some ⟨192,2,[]⟩:=aA _ _ _;generalize aG H6 jp _=H7 at R_i0 R_a1 R_a2 R_b1 R_b2 R_jt R_jo R_jp ⊢;refine aL fun jb h_jb=>?_
 have R_i0:=cL h_jb (some (⟨192,2,[]⟩:Row)) _ _ R_i0;have R_a1:=cL h_jb (some (⟨192,2,[]⟩:Row)) _ _ R_a1;have R_a2:=cL h_jb (some (⟨192,2,[]⟩:Row)) _ _ R_a2;have R_b1:=cL h_jb (some (⟨192,2,[]⟩:Row)) _ _ R_b1;have R_b2:=cL h_jb (some (⟨192,2,[]⟩:Row)) _ _ R_b2;have R_jt:=cL h_jb (some (⟨192,2,[]⟩:Row)) _ _ R_jt;have R_jo:=cL h_jb (some (⟨192,2,[]⟩:Row)) _ _ R_jo;have R_jp:=cL h_jb (some (⟨192,2,[]⟩:Row)) _ _ R_jp;have R_jb:aG H7 jb (some (⟨192,2,[]⟩:Row)) jb=some ⟨192,2,[]⟩:=aA _ _ _;generalize aG H7 jb _=H8 at R_i0 R_a1 R_a2 R_b1 R_b2 R_jt R_jo R_jp R_jb ⊢;refine aL fun j1 h_j1=>?_
 have n01:=aN R_i0 h_j1;have R_i0:=cL h_j1 (some (⟨30,6,[[.sl [],.sl [],.sl [],.sl [],.sl [],.sl []]]⟩:Row)) _ _ R_i0;have R_a1:=cL h_j1 (some (⟨30,6,[[.sl [],.sl [],.sl [],.sl [],.sl [],.sl []]]⟩:Row)) _ _ R_a1;have R_a2:=cL h_j1 (some (⟨30,6,[[.sl [],.sl [],.sl [],.sl [],.sl [],.sl []]]⟩:Row)) _ _ R_a2;have R_b1:=cL h_j1 (some (⟨30,6,[[.sl [],.sl [],.sl [],.sl [],.sl [],.sl []]]⟩:Row)) _ _ R_b1;have R_b2:=cL h_j1 (some (⟨30,6,[[.sl [],.sl [],.sl [],.sl [],.sl [],.sl []]]⟩:Row)) _ _ R_b2;have R_jt:=cL h_j1 (some (⟨30,6,[[.sl [],.sl [],.sl [],.sl [],.sl [],.sl []]]⟩:Row)) _ _ R_jt;have R_jo:=cL h_j1 (some (⟨30,6,[[.sl [],.sl [],.sl [],.sl [],.sl [],.sl []]]⟩:Row)) _ _ R_jo;have R_jp:=cL h_j1 (some (⟨30,6,[[.sl [],.sl [],.sl [],.sl [],.sl [],.sl []]]⟩:Row)) _ _ R_jp;have R_jb:=cL h_j1 (some (⟨30,6,[[.sl [],.sl [],.sl [],.sl [],.sl [],.sl []]]⟩:Row)) _ _ R_jb;have R_j1:aG H8 j1 (some (⟨30,6,[[.sl [],.sl [],.sl [],.sl [],.sl [],.sl []]]⟩:Row)) j1=some ⟨30,6,[[.sl [],.sl [],.sl [],.sl [],.sl [],.sl []]]⟩:=aA _ _ _;generalize aG H8 j1 _=H9 at R_i0 R_a1 R_a2 R_b1 R_b2 R_jt R_jo R_jp R_jb R_j1 ⊢;simp only[go_sem];refine aP R_j1 (by simp) ?_;have S:SmH (aG H9 j1 (some (OL a2 (.os jt) jo jp jb))) i0 j1 a2 jo jp jb (.os jt) (sX 0) (Cg 0):=
   ⟨⟨_,by rw[aC _ _ _ _ n01];exact R_i0⟩,n01,aA _ _ _,by rw[aC _ _ _ _ (dW R_a2 R_j1 rfl)];exact R_a2,by rw[aC _ _ _ _ (dW R_jo R_j1 rfl)];exact R_jo,by rw[aC _ _ _ _ (dW R_jp R_j1 rfl)];exact R_jp,by rw[aC _ _ _ _ (dW R_jb R_j1 rfl)];exact R_jb⟩
 generalize hG:aG H9 j1 _=G;replace S:SmH G i0 j1 a2 jo jp jb (.os jt) (sX 0) (Cg 0):=by rw[←hG];exact S
 clear hG;simp only[go_sem];refine⟨fun ρ H=>∃(k:Nat) (ja:Nat),k≤3∧ρ 0=.op i0 0 0∧ρ 1=.op j1 0 0∧ρ 9=int k∧SmH H i0 j1 ja jo jp jb (.os jt) (sX k) (Cg 0),fun ρ _=>3-bE (ρ 9),⟨0,a2,Nat.zero_le _,by simp only[go_sem],by simp only[go_sem],(by simp only[go_sem];rfl),S⟩,?_⟩;rintro ρ H ⟨k,ja,hk,e0,e1,e9,S⟩;simp only[go_sem,e0,e1,e9];refine aB (fun hlt=>?_) (fun hge=>?_)
 · have hlt:k<3:=by have:=of_decide_eq_true hlt;omega
   have hal:=GC k;have hsu:=DT k;simp only[go_sem,e0,e1,e9];generalize hk0:k=k0 at *;refine⟨fun ρ H=>∃(k:Nat) (ja:Nat),k≤3∧ρ 0=.op i0 0 0∧ρ 1=.op j1 0 0∧ρ 2=int (k0:Nat)∧ρ 9=int (k0:Nat)∧ρ 12=int k∧SmH H i0 j1 ja jo jp jb (.os jt) (sX k0++Eo k0 k) (Cg 0),fun ρ _=>3-bE (ρ 12),⟨0,ja,Nat.zero_le _,by simp only[go_sem,e0,e1,e9],by simp only[go_sem,e0,e1,e9],by simp only[go_sem,e0,e1,e9],by simp only[go_sem,e0,e1,e9],(by simp only[go_sem,e0,e1,e9];rfl),by rw[show sX k0++Eo k0 0=sX k0 from List.append_nil _];exact S⟩,?_⟩;rintro ρ H ⟨k,ja,hk,e0,e1,e2,e9,e12,S⟩;simp only[go_sem,e0,e1,e2,e9,e12];refine aB (fun hlt=>?_) (fun hge=>?_)
   · have hlt2:k<3:=by have:=of_decide_eq_true hlt;omega
     have hsl:=Jn k0 k;have hss:=Qi k0 k;simp only[go_sem,e0,e1,e2,e9,e12];have hbe:(((k0:Nat):Int) != ((k:Nat):Int))=(k0 != k):=by rw[Bool.eq_iff_iff];simp only[bne_iff_ne,ne_eq];omega
     rw[hbe];refine aB (fun hb=>?_) (fun hb=>?_)
     · rw[if_pos hb]at hss
       simp only[go_sem,e0,e1,e2,e9,e12,S.r1];refine aX S.ra ⟨rfl,rfl⟩ (by simp only[go_sem]) (by simp only[List.length_map,List.length_append,List.length_cons,List.length_nil];omega) (fun j2 hj2=>?_);have e:=S.app hj2 (smA k0 k);rw[List.map_append]at e;simp only[go_sem,e0,e1,e2,e9,e12];refine bY aeH ((aC _ _ _ _ (aN S.r1 hj2)).trans ((aC _ _ _ _ (dW S.ra S.r1 rfl).symm).trans S.r1)) (by simp) ?_;simp only[go_sem,e0,e1,e2,e9,e12,bA (show k≤4611686018427387904 by omega)];refine⟨⟨k+1,j2,hlt2,rfl,?_⟩,by simp only[aH];omega⟩;rw[hss,←List.append_assoc];exact e
     · rw[if_neg (fun h=>Bool.noConfusion (hb.symm.trans h))]at hss
       simp only[go_sem,e0,e1,e2,e9,e12,bA (show k≤4611686018427387904 by omega)];exact⟨⟨k+1,ja,hlt2,rfl,by rw[hss];exact S⟩,by simp only[aH];omega⟩
   have hge:k=3:=by have:=of_decide_eq_false hge;omega
   subst hge;simp only[go_sem,e0,e1,e2,e9,e12,bA (show k0≤4611686018427387904 by omega)];exact⟨⟨k0+1,ja,hlt,rfl,by rw[hsu];exact S⟩,by simp only[aH];omega⟩
 have hge:k=3:=by have:=of_decide_eq_false hge;omega
 subst hge;simp only[go_sem,e0,e1,e9];refine bY acE S.r1 (by simp) ?_;have S2:=S.types (.sl [bC smT]);generalize hG:aG H j1 _=G2;replace S2:SmH G2 i0 j1 ja jo jp jb (.sl [bC smT]) (sX 3) (Cg 0):=by rw[←hG];exact S2
 clear hG S;simp only[go_sem,e0,e1,e9];have hnm:AV.sl [[.v (.string ⟨#[111]⟩)],[.v (.string ⟨#[112]⟩)]]=.sl (uF.map Go.Aw.D.fL):=rfl;refine⟨fun ρ H=>∃(k:Nat) (jo:Nat),k≤2∧ρ 0=.op i0 0 0∧ρ 1=.op j1 0 0∧ρ 36=.sl (uF.map Go.Aw.D.fL)∧ρ 37=int (2:Nat)∧ρ 38=int k∧SmH H i0 j1 ja jo jp jb (.sl [bC smT]) (sX 3) (Cg k),fun ρ _=>2-bE (ρ 38),⟨0,jo,Nat.zero_le _,by simp only[go_sem,e0,e1,hnm],by simp only[go_sem,e0,e1,hnm],by simp only[go_sem,e0,e1,hnm],by simp only[go_sem,List.length_map,e0,e1,hnm],(by simp only[go_sem,e0,e1,hnm];rfl),S2⟩,?_⟩;rintro ρ H ⟨k,jo,hk,e0,e1,e36,e37,e38,S⟩;simp only[go_sem,e0,e1,e36,e37,e38];refine aB (fun hlt=>?_) (fun hge=>?_)
 · have hlt:k<2:=by have:=of_decide_eq_true hlt;omega
   obtain⟨nm,hn⟩:=aW (l:=uF) (k:=k) hlt;have b1:=inB (show k<uF.length from hlt);have hso:=P6 k;have hol:=SQ k;have hgn:uF.getD k ByteArray.empty=nm:=by rw[List.getD,hn];rfl
   rw[hgn]at hso;simp only[go_sem,e0,e1,e36,e37,e38,aF hn,b1,S.r1];rw[bA (show k≤4611686018427387904 by omega)];refine aX S.ro ⟨rfl,rfl⟩ (by simp only[go_sem]) (by simp only[List.length_map,hol,List.length_cons,List.length_nil];omega) (fun j2 hj2=>?_);have e:=S.appO hj2 (smO nm k);rw[List.map_append]at e;simp only[go_sem,e0,e1,e36,e37,e38];refine bY aaI ((aC _ _ _ _ (aN S.r1 hj2)).trans ((aC _ _ _ _ (dW S.ro S.r1 rfl).symm).trans S.r1)) (by simp) ?_;simp only[go_sem,e0,e1,e36,e37,e38,bA (show k≤4611686018427387904 by omega)];refine⟨⟨k+1,j2,hlt,rfl,?_⟩,by simp only[aH];omega⟩;rw[hso];exact e
 have hge:k=2:=by have:=of_decide_eq_false hge;omega
 subst hge;obtain⟨cs,r0⟩:=S.r0;simp only[go_sem,e0,e1,e36,e37,e38,S.r1];refine aP r0 (by simp) ?_;have n0:=S.ne;have a0:=dW S.ra r0 rfl;have o0:=dW S.ro r0 rfl;have p0:=dW S.rp r0 rfl;have c0:=dW S.rb r0 rfl;simp only[go_sem,e0,e1,e36,e37,e38];refine .agg _ _ (.cons _ _ _ _ (.refl _) (.cons _ _ _ _ (.row _ _ _ ((aC _ _ _ _ a0).trans S.ra) (ConvE.refl _)) (.cons _ _ _ _ (.refl _) (.cons _ _ _ _ (.row _ _ _ ((aC _ _ _ _ o0).trans S.ro) (ConvE.refl _)) (.cons _ _ _ _ (.row _ _ _ ((aC _ _ _ _ p0).trans S.rp) (ConvE.refl _)) (.cons _ _ _ _ (.row _ _ _ ((aC _ _ _ _ c0).trans S.rb) (ConvE.refl _)) .nil))))))
theorem Lv:XB 1 smX where
 net:=⟨by decide +kernel,by decide +kernel,by decide +kernel⟩
 dim:=by decide +kernel
 cap:=by decide +kernel
 D:=by decide
 n:=by decide
 types:=by decide
def smD:List ByteArray:=[⟨#[50,53,49,54,53,56,50,52,48]⟩,⟨#[54,55,49,48,56,56,54,52]⟩]
theorem Tv:EM smX 1=([1,2],0):=by decide +kernel
theorem UN:EM smX 2=([3,3],0):=by decide +kernel
theorem To:EM smX 0=([],2):=by decide +kernel
theorem Us:yE smX 0 smD [1,2]=(⟨#[56,51,56,56,54,48,56,48]⟩,true,0):=by decide +kernel
theorem Ps:yE smX 0 [⟨#[49]⟩,⟨#[120]⟩] [1,2]=(emp,false,3):=by decide +kernel
theorem Qd:uS smX 0 [1,2]=(4,0):=by decide +kernel
theorem Xs:sG [1,2] 1 1=2:=by decide +kernel
theorem Vj:sG [3,3] 1 1=3:=by decide +kernel
theorem Dx:PC Tryz.prog 10 [] (boo true):=by
 have hn1:=GH smX 1 (by decide) (by decide);have hn2:=GH smX 2 (by decide) (by decide);have hn0:=GH smX 0 (by decide) (by decide);rw[Tv]at hn1;rw[UN]at hn2;rw[To]at hn0;have hb1:=NP smX Lv (by decide) 0 smD [1,2] (by decide) (by decide) (by decide);rw[Us]at hb1;have hb2:=NP smX Lv (by decide) 0 [⟨#[49]⟩,⟨#[120]⟩] [1,2] (by decide) (by decide) (by decide);rw[Ps]at hb2;have hr:=IZ smX Lv 0 [1,2] (by decide);rw[Qd]at hr;have hm1:=DQ [1,2] 1 1 (by decide) ⟨by decide,by decide⟩ (by decide);rw[Xs]at hm1;have hm2:=DQ [3,3] 1 1 (by decide) ⟨by decide,by decide⟩ (by decide);rw[Vj]at hm2;refine PC.body (c:=Tryz.f10.body.getD .skip) (fun _=>false) mixed Tryz.func10 rfl (by kernel_rfl) ?_;unfold Tryz.f10;simp only[Option.getD_some];simp only[go_sem];refine PC.use Tt ?_;simp only[go_sem];refine aL fun i1 hi10=>?_
 simp only[go_sem];refine aP (aA _ _ _) (by simp[uW]) ?_;generalize hGi1:aG (aG _ i1 _) i1 _=HGi1;have R1:HGi1 i1=some ((⟨30,6,[aS smX]⟩:Row)):=by rw[←hGi1,aA];try rfl
 clear hGi1 hi10;simp only[go_sem,R1];have hi1:=T3 [1,2] [1,2] (by decide);have hi2:=T3 [3,3] [3,3] (by decide);refine PC.use hn1 ?_;simp only[go_sem,R1];refine PC.use hn2 ?_;simp only[go_sem,R1];refine⟨_,fun _=>PC.q hi1 rfl,?_⟩;simp only[go_sem,R1];refine⟨_,fun _=>PC.q hi2 rfl,?_⟩;simp only[go_sem,R1];refine aB (fun hb=>nomatch hb) (fun _=>?_);simp only[go_sem,R1];refine PC.use hb1 ?_;simp only[go_sem,R1];refine PC.use hr ?_;simp only[go_sem,R1];refine PC.use hb2 ?_;simp only[go_sem,R1];refine PC.use hn0 ?_;simp only[go_sem,R1];refine⟨_,fun _=>PC.q hm1 rfl,?_⟩;simp only[go_sem,R1];refine⟨_,fun _=>PC.q hm2 rfl,?_⟩;simp only[go_sem,R1];exact .refl _
end Go.Proofs.YtdlijlecpopadaaGreatDoor.Rx
end

section
set_option linter.unusedSimpArgs false
set_option linter.unusedVariables false
namespace Go.Proofs.YtdlijlecpopadaaGreatDoor
open Go.Aw Go.Aw.D Go.Proofs Ty
set_option maxRecDepth 100000
theorem fG{α:Type}{b:Bool}{f:α}(h:opt b f=[]):b=false:=by cases b <;> simp[opt]at h ⊢
theorem jR{n a b:Int}:inR n a b=true↔a≤n∧n≤b:=by
 unfold inR;simp only[Bool.and_eq_true,decide_eq_true_eq]
theorem nP{b:Bool}(h:(!b)=false):b=true:=by simpa using h
structure TypeB(t:VType)(d:Int):Prop where
 cap:wE t.cap d=true
 skills:0≤t.skills∧t.skills≤1073741823
 start:0≤t.start∧t.start≤t.close
 close:t.close≤4096
 drive:1≤t.drive∧t.drive≤4096
 rest:0≤t.rest∧t.rest≤4096
 count:0≤t.count∧t.count≤10
theorem SE{n:Network}{l:List VType}{k:Nat}{t:VType}(h:lE n l k t=[]):TypeB t (lY l):=by
 unfold lE at h;simp only[List.nil_append,List.append_eq_nil_iff]at h;obtain⟨⟨⟨⟨⟨⟨⟨⟨_,_⟩,h3⟩,_⟩,h5⟩,h6⟩,h7⟩,h8⟩,h9⟩:=h;have e3:=jR.1 (nP (fG h3));have e5:=nP (fG h5);have e6:=jR.1 (nP (fG h6));have e7:=Bool.or_eq_false_iff.1 (fG h7);have e8:=Bool.or_eq_false_iff.1 (fG h8);have q7:=jR.1 (nP e7.1);have q72:¬t.close>4096:=by simpa using e7.2
 exact⟨e5,e6,q7,by omega,jR.1 (nP e8.1),jR.1 (nP e8.2),e3⟩
structure OrdB(o:Order)(d:Int):Prop where
 load:dU o.load d=true
 pick: -1≤o.pick.place
 drop: -1≤o.drop.place
 both:(o.pick.place == -1&&o.drop.place == -1)=false
 wpick:eY o.pick=0
 wdrop:eY o.drop=0
 skills:0≤o.skills∧o.skills≤1073741823
 penalty: -1≤o.penalty∧o.penalty≤1000000
theorem XM{P:Nat}{d T:Int}{l:List Order}{k:Nat}{o:Order}(h:jU P d T l k o=[]):OrdB o d:=by
 unfold jU at h;simp only[List.nil_append,List.append_eq_nil_iff]at h;obtain⟨⟨⟨⟨⟨⟨⟨_,_⟩,h3⟩,h4⟩,h5⟩,h6⟩,h7⟩,h8⟩:=h;have e4:=Bool.or_eq_false_iff.1 (fG h4);have e6:=Bool.or_eq_false_iff.1 (fG h6);have e8:=fG h8;simp only[Bool.or_eq_false_iff]at e8;refine⟨nP (fG h3),(jR.1 (nP e4.1)).1,(jR.1 (nP e4.2)).1,fG h5,by simpa using e6.1,by simpa using e6.2,jR.1 (nP (fG h7)),jR.1 (nP e8.1.1.1.1.1.1)⟩
structure ArcOk(a:Arc):Prop where
 travel:iA a.travel=[]
 slow:a.slow.length≤16
 pt:∀p∈a.slow,(0≤p.t∧p.t≤4096)∧0≤p.a∧p.a≤4096
theorem Vh{n:Network}{k:Nat}{a:Arc}(ha:n.arcs[k]?=some a)(h:Cd n k=[]):ArcOk a:=by
 unfold Cd at h;rw[mR ha]at h;simp only[List.nil_append,List.append_eq_nil_iff,List.map_eq_nil_iff]at h;obtain⟨⟨⟨_,h4⟩,h5⟩,h6⟩:=h;have e5:¬(a.slow.length:Int)>16:=by simpa using fG h5
 refine⟨h4,by omega,fun p hp=>?_⟩;obtain⟨i,hi,rfl⟩:=List.getElem_of_mem hp;have:=List.flatMap_eq_nil_iff.1 h6 i (List.mem_range.2 hi);have hb:=fG this;unfold nE at hb;rw[cT (List.getElem?_eq_getElem hi)]at hb;simp only[Bool.or_eq_false_iff]at hb;exact⟨jR.1 (nP hb.1.1),jR.1 (nP hb.1.2)⟩
structure PairB(N:Int)(q:Pair):Prop where
 a:0≤q.a∧q.a<N
 b:0≤q.b∧q.b<N
 ne:q.a≠q.b
theorem Kg{N:Int}{l:List Pair}{w:ByteArray}{s:Bool}(h:rT N l w s=[]):l.length≤16∧∀q∈l,PairB N q:=by
 unfold rT at h;rw[List.append_eq_nil_iff]at h;have e1:¬(l.length:Int)>16:=by simpa using fG h.1
 refine⟨by omega,fun q hq=>?_⟩;obtain⟨i,hi,rfl⟩:=List.getElem_of_mem hq;have:=List.flatMap_eq_nil_iff.1 h.2 i (List.mem_range.2 hi);unfold gC at this;have ep:pAt l i=l[i]:=by simp[pAt,List.getD,hi]
 rw[ep]at this;split at this
 · simp at this
 · rename_i hb
   unfold Go.Proofs.YtdlijlecpopadaaGreatDoor.zJ at hb;simp only[Bool.or_eq_false_iff,decide_eq_false_iff_not]at hb;exact⟨by omega,by omega,by simpa using hb.2⟩
structure Acc(x:Instance):Prop where
 arcs:x.net.arcs.length≤1024
 arc:∀a∈x.net.arcs,ArcOk a
 types:1≤x.types.length∧x.types.length≤6
 type:∀t∈x.types,TypeB t (lY x.types)
 orders:x.orders.length≤10
 order:∀o∈x.orders,OrdB o (lY x.types)
 apart:x.apart.length≤16
 apartB:∀q∈x.apart,PairB x.orders.length q
 before:x.before.length≤16
 beforeB:∀q∈x.before,PairB x.orders.length q
theorem Ue{x:Instance}(h:lQ x=[]):Acc x:=by
 unfold lQ at h;simp only[List.append_eq_nil_iff,List.map_eq_nil_iff]at h;obtain⟨⟨⟨hn,ht⟩,ho⟩,hr⟩:=h;unfold DR at hn;simp only[List.append_eq_nil_iff]at hn;unfold pZ at ht;rw[List.append_eq_nil_iff]at ht;unfold oJ at ho;rw[List.append_eq_nil_iff]at ho;unfold A3 at hr;rw[List.append_eq_nil_iff]at hr;obtain⟨r1,r2⟩:=Kg hr.1;obtain⟨r3,r4⟩:=Kg hr.2;have e1:¬(x.net.arcs.length:Int)>1024:=by simpa using fG hn.1.2
 have e2:=jR.1 (nP (fG ht.1));have e3:¬(x.orders.length:Int)>10:=by simpa using fG ho.1
 refine⟨by omega,fun a ha=>?_,by omega,fun t htm=>?_,by omega,fun o hom=>?_,r1,r2,r3,r4⟩
 · obtain⟨i,hi,rfl⟩:=List.getElem_of_mem ha
   exact Vh (List.getElem?_eq_getElem hi) (List.flatMap_eq_nil_iff.1 hn.2 i (List.mem_range.2 hi))
 · obtain⟨i,hi,rfl⟩:=List.getElem_of_mem htm
   have:=List.flatMap_eq_nil_iff.1 ht.2 i (List.mem_range.2 hi);unfold gX at this;rw[List.map_eq_nil_iff,C6 (List.getElem?_eq_getElem hi)]at this;exact SE this
 · obtain⟨i,hi,rfl⟩:=List.getElem_of_mem hom
   have:=List.flatMap_eq_nil_iff.1 ho.2 i (List.mem_range.2 hi);unfold fW at this;rw[List.map_eq_nil_iff,Df (List.getElem?_eq_getElem hi)]at this;exact XM this
theorem CK{l:List Int}{d:Int}(h:dU l d=true):(l.length:Int)=d∧∀n∈l,0≤n∧n≤1000:=by
 unfold dU at h;split at h
 · rename_i hd
   refine⟨hd,fun n hn=>?_⟩;have:=List.all_eq_true.1 h n hn;simp only[Bool.not_eq_true',Bool.or_eq_false_iff,decide_eq_false_iff_not]at this;omega
 · cases h
theorem Kz{l:List Int}{d:Int}(h:wE l d=true):(l.length:Int)=d∧1≤d∧d≤3:=by
 unfold wE at h;split at h
 · cases h
 · rename_i hb
   simp only[Bool.not_eq_true,Bool.or_eq_false_iff]at hb;have h1:=jR.1 (nP hb.1);have h2:(l.length:Int)=d:=by simpa[bne]using hb.2
   omega
end Go.Proofs.YtdlijlecpopadaaGreatDoor
end

section
set_option linter.unusedSimpArgs false
set_option linter.unusedVariables false
namespace Go.Proofs.YtdlijlecpopadaaGreatDoor.Rx
open Go.Aw Go.Aw.D Go.Proofs Ty Go.Nu Go.So
open Sq (W jW eM kE NetOk)
set_option maxRecDepth 100000
theorem Rh{x:Instance}{o:Nat}{d:Bool}(ho:o<x.orders.length)(h:(Sq.oY (aJ x o) ⟨(o:Nat),d⟩).place≥0):eM x ⟨(o:Nat),d⟩=(Sq.oY (aJ x o) ⟨(o:Nat),d⟩,0):=by
 have hb:pH ((o:Nat):Int) x.orders.length=false:=by unfold pH;simp;omega
 have hs:Sq.yR x ⟨(o:Nat),d⟩=(Sq.oY (aJ x o) ⟨(o:Nat),d⟩,decide ((Sq.oY (aJ x o) ⟨(o:Nat),d⟩).place≥0)):=by
   unfold Sq.yR;rw[if_neg (by rw[hb];simp)];show(match x.orders[(((o:Nat):Int)).toNat]? with|some o_1=>_|none=>_)=_;rw[Int.toNat_natCast,iV ho]
 unfold eM;rw[hs];show(if decide ((Sq.oY (aJ x o) ⟨(o:Nat),d⟩).place≥0)=true then _ else _)=_;rw[if_pos (decide_eq_true h)]
theorem Oy{x:Instance}{o:Nat}(ho:o<x.orders.length):jW x.orders (o:Nat)=Sq.dX (aJ x o) (o:Nat):=by
 have hb:pH ((o:Nat):Int) x.orders.length=false:=by unfold pH;simp;omega
 unfold jW;rw[if_neg (by rw[hb];simp)];show(match x.orders[(((o:Nat):Int)).toNat]? with|some o_1=>_|none=>_)=_;rw[Int.toNat_natCast,iV ho]
structure MinOf(b:Int)(M:Arc→Prop)(l:List Arc)(r:Int):Prop where
 le:r≤b
 lb:∀c∈l,M c→r≤c.miles
 at':r=b∨∃c∈l,M c∧r=c.miles
theorem qE(s i:Nat):jX s i=s.testBit i:=by
 unfold jX;rw[Nat.testBit_eq_decide_div_mod_eq,Bool.eq_iff_iff];simp
theorem Cp{x s:Nat}(h:x.testBit s=false):x+2^s=x ||| 2^s:=by
 have hd:x=2^(s+1)*(x/2^(s+1))+x%2^(s+1):=(Nat.div_add_mod x (2^(s+1))).symm;have hb:x%2^(s+1)<2^s:=by
   have h1:x/2^s%2=0:=by
     rw[Nat.testBit_eq_decide_div_mod_eq]at h;have:=of_decide_eq_false h;omega
   rw[Nat.mod_pow_succ,h1,Nat.mul_zero,Nat.add_zero];exact Nat.mod_lt x (Nat.two_pow_pos s)
 generalize x%2^(s+1)=b at *;generalize x/2^(s+1)=a at *;apply Nat.eq_of_testBit_eq;intro j;have h2:2^s+b<2^(s+1):=by rw[Nat.pow_succ];omega
 have hb2:b<2^(s+1):=by omega
 have e1:x+2^s=2^(s+1)*a+(2^s+b):=by omega
 rw[e1,Nat.testBit_two_pow_mul_add a h2 j,Nat.testBit_or,hd,Nat.testBit_two_pow_mul_add a hb2 j];by_cases hj:j<s+1
 · rw[if_pos hj,if_pos hj]
   by_cases e:j=s
   · subst e
     rw[Nat.testBit_two_pow_add_eq,Nat.testBit_two_pow_self,Nat.testBit_lt_two_pow hb];rfl
   · rw[Nat.testBit_two_pow_add_gt (by omega),Nat.testBit_two_pow_of_ne (by omega),Bool.or_false]
 · rw[if_neg hj,if_neg hj,Nat.testBit_two_pow_of_ne (by omega),Bool.or_false]
theorem Fs(near:List Int)(m o:Nat):∀k b,(pD near m o k).testBit b=(decide (b<k)&&(b == o||(jX m b&&jX (near.getD o 0).toNat b)))
 | 0,b=>by
   show(0:Nat).testBit b=_;simp
 | k+1,b=>by
   have ih:=Fs near m o k;have hlt:=wF near m o k;rw[yP];unfold M3;have hk:(pD near m o k).testBit k=false:=Nat.testBit_lt_two_pow hlt;by_cases hc:(k == o||(jX m k&&jX (near.getD o 0).toNat k))=true
   · rw[if_pos hc,Cp hk,Nat.testBit_or,ih]
     by_cases e:b=k
     · subst e
       rw[Nat.testBit_two_pow_self,hc];simp
     · rw[Nat.testBit_two_pow_of_ne (fun h=>e h.symm),Bool.or_false]
       congr 1
       rw[Bool.eq_iff_iff];simp;omega
   · rw[if_neg hc,ih]
     by_cases e:b=k
     · subst e
       rw[Bool.not_eq_true]at hc;rw[hc];simp
     · congr 1
       rw[Bool.eq_iff_iff];simp;omega
theorem Ur{near:List Int}{m o:Nat}(ho:o<near.length)(hm:m<2^near.length):sG near m o=pD near m o near.length:=by
 unfold sG;apply Nat.eq_of_testBit_eq;intro b;rw[Fs,Nat.testBit_or,Nat.testBit_and,qE,qE];have h2:(2^o).testBit b=(b == o):=by
   by_cases e:o=b
   · rw[e,Nat.testBit_two_pow_self];simp
   · rw[Nat.testBit_two_pow_of_ne e,Bool.eq_iff_iff];simp;omega
 rw[h2];by_cases hb:b<near.length
 · rw[decide_eq_true hb,Bool.true_and,Bool.or_comm]
 · rw[decide_eq_false hb,Bool.false_and,Nat.testBit_lt_two_pow (Nat.lt_of_lt_of_le hm (Nat.pow_le_pow_right (by decide) (by omega))),Bool.false_and,Bool.false_or,Bool.eq_false_iff]
   simp;omega
theorem UL{x:Instance}(h:lQ x=[]):∀c∈x.net.arcs,0≤c.miles∧c.miles≤10000:=by
 unfold lQ at h;simp only[List.append_eq_nil_iff,List.map_eq_nil_iff]at h;obtain⟨⟨⟨hn,_⟩,_⟩,_⟩:=h;unfold DR at hn;simp only[List.append_eq_nil_iff]at hn;intro c hc;obtain⟨i,hi,rfl⟩:=List.getElem_of_mem hc;have h2:=List.flatMap_eq_nil_iff.1 hn.2 i (List.mem_range.2 hi);unfold Cd at h2;rw[mR (List.getElem?_eq_getElem hi)]at h2;simp only[List.nil_append,List.append_eq_nil_iff]at h2;have h3:=fG h2.1.1.1.1.2;unfold vK at h3;simp only[Bool.or_eq_false_iff,decide_eq_false_iff_not]at h3;omega
end Go.Proofs.YtdlijlecpopadaaGreatDoor.Rx
end

section
set_option linter.unusedSimpArgs false
set_option linter.unusedVariables false
namespace Go.Proofs.YtdlijlecpopadaaGreatDoor.Rx
open Go.Aw Go.Aw.D Go.Proofs Ty Go.Nu Go.So
open Sq (W jW eM kE NetOk dP jM)
open Nu (ltB geB Bt vI lC vM)
open Mv (fZ fA kI NC.pc bR)
set_option maxRecDepth 100000
abbrev Of(l:List Visit):Row:=⟨97,2,l.map bS⟩
theorem DF(x:Instance)(i:Nat)(hi:i<x.orders.length)(hx:x.orders.length≤1048576):PC Tryz.prog 107 [.sl (x.orders.map aV),int (i:Nat)] (.sl ((Sq.dX (aJ x i) (i:Nat)).map bS)):=by
 have b1:=inB hi;have g1:=aF (f:=aV) (iV hi);generalize aJ x i=O at *;refine PC.body (c:=Tryz.f107.body.getD .skip) (fun t=>t == 5) mixed Tryz.func107 rfl (by kernel_rfl) ?_;unfold Tryz.f107;simp only[Option.getD_some];simp only[go_sem];refine aL fun j hj0=>?_
 generalize hGj:aG _ j _=HGj;have R:HGj j=some (Of []):=by rw[←hGj,aA];try rfl
 clear hGj hj0;simp only[go_sem,R];have hin:inR (i:Nat) 0 (IntKind.i64.wrap ((x.orders.length:Int)-1))=true:=by
   rw[aQ (by omega)];unfold inR;simp;omega
 refine PC.use (AJ _ _ _) ?_;rw[hin];simp only[go_sem];refine aB (fun hb=>absurd hb (by simp)) (fun _=>?_);simp only[go_sem,g1,b1];unfold Sq.dX;refine aU (fun ρ' H'=>∃(j:Nat),ρ' 0=.sl (x.orders.map aV)∧ρ' 1=int (i:Nat)∧ρ' 5=.os j∧H' j=some (Of (if decide (O.pick.place≥0)=true then[⟨(i:Nat),false⟩]else[]))) ?_ fun K hK=>aB (fun hb=>?_) (fun hb=>?_)
 rotate_left
 · rw[if_pos hb]at hK
   simp only[go_sem];refine aX R ⟨rfl,rfl⟩ (by simp only[go_sem]) (by simp) (fun j2 hj2=>?_);simp only[go_sem];refine hK _ _ ⟨j2,by simp only[go_sem],by simp only[go_sem],by simp only[go_sem],(aA _ _ _).trans rfl⟩
 · rw[if_neg (fun h=>Bool.noConfusion (hb.symm.trans h))]at hK
   refine hK _ _ ⟨j,by simp only[go_sem],by simp only[go_sem],by simp only[go_sem],R⟩
 rintro ρ H ⟨j,e0,e1,e5,R⟩;have hl:(if decide (O.pick.place≥0)=true then[(⟨(i:Nat),false⟩:Visit)]else[]).length≤1:=by split <;> simp
 generalize (if decide (O.pick.place≥0)=true then[(⟨(i:Nat),false⟩:Visit)]else[])=L at *;simp only[go_sem,e0,e1,e5,g1,b1];refine aB (fun hb=>?_) (fun hb=>?_)
 · rw[if_pos hb]
   simp only[go_sem,e0,e1,e5];refine aX R ⟨rfl,rfl⟩ (by simp only[go_sem]) (by simp only[List.length_map,List.length_cons,List.length_nil];omega) (fun j2 hj2=>?_);simp only[go_sem,e0,e1,e5];refine .row _ _ _ (aA _ _ _) ?_;show ConvE _ (L.map bS++[bS (⟨(i:Nat),true⟩:Visit)]) ((L++[(⟨(i:Nat),true⟩:Visit)]).map bS);rw[List.map_append];exact ConvE.refl _
 · rw[if_neg (fun h=>Bool.noConfusion (hb.symm.trans h)),List.append_nil]
   simp only[go_sem,e0,e1,e5];exact .row _ _ _ R (ConvE.refl _)
def Cf(rec:Rs→RP→Rs)(p:RP)(a:Rs)(v:Visit):Rs:=if(fX a p v.order.toNat v.drop).2=true then rec a (fX a p v.order.toNat v.drop).1 else a
def DG(rec:Rs→RP→Rs)(p:RP)(a:Rs)(i:Nat):Rs:=
 if((aJ a.x i).off|| !jM a.t.skills (aJ a.x i).skills)=true then a else(Sq.dX (aJ a.x i) (i:Nat)).foldl (Cf rec p) a
def Jg(rec:Rs→RP→Rs)(s:Rs)(p:RP):Rs:=
 if(((p.visits:Int) == (s.most:Int))||(s.limited&&decide ((vY s p).count>8192)))=true then vY s p
 else(List.range s.x.orders.length).foldl (DG rec p) (vY s p)
def EA:Nat→Rs→RP→Rs
 | 0=>Jg fun a _=>a
 | f+1=>Jg (EA f)
structure Same(w a:Rs):Prop where
 ex:∃c f l,a={ w with count:=c,found:=f,least:=l }
 sz:a.least.size≤1048576
theorem Same.refl{w:Rs}(h:w.least.size≤1048576):Same w w:=⟨⟨w.count,w.found,w.least,rfl⟩,h⟩
theorem Same.trans{w a b:Rs}(h:Same w a)(h2:Same a b):Same w b:=by
 obtain⟨c,f,l,rfl⟩:=h.ex;obtain⟨c2,f2,l2,rfl⟩:=h2.ex;exact⟨⟨c2,f2,l2,rfl⟩,h2.sz⟩
theorem Same.ok{w a:Rs}(h:Same w a)(hw:RsOk w):RsOk a:=by
 obtain⟨c,f,l,rfl⟩:=h.ex;exact⟨hw.net,hw.near,hw.len,hw.dlen,hw.dual⟩
theorem CE(w:Rs)(p:RP)(h:w.least.size≤1048576):Same w (vY w p):=by
 unfold vY;split
 · exact .refl h
 · simp only
   split
   · exact .refl h
   · have:=Hk (zed (rY w.t p (Ia (fU w.x.net w.t p.place w.t.dst w.t.close p.moms).1) (fU w.x.net w.t p.place w.t.dst w.t.close p.moms).2)) p.dual
     generalize pQ _ p.dual=S at this ⊢;unfold Hn;split
     · exact⟨⟨_,_,_,rfl⟩,by show S.1.size≤_;omega⟩
     · exact⟨⟨_,_,_,rfl⟩,h⟩
theorem wR{α:Type}{g:Rs→α→Rs}(hg:∀a v,a.least.size≤1048576→Same a (g a v)):∀(l:List α) (a:Rs),a.least.size≤1048576→Same a (l.foldl g a)
 | [],a,h=>.refl h
 | v::l,a,h=>by
   have h1:=hg a v h;exact h1.trans (wR hg l (g a v) h1.sz)
theorem EN{rec:Rs→RP→Rs}(hr:∀a p,a.least.size≤1048576→Same a (rec a p))(w:Rs)(p:RP)(h:w.least.size≤1048576):Same w (Jg rec w p):=by
 have h1:=CE w p h;unfold Jg;split
 · exact h1
 · refine h1.trans (wR (fun a i ha=>?_) _ _ h1.sz)
   unfold DG;split
   · exact .refl ha
   · refine wR (fun b v hb=>?_) _ _ ha
     unfold Cf;split
     · exact hr _ _ hb
     · exact .refl hb
theorem FE:∀(f:Nat) (w:Rs) (p:RP),w.least.size≤1048576→Same w (EA f w p)
 | 0,w,p,h=>EN (fun a _ ha=>.refl ha) w p h
 | f+1,w,p,h=>EN (fun a p ha=>FE f a p ha) w p h
structure RInv(n D:Nat)(p:RP):Prop where
 mem:p.memory<2^60
 board:p.board<2^n
 load:p.load.length=D
 moms:p.moms.length≤2^(p.visits+1)
 dual:p.dual.size≤8194
structure RsB(D:Nat)(w:Rs):Prop where
 ok:RsOk w
 dim:∀o,o<w.x.orders.length→(aJ w.x o).load.length=D
 cap:w.t.cap.length=D
 D:D≤1048576
 n:w.x.orders.length≤60
 most:w.most≤16
theorem Same.b{D:Nat}{w a:Rs}(h:Same w a)(hw:RsB D w):RsB D a:=by
 have ho:=h.ok hw.ok;obtain⟨c,f,l,rfl⟩:=h.ex;exact⟨ho,hw.dim,hw.cap,hw.D,hw.n,hw.most⟩
theorem Pe{b o n:Nat}(hb:b<2^n)(ho:o<n)(h:jX b o=false):b+2^o<2^n:=by
 rw[Cp (by rw[←qE];exact h)];exact Nat.or_lt_two_pow hb (Nat.pow_lt_pow_right (by omega) ho)
theorem PO{D : Nat}{w : Rs}{p : RP}{o : Nat}{d : Bool}(hw : RsB D w)(h : RInv w.x.orders.length D p)(ho : o < w.x.orders.length)(ht : (fX w p o d).2 = true):
   RInv w.x.orders.length D (fX w p o d).1∧(fX w p o d).1.visits=p.visits+1:=by
 unfold fX at ht ⊢;split at ht
 · cases ht
 next hsh=>
 rw[if_neg hsh];simp only at ht ⊢;split at ht
 · cases ht
 next hz=>
 rw[if_neg hz];split at ht
 next hf=>
   rw[if_pos hf];have hdim:=hw.dim o ho;have hl:(fN p (aJ w.x o) d).length=D:=by
     have hc:∀s,(dQ p.load (aJ w.x o).load s).length=D:=fun s=>by unfold dQ;rw[List.length_zipWith,h.load,hdim];omega
     unfold fN;split
     · exact hc 1
     · split
       · exact hc (-1)
       · exact h.load
   have hal:=AA w.x.net w.t p.place (stR (aJ w.x o) d).place (stR (aJ w.x o) d).close p.moms p.moms.length;rw[List.take_length]at hal;have hm:(cN w.t (kD (stR (aJ w.x o) d) (fU w.x.net w.t p.place (stR (aJ w.x o) d).place (stR (aJ w.x o) d).close p.moms).1)).length≤2^(p.visits+1+1):=by
     rw[yC];unfold kD;rw[List.length_map];have h1:=h.moms;have h2:2^(p.visits+1+1)=2*2^(p.visits+1):=by rw[Nat.pow_succ];omega
     have h3:(fU w.x.net w.t p.place (stR (aJ w.x o) d).place (stR (aJ w.x o) d).close p.moms).1.length≤p.moms.length:=hal;omega
   have hbg:(pA w { p with load:=fN p (aJ w.x o) d } o).memory<2^60:=by
     show pD w.near p.memory o w.near.length<2^60;have h1:=wF w.near p.memory o w.near.length;refine Nat.lt_of_lt_of_le h1 (Nat.pow_le_pow_right (by omega) ?_);rw[hw.ok.len];exact hw.n
   have hbd:(pA w { p with load:=fN p (aJ w.x o) d } o).dual.size≤8194:=Nz _ _;have hv:(gU w { p with load:=fN p (aJ w.x o) d } o d).visits=p.visits:=by
     unfold gU;split
     · split <;> rfl
     · rfl
   have hO:(gU w { p with load:=fN p (aJ w.x o) d } o d).memory<2^60∧(gU w { p with load:=fN p (aJ w.x o) d } o d).board<2^w.x.orders.length∧(gU w { p with load:=fN p (aJ w.x o) d } o d).load.length=D∧(gU w { p with load:=fN p (aJ w.x o) d } o d).dual.size≤8194:=by
     unfold gU;split
     next hst=>
       have hnb:jX p.board o=false:=by
         unfold pI at hsh;rw[hst]at hsh;cases e:jX p.board o with
         | false=>rfl
         | true=>rw[e]at hsh;simp at hsh
       split
       · exact⟨hbg,Pe h.board ho hnb,hl,hbd⟩
       · exact⟨hbg,h.board,hl,hbd⟩
     · exact⟨h.mem,Nat.lt_of_le_of_lt (Nat.sub_le _ _) h.board,hl,h.dual⟩
   obtain⟨o1,o2,o3,o4⟩:=hO;refine⟨⟨o1,o2,o3,?_,o4⟩,?_⟩
   · show _≤2^((gU w { p with load:=fN p (aJ w.x o) d } o d).visits+1+1)
     rw[hv];exact hm
   · show(gU w { p with load:=fN p (aJ w.x o) d } o d).visits+1=_
     rw[hv]
 · cases ht
end Go.Proofs.YtdlijlecpopadaaGreatDoor.Rx
end
