/- Texts joined by a program: RxI, RxJ. -/
import Derived.Test.YtdlijlecpopadaaGreatDoorZy13
import Derived.Test.YtdlijlecpopadaaGreatDoorZy30

section
set_option linter.unusedSimpArgs false
set_option linter.unusedVariables false
namespace Go.Proofs.YtdlijlecpopadaaGreatDoor.Rx
open Go.Aw Go.Aw.D Go.Proofs Ty Go.Nu Go.So
open Nu (ltB geB)
set_option maxRecDepth 100000
abbrev kK(l:List Int):Row:=⟨3,1,l.map aO⟩
theorem CY(x:Int):(aO x).length=1:=(rfl)
theorem BP(x:Int):(aO x).drop 1=[]:=(rfl)
theorem Ok{α:Type}{l:List α}{k:Nat}{x:α}(h:l[k]?=some x):l.drop k=x::l.drop (k+1):=by
 obtain⟨hlt,rfl⟩:=List.getElem?_eq_some_iff.1 h;rw[List.getElem_cons_drop]
theorem ZH{α:Type}(l:List α):(tag l).Pairwise fun p q=>p.2<q.2:=by
 rw[List.pairwise_iff_getElem];intro i k hi hk hik;rw[GV (List.getElem?_eq_getElem hi),GV (List.getElem?_eq_getElem hk)];exact hik
theorem DZ(H:aE)(j:Nat)(a b:Option Row):aG (aG H j a) j b=aG H j b:=by
 funext k;unfold aG;split <;> rfl
theorem mN{H:aE}{j:Nat}{r:Row}(h:H j=some r):aG H j (some r)=H:=by
 funext k;unfold aG;split
 · next e=>rw[e,h]
 · rfl
theorem WF{L : List Int}{a b j : Nat}{x y : Int}{H0 H : aE}(hx : L[a]? = some x)(hy : L[b]? = some y)(hne : a ≠ b)(hH : H = aG H0 j (some (kK L))):
   aG (aG H j (some (⟨3,1,(L.map aO).set a (aO y)⟩:Row))) j (some (⟨3,1,((L.map aO).set a (aO y)).set b (aO x++List.drop 1 (((L.map aO).set a (aO y)).getD b []))⟩:Row))=aG H0 j (some (kK (swp L a b))):=by
 have hg:((L.map aO).set a (aO y)).getD b []=aO y:=by
   rw[List.getD,List.getElem?_set_ne hne,List.getElem?_map,hy];rfl
 rw[hH,DZ,DZ,hg,BP,List.append_nil];unfold swp kK;simp only[hx,hy,List.map_set]
abbrev TB:=Int×Nat
def fs(L:List TB):List Int:=L.map Prod.fst
theorem Q0(a:List TB):(fs a).length=a.length:=List.length_map _
theorem GF{L:List TB}{k:Nat}{x:TB}(h:L[k]?=some x):(fs L)[k]?=some x.1:=by unfold fs;rw[List.getElem?_map,h];rfl
structure CmpOk(gf:Nat)(cap':List AV)(lt:Int→Int→Bool)(ok:Int→Prop):Prop where
 call:aD Tryz.prog gf=true
 cmp:∀x y,ok x→ok y→∃n:Int,decide (n<0)=lt x y∧PC Tryz.prog gf (int x::int y::cap') (int n)
theorem Lj{l:List Nat}{H Hr Hm:aE}(h1:∀k,k∈l→Hm k=H k)(h2:∀k,k∉l→Hm k=Hr k)(h3:∀k,k∉l→Hr k=H k):Hm=H:=funext fun k=>by
 by_cases h:k∈l
 · exact h1 k h
 · rw[h2 k h,h3 k h]
theorem IS{gf : Nat}{cx : AV}{jc : Nat}{rc : Row}{cap' : List AV}{lt : Int → Int → Bool}{ok : Int → Prop}(hs : SWO lt)(hc : CmpOk gf cap' lt ok)(hcv : ∀ H : aE, H jc = some rc → ConvL H [cx, .op jc 0 0] cap')(P X S : List TB)(a b j : Nat)(H0 : aE)(K : AV → aE → Prop)(ha : a = P.length)(hb : b = a + X.length)
   (hrk:X.Pairwise fun p q=>p.2<q.2) (hok:∀x∈X,ok x.1) (hl:(P++X++S).length≤1048576) (hj:H0 j=some (kK (fs (P++X++S)))) (hjc:H0 jc=some rc) (hne:jc≠j)
   (hK:∀M:List TB,M.Perm X→M.Pairwise (tlt lt)→∀r,K r (aG H0 j (some (kK (fs (P++M++S)))))):bH Tryz.prog 139 [.os j,int a,int b,(.fn gf [cx,.op jc 0 0])] H0 K:=by
 have hlen:P.length+X.length+S.length≤1048576:=by simpa[Nat.add_assoc]using hl
 have hcall:=hc.call;refine bH.body (c:=Tryz.f139.body.getD .skip) (fun _=>false) mixed Tryz.func139 rfl (by kernel_rfl) ?_;unfold Tryz.f139;simp only[Option.getD_some];simp only[go_sem];simp only[go_sem,bA (show a≤4611686018427387904 by omega)];refine⟨fun ρ H=>∃(k:Nat) (M:List TB),1≤k∧k≤max 1 X.length∧ρ 0=.os j∧ρ 1=int a∧ρ 2=int b∧ρ 3=(.fn gf [cx,.op jc 0 0])∧ρ 8=int (a+k:Nat)∧M.Perm (X.take k)∧M.Pairwise (tlt lt)∧H=aG H0 j (some (kK (fs (P++M++X.drop k++S)))),fun ρ _=>b+1-bE (ρ 8),
   ⟨1,X.take 1,Nat.le_refl _,Nat.le_max_left _ _,by simp only[go_sem],by simp only[go_sem],by simp only[go_sem],by simp only[go_sem],by simp only[go_sem],.refl _,by cases X <;> simp,by
     have:P++X.take 1++X.drop 1++S=P++X++S:=by rw[List.append_assoc P,List.take_append_drop]
     rw[this];exact(mN hj).symm⟩,?_⟩
 rintro ρ H ⟨k,M,hk1,hkm,e0,e1,e2,e3,e8,hp,hM,hH⟩;simp only[go_sem,e0,e1,e2,e3,e8];refine aB (fun hlt=>?_) (fun hge=>?_)
 · have hkx:k<X.length:=by have:=ltB hlt;omega
   obtain⟨y,hy⟩:=aW hkx;have hyX:y∈X:=List.mem_of_getElem? hy;have hML:M.length=k:=by rw[hp.length_eq,List.length_take];omega
   have hMok:∀z∈M,ok z.1∧z.2<y.2:=fun z hz=>by
     have hz:=hp.mem_iff.1 hz;refine⟨hok z (List.mem_of_mem_take hz),?_⟩;have hX:X=X.take k++y::X.drop (k+1):=by rw[←Ok hy,List.take_append_drop]
     rw[hX]at hrk;exact(List.pairwise_append.1 hrk).2.2 z hz y (List.mem_cons_self ..)
   simp only[go_sem,e0,e1,e2,e3,e8];refine⟨fun ρ H=>∃M1 M2:List TB,M=M1++M2∧(∀z∈M2,lt y.1 z.1=true)∧ρ 0=.os j∧ρ 1=int a∧ρ 2=int b∧ρ 3=(.fn gf [cx,.op jc 0 0])∧ρ 8=int (a+k:Nat)∧ρ 9=int (a+M1.length:Nat)∧H=aG H0 j (some (kK (fs (P++M1++y::M2++X.drop (k+1)++S)))),fun ρ _=>bE (ρ 9),
     ⟨M,[],by simp,by simp,by simp only[go_sem,e0],by simp only[go_sem,e1],by simp only[go_sem,e2],by simp only[go_sem,e3],by simp only[go_sem,e8],by simp only[go_sem,e8,hML],by rw[hH,Ok hy];simp only[List.append_assoc,List.cons_append,List.nil_append]⟩,?_⟩
   clear e0 e1 e2 e3 e8 hH;rintro ρ H ⟨M1,M2,rfl,hM2,e0,e1,e2,e3,e8,e9,hH⟩;have hml:M1.length+M2.length=k:=by rw[←hML,List.length_append]
   have R:H j=some (kK (fs (P++M1++y::M2++X.drop (k+1)++S))):=by rw[hH];exact aA _ _ _
   have Rc:H jc=some rc:=by rw[hH,aC _ _ _ _ hne];exact hjc
   have finish:(M1=[]∨∃M' z,M1=M'++[z]∧lt y.1 z.1=false)→(M1++y::M2).Perm (X.take (k+1))∧(M1++y::M2).Pairwise (tlt lt):=by
     intro hfin;refine⟨?_,Nr hs hM (fun z hz=>?_) (fun z hz=>.inl (hM2 z (List.mem_of_mem_head? hz)))⟩
     · rw[cM hy]
       refine List.perm_middle.trans ?_;exact((hp.cons y)).trans (List.perm_append_singleton y _).symm
     · rcases hfin with rfl|⟨M',z',rfl,hz'⟩
       · cases hz
       · rw[List.getLast?_append,List.getLast?_singleton]at hz
         have:z'=z:=by simpa using hz
         subst this;exact .inr ⟨hz',(hMok z' (by simp)).2⟩
   rcases List.eq_nil_or_concat M1 with rfl|⟨M',z,rfl⟩
   · simp only[go_sem,e0,e1,e2,e3,e8,e9]
     refine dJ [j,jc] [(0,true),(1,true),(2,true),(3,true),(4,true),(5,true),(6,true),(7,true),(8,true),(9,true),(10,true),(11,true),(12,true),(13,true),(14,true),(15,true),(16,true)] (by simp[R,Rc]) (by kernel_rfl) fun Hp Hr hp1 hr1 hp2 hr2=>?_
     have Rp:=(hp1 j (by simp)).trans R;have Rpc:=(hp1 jc (by simp)).trans Rc;have hz0:decide ((a:Int)>(a:Int))=false:=by simp
     simp only[List.length_nil,Nat.add_zero]at e9;simp only[go_sem,e0,e1,e2,e3,e8,e9,Rp,hz0,hcall];refine⟨int 0,?_⟩;simp only[go_sem,e0,e1,e2,e3,e8,e9];refine kL fun _ Hm hm1 hm2=>?_
     obtain rfl:=Lj hm1 hm2 hr1;refine aB (fun hb=>by cases hb) (fun _=>?_);simp only[go_sem,e0,e1,e2,e3,e8,bA (show a+k≤4611686018427387904 by omega)];obtain⟨f1,f2⟩:=finish (.inl rfl);refine⟨⟨k+1,_,by omega,by omega,?_,f1,f2,by rw[hH];simp only[List.append_assoc,List.cons_append,List.nil_append]⟩,by simp only[aH];omega⟩;rw[Nat.add_assoc]
   · rw[List.concat_eq_append]at *
     have hzy:(P++(M'++[z])++y::M2++X.drop (k+1)++S)[a+M'.length]?=some z:=by
       rw[ha];simp only[List.append_assoc];rw[List.getElem?_append_right (by omega),List.getElem?_append_right (by omega)];simp
     have hyy:(P++(M'++[z])++y::M2++X.drop (k+1)++S)[a+M'.length+1]?=some y:=by
       rw[ha];simp only[List.append_assoc];rw[List.getElem?_append_right (by omega),List.getElem?_append_right (by omega),List.getElem?_append_right (by simp;omega)];simp[Nat.add_sub_cancel_left,show P.length+M'.length+1-P.length-M'.length-1=0 by omega]
     simp only[List.length_append,List.length_singleton]at hml;have hfl:(fs (P++(M'++[z])++y::M2++X.drop (k+1)++S)).length=P.length+X.length+S.length:=by simp[fs];omega
     have b1:(0:Int)≤((a+M'.length+1:Nat):Int)∧((a+M'.length+1:Nat):Int)<((fs (P++(M'++[z])++y::M2++X.drop (k+1)++S)).length:Int):=by omega
     have b2:(0:Int)≤((a+M'.length:Nat):Int)∧((a+M'.length:Nat):Int)<((fs (P++(M'++[z])++y::M2++X.drop (k+1)++S)).length:Int):=by omega
     have g1:=aF (f:=aO) (GF hyy);have g2:=aF (f:=aO) (GF hzy);obtain⟨n,hn,hpc⟩:=hc.cmp y.1 z.1 (hok y hyX) (hMok z (by simp)).1;have e9':ρ 9=int ((a+M'.length+1:Nat):Int):=by rw[e9];simp[Nat.add_assoc]
     have hgt:decide (((a+M'.length+1:Nat):Int)>(a:Int))=true:=by simp;omega
     have w1:IntKind.i64.wrap (((a+M'.length+1:Nat):Int)-1)=((a+M'.length:Nat):Int):=by rw[aQ (by omega)];omega
     simp only[go_sem,e0,e1,e2,e3,e8,e9'];refine dJ [j,jc] [(0,true),(1,true),(2,true),(3,true),(4,true),(5,true),(6,true),(7,true),(8,true),(9,true),(10,true),(11,true),(12,true),(13,true),(14,true),(15,true),(16,true)] (by simp[R,Rc]) (by kernel_rfl) fun Hp Hr hp1 hr1 hp2 hr2=>?_
     have Rp:=(hp1 j (by simp)).trans R;have Rpc:=(hp1 jc (by simp)).trans Rc;simp only[go_sem,e0,e1,e2,e3,e8,e9',Rp,hgt,hcall,w1,g1,g2,b1,b2];refine⟨by omega,by omega,_,.inl ⟨_,.cons _ _ _ _ (.refl _) (.cons _ _ _ _ (.refl _) (hcv Hp Rpc)),hpc,rfl⟩,?_⟩;simp only[go_sem,e0,e1,e2,e3,e8,e9',hn];refine kL fun _ Hm hm1 hm2=>?_
     obtain rfl:=Lj hm1 hm2 hr1;refine aB (fun hb=>?_) (fun hb=>?_)
     · simp only[go_sem,e0,e1,e2,e3,e8,e9']
       refine zT [] (.q 0 (.q 1 (.q 2 (.q 3 (.q 4 (.q 5 (.q 6 (.q 7 (.q 10 (.q 11 (.a2 8 (.a2 9 (.a1 12 (.a1 13 (.a1 14 (.a1 15 (.a1 16 (.a1 17 (.nil))))))) 12 (.a2 9 (.a1 13 (.a1 14 (.a1 15 (.a1 16 (.a1 17 (.nil)))))) 13 (.a1 9 (.a1 14 (.a1 15 (.a1 16 (.a1 17 (.nil)))))))) 12 (.a2 8 (.a2 9 (.a1 13 (.a1 14 (.a1 15 (.a1 16 (.a1 17 (.nil)))))) 13 (.a1 9 (.a1 14 (.a1 15 (.a1 16 (.a1 17 (.nil))))))) 13 (.a1 8 (.a1 9 (.a1 14 (.a1 15 (.a1 16 (.a1 17 (.nil))))))))))))))))))) (by simp) (by kernel_rfl) fun Hp Hr _ hr _ _=>?_
       obtain rfl:Hr=Hm:=funext fun i=>hr i (by simp)
       have hx:(fs (P++(M'++[z])++y::M2++X.drop (k+1)++S))[a+M'.length+1]?=some y.1:=GF hyy;have hy2:(fs (P++(M'++[z])++y::M2++X.drop (k+1)++S))[a+M'.length]?=some z.1:=GF hzy;simp only[go_sem,e0,e1,e2,e3,e8,e9',w1,R,b1,b2]
       repeat' (first|(refine lA ?_ ?_)|(refine⟨by omega,?_⟩)|(refine bY so3 R ⟨by rw[List.length_map];omega,rfl,Nat.le_refl 1⟩ ?_)|(refine bY so3 (aA _ _ _) ⟨by rw[List.length_set,List.length_map];omega,rfl,Nat.le_refl 1⟩ ?_)|(refine kL fun _ Hm _ hm=>?_;obtain rfl:Hm=_:=funext fun i=>hm i (by simp))|(simp only[go_sem,e0,e1,e2,e3,e8,e9',w1,R,b1,b2,g1,g2,List.length_set,List.length_map,BP,List.append_nil]))
       all_goals refine⟨⟨M',z::M2,by simp,?_,rfl,(WF hx hy2 (by omega) hH).trans ?_⟩,by simp only[aH];omega⟩
       all_goals first
         | (intro u hu
            rcases List.mem_cons.1 hu with rfl|hu
            · exact hb
            · exact hM2 u hu)
         | (congr 2
            rw[T6 _ _ _ (by omega)];have:=Un (U:=fs (P++M')) (W:=fs (M2++X.drop (k+1)++S)) (x:=z.1) (y:=y.1) (i:=a+M'.length) (j:=a+M'.length+1) (by rw[Q0,List.length_append];omega) (by rw[Q0,List.length_append];omega);simp only[fs,List.map_append,List.map_cons,List.map_nil,List.append_assoc,List.cons_append,List.nil_append]at this ⊢;exact congrArg kK this)
     · simp only[go_sem,e0,e1,e2,e3,e8,bA (show a+k≤4611686018427387904 by omega)]
       obtain⟨f1,f2⟩:=finish (.inr ⟨M',z,rfl,hb⟩);refine⟨⟨k+1,_,by omega,by omega,?_,f1,f2,by rw[hH];simp only[List.append_assoc,List.cons_append,List.nil_append]⟩,by simp only[aH];omega⟩;rw[Nat.add_assoc]
 · have hkx : X.length ≤ k := by
     have:¬a+k<b:=fun h=>by simp at hge;omega
     omega
   rw[List.take_of_length_le hkx]at hp;rw[List.drop_of_length_le hkx,List.append_nil]at hH;simp only[go_sem];rw[hH];exact hK M hp hM _
section
variable{gf:Nat}{cx:AV}{jc:Nat}{rc:Row}{cap':List AV}{lt:Int→Int→Bool}{ok:Int→Prop}
theorem QW(hs : SWO lt)(hc : CmpOk gf cap' lt ok)(hcv : ∀ H : aE, H jc = some rc → ConvL H [cx, .op jc 0 0] cap')(l : List Int)(j : Nat)(H0 : aE)(K : AV → aE → Prop)(hl : l.length ≤ 19)(hok : ∀ x ∈ l, ok x)(hj : H0 j = some (kK l))(hjc : H0 jc = some rc)(hne : jc ≠ j)
   (hK:∀r,K r (aG H0 j (some (kK (lX lt l))))):bH Tryz.prog 75 [.os j,int (l.length:Nat),.fn gf [cx,.op jc 0 0]] H0 K:=by
 refine bH.body (c:=Tryz.f75.body.getD .skip) (fun _=>false) mixed Tryz.func75 rfl (by kernel_rfl) ?_;unfold Tryz.f75;simp only[Option.getD_some];simp only[go_sem];refine⟨fun ρ H=>ρ 0=.os j∧ρ 1=int (l.length:Nat)∧ρ 2=.fn gf [cx,.op jc 0 0]∧ρ 6=int 20∧ρ 7=int 0∧ρ 8=int 20∧H=H0,fun _ _=>0,⟨by simp only[go_sem],by simp only[go_sem],by simp only[go_sem],by simp only[go_sem],by simp only[go_sem],by simp only[go_sem],rfl⟩,?_⟩;rintro ρ H ⟨e0,e1,e2,e6,e7,e8,rfl⟩;simp only[go_sem,e0,e1,e2,e6,e7,e8];refine aB (fun hb=>?_) (fun hb=>?_)
 · have hb:=of_decide_eq_true hb
   omega
 simp only[go_sem,e0,e1,e2,e6,e7,e8];have htl:(tag l).length=l.length:=XW l;refine IS hs hc hcv [] (tag l) [] 0 l.length j H _ rfl (by rw[htl,Nat.zero_add]) ?_ ?_ (by simp[htl];omega) ?_ hjc hne fun M hM hMs r=>?_
 · exact ZH l
 · intro x hx
   exact hok _ (by rw[←HX l];exact List.mem_map.2 ⟨x,hx,rfl⟩)
 · simp only[List.nil_append,List.append_nil]
   show H j=some (kK ((tag l).map Prod.fst));rw[HX];exact hj
 simp only[List.nil_append,List.append_nil];have hfm:fs M=lX lt l:=QH hs hM hMs;rw[hfm];simp only[go_sem,e0,e1,e2,e6,e7,e8];refine⟨fun ρ H'=>ρ 1=int (l.length:Nat)∧ρ 6=int 20∧H'=aG H j (some (kK (lX lt l))),fun _ _=>0,⟨by simp only[go_sem,e1],by simp only[go_sem,e6],rfl⟩,?_⟩;rintro ρ H' ⟨e1,e6,rfl⟩;simp only[go_sem,e1,e6];refine aB (fun hb=>?_) (fun hb=>?_)
 · have hb:=of_decide_eq_true hb
   omega
 simp only[go_sem];exact hK _
theorem G7(hs : SWO lt)(hc : CmpOk gf cap' lt ok)(hcv : ∀ H : aE, H jc = some rc → ConvL H [cx, .op jc 0 0] cap')(l : List Int)(j : Nat)(H0 : aE)(K : AV → aE → Prop)(hl : l.length ≤ 19)(hok : ∀ x ∈ l, ok x)(hj : H0 j = some (kK l))(hjc : H0 jc = some rc)(hne : jc ≠ j)
   (hK:∀r,K r (aG H0 j (some (kK (lX lt l))))):bH Tryz.prog 36 [.os j,.fn gf [cx,.op jc 0 0]] H0 K:=by
 refine bH.body (c:=Tryz.f36.body.getD .skip) (fun _=>false) mixed Tryz.func36 rfl (by kernel_rfl) ?_;unfold Tryz.f36;simp only[Option.getD_some];simp only[go_sem];simp only[go_sem,hj,List.length_map];refine QW hs hc hcv l j H0 _ hl hok hj hjc hne fun r=>?_
 simp only[go_sem];exact hK _
end
end Go.Proofs.YtdlijlecpopadaaGreatDoor.Rx
end

section
set_option linter.unusedSimpArgs false
set_option linter.unusedVariables false
namespace Go.Proofs.YtdlijlecpopadaaGreatDoor.Rx
open Go.Aw Go.Aw.D Go.Proofs Ty Go.Nu Go.So
open Sq (W jW eM kE NetOk qS sY pV qA)
open Nu (ltB geB If)
open Mv (fZ fA kI NC.pc bR)
set_option maxRecDepth 100000
theorem ZQ(l:List Int)(n:Int)(hl:l.length≤1048576):PC Tryz.prog 141 [.sl (l.map aO),int n] (int (qS (fun a=>n == a) l 0)):=by
 refine PC.body (c:=Tryz.f141.body.getD .skip) (fun _=>false) mixed Tryz.func141 rfl (by kernel_rfl) ?_;unfold Tryz.f141;simp only[Option.getD_some];simp only[go_sem];refine⟨fun ρ H=>∃(k:Nat),k≤l.length∧ρ 0=.sl (l.map aO)∧ρ 1=int n∧ρ 7=int (l.length:Nat)∧ρ 8=int k∧(∀u∈l.take k,(n == u)=false),fun ρ _=>l.length-bE (ρ 8),⟨0,Nat.zero_le _,by simp only[go_sem],by simp only[go_sem],by simp only[go_sem,List.length_map],(by simp only[go_sem];rfl),by simp⟩,?_⟩;rintro ρ H ⟨k,hk,e0,e1,e7,e8,hz⟩;simp only[go_sem,e0,e1,e7,e8];refine aB (fun hlt=>?_) (fun hge=>?_)
 · have hlt:=ltB (by simpa using hlt)
   obtain⟨c,hc⟩:=aW hlt;have b1:=inB hlt;simp only[go_sem,e0,e1,e7,e8,aF hc,b1];refine aB (fun hb=>?_) (fun hb=>?_)
   · simp only[go_sem,e0,e1,e7,e8]
     exact fZ (by rw[sY (p:=fun a=>n == a) hz hc hb];omega)
   · simp only[go_sem,e0,e1,e7,e8,bA (show k≤4611686018427387904 by omega)]
     exact⟨⟨k+1,hlt,rfl,bR (p:=fun u=>(n == u)=false) hc hb hz⟩,by simp only[aH];omega⟩
 have hge:=geB hk (by simpa using hge);subst hge;rw[List.take_length]at hz;simp only[go_sem];exact fZ (by rw[pV (p:=fun a=>n == a) hz])
def AO(l:List Int)(n:Int):Bool:=l.any fun a=>n == a
theorem oO(l:List Int)(n:Int)(hl:l.length≤1048576):PC Tryz.prog 78 [.sl (l.map aO),int n] (boo (AO l n)):=by
 refine PC.body (c:=Tryz.f78.body.getD .skip) (fun _=>false) mixed Tryz.func78 rfl (by kernel_rfl) ?_;unfold Tryz.f78;simp only[Option.getD_some];simp only[go_sem];refine PC.use (ZQ l n hl) ?_;simp only[go_sem];exact fA (qA l 0 (Int.le_refl _))
def kS(x:Instance)(a:Int):List Int:=(jW x.orders a).map fun v=>(eM x v).1.place
theorem Aa(x:Instance)(a:Int):PC Tryz.prog 77 [.agg (aS x),int a] (.sl ((kS x a).map aO)):=by
 have hv:=Sq.Ay x.orders a;unfold kS;refine PC.body (c:=Tryz.f77.body.getD .skip) (fun t=>t == 5) mixed Tryz.func77 rfl (by kernel_rfl) ?_;unfold Tryz.f77;simp only[Option.getD_some];simp only[go_sem];refine aL fun j hj0=>?_
 generalize hGj:aG _ j _=HGj;have R:HGj j=some (kK []):=by rw[←hGj,aA];try rfl
 clear hGj hj0;simp only[go_sem,R];refine PC.use (Sq.EK x.orders a) ?_;generalize jW x.orders a=V at *;simp only[go_sem,List.length_map];refine⟨fun ρ H=>∃(k:Nat) (j:Nat),k≤V.length∧ρ 2=.rp (aS x) 0∧ρ 13=.sl (V.map bS)∧ρ 14=int (V.length:Nat)∧ρ 15=int k∧ρ 5=.os j∧H j=some (kK ((V.take k).map fun v=>(eM x v).1.place)),fun ρ _=>V.length-bE (ρ 15),⟨0,j,Nat.zero_le _,by simp only[go_sem],by simp only[go_sem],by simp only[go_sem,List.length_map],(by simp only[go_sem];rfl),by simp only[go_sem],R⟩,?_⟩;rintro ρ H ⟨k,j,hk,e2,e13,e14,e15,e5,R⟩;simp only[go_sem,e2,e13,e14,e15,e5];refine aB (fun hlt=>?_) (fun hge=>?_)
 · have hlt:=ltB (by simpa using hlt)
   obtain⟨v,hc⟩:=aW hlt;have b1:=inB hlt;simp only[go_sem,e2,e13,e14,e15,e5,aF hc,b1];refine aL fun i7 hi70=>?_
   have ne_j_i7:j≠i7:=aN R hi70;simp only[go_sem,e2,e13,e14,e15,e5,R];refine aP (aA _ _ _) (by simp[pN]) ?_;generalize hGi7:aG (aG _ i7 _) i7 _=HGi7;replace R:=(congrFun hGi7.symm j).trans ((aC _ _ _ _ ne_j_i7).trans ((aC _ _ _ _ ne_j_i7).trans R));have R7:HGi7 i7=some (tZ v):=by rw[←hGi7,aA];try rfl
   clear hGi7 hi70;simp only[go_sem,e2,e13,e14,e15,e5,R7,R];refine PC.use (Sq.OY x v) ?_;simp only[go_sem,e2,e13,e14,e15,e5];refine aL fun i8 hi80=>?_
   have ne_j_i8:j≠i8:=aN R hi80;simp only[go_sem,e2,e13,e14,e15,e5,R];refine aP (aA _ _ _) (by simp[jY]) ?_;generalize hGi8:aG (aG _ i8 _) i8 _=HGi8;replace R:=(congrFun hGi8.symm j).trans ((aC _ _ _ _ ne_j_i8).trans ((aC _ _ _ _ ne_j_i8).trans R));have R8:HGi8 i8=some (lH (eM x v).1):=by rw[←hGi8,aA];try rfl
   clear hGi8 hi80;simp only[go_sem,e2,e13,e14,e15,e5,R8,R];refine aX R ⟨rfl,rfl⟩ (by simp only[go_sem]) (by simp only[List.length_map,List.length_take,List.length_cons,List.length_nil];omega) (fun j2 hj2=>?_);simp only[go_sem,e2,e13,e14,e15,e5,bA (show k≤4611686018427387904 by omega)];refine⟨⟨k+1,j2,hlt,rfl,rfl,?_⟩,by simp only[aH];omega⟩;rw[aA,cM hc];refine congrArg (fun L=>some (⟨3,1,L⟩:Row)) ?_;simp;rfl
 have hge:=geB hk (by simpa using hge);subst hge;rw[List.take_length]at R;simp only[go_sem,e2,e13,e14,e15,e5];exact .row _ _ _ R (ConvE.refl _)
def Gk(p q:List Int)(out:Int)(c:Arc):Int:=if((AO p c.src&&AO q c.dst)||(AO q c.src&&AO p c.dst))=true then rN out c.miles else out
def CV(x:Instance)(a b:Int):Int:=
 if((kS x a).any fun i=>AO (kS x b) i)=true then 0 else x.net.arcs.foldl (Gk (kS x a) (kS x b)) 10001
theorem BD(x:Instance)(a:Int):(kS x a).length≤2:=by
 unfold kS;rw[List.length_map];exact Sq.Ay _ _
theorem CO(x:Instance)(a b:Int)(hx:x.net.arcs.length≤1048576):PC Tryz.prog 39 [.agg (aS x),int a,int b] (int (CV x a b)):=by
 have eD:CV x a b=if((kS x a).any fun i=>AO (kS x b) i)=true then 0 else x.net.arcs.foldl (Gk (kS x a) (kS x b)) 10001:=rfl
 have hpl:=BD x a;have hql:=BD x b;generalize CV x a b=D at eD;refine PC.body (c:=Tryz.f39.body.getD .skip) (fun _=>false) mixed Tryz.func39 rfl (by kernel_rfl) ?_;unfold Tryz.f39;simp only[Option.getD_some];simp only[go_sem];refine jD [(0,true),(1,true),(3,true),(4,true),(2,false),(5,false),(6,true),(7,true)] (by kernel_rfl) ?_;simp only[go_sem];refine PC.use (Aa x a) ?_;simp only[go_sem];refine PC.use (Aa x b) ?_;generalize kS x a=P at *;generalize kS x b=Q at *;simp only[go_sem,List.length_map];refine⟨fun ρ H=>∃(k:Nat),k≤P.length∧ρ 3=.rp (aS x) 0∧ρ 7=.sl (P.map aO)∧ρ 8=.sl (Q.map aO)∧ρ 22=.sl (P.map aO)∧ρ 23=int (P.length:Nat)∧ρ 24=int k∧(∀u∈P.take k,AO Q u=false),fun ρ _=>P.length-bE (ρ 24),⟨0,Nat.zero_le _,by simp only[go_sem],by simp only[go_sem],by simp only[go_sem],by simp only[go_sem],by simp only[go_sem,List.length_map],(by simp only[go_sem];rfl),by simp⟩,?_⟩;rintro ρ H ⟨k,hk,e3,e7,e8,e22,e23,e24,hz⟩;simp only[go_sem,e3,e7,e8,e22,e23,e24];refine aB (fun hlt=>?_) (fun hge=>?_)
 · have hlt:=ltB (by simpa using hlt)
   obtain⟨c,hc⟩:=aW hlt;have b1:=inB hlt;simp only[go_sem,e3,e7,e8,e22,e23,e24,aF hc,b1];refine PC.use (oO Q c (by omega)) ?_;simp only[go_sem,e3,e7,e8,e22,e23,e24];refine aB (fun hb=>?_) (fun hb=>?_)
   · rw[if_pos (List.any_eq_true.2 ⟨c,List.mem_of_getElem? hc,hb⟩)]at eD
     subst eD;simp only[go_sem];exact .refl _
   · simp only[go_sem,e3,e7,e8,e22,e23,e24,bA (show k≤4611686018427387904 by omega)]
     exact⟨⟨k+1,hlt,rfl,bR (p:=fun u=>AO Q u=false) hc hb hz⟩,by simp only[aH];omega⟩
 have hge:=geB hk (by simpa using hge);subst hge;rw[List.take_length]at hz;rw[if_neg (by rw[Bool.not_eq_true,List.any_eq_false];intro u hu;rw[hz u hu];simp)]at eD;simp only[go_sem,e3,e7,e8,e22,e23,e24,List.length_map];refine⟨fun ρ H=>∃(k:Nat),k≤x.net.arcs.length∧ρ 7=.sl (P.map aO)∧ρ 8=.sl (Q.map aO)∧ρ 34=.sl (x.net.arcs.map eH)∧ρ 35=int (x.net.arcs.length:Nat)∧ρ 36=int k∧ρ 11=int ((x.net.arcs.take k).foldl (Gk P Q) 10001),fun ρ _=>x.net.arcs.length-bE (ρ 36),⟨0,Nat.zero_le _,by simp only[go_sem,e3,e7,e8],by simp only[go_sem,e3,e7,e8],by simp only[go_sem,e3,e7,e8],by simp only[go_sem,List.length_map,e3,e7,e8],(by simp only[go_sem,e3,e7,e8];rfl),by simp only[go_sem];rfl⟩,?_⟩;rintro ρ H ⟨k,hk,e7,e8,e34,e35,e36,e11⟩;simp only[go_sem,e7,e8,e34,e35,e36,e11];refine aB (fun hlt=>?_) (fun hge=>?_)
 · have hlt:=ltB (by simpa using hlt)
   obtain⟨c,hc⟩:=aW hlt;have b1:=inB hlt;have hs:=Sq.fR (f:=Gk P Q) (b:=(10001:Int)) hc;generalize (x.net.arcs.take k).foldl (Gk P Q) 10001=m at *;have hdc:Gk P Q m c=if((AO P c.src&&AO Q c.dst)||(AO Q c.src&&AO P c.dst))=true then rN m c.miles else m:=rfl
   simp only[go_sem,e7,e8,e34,e35,e36,e11,aF hc,b1];refine aL fun i13 hi130=>?_
   simp only[go_sem,e7,e8,e34,e35,e36,e11];refine aP (aA _ _ _) (by simp[dF]) ?_;generalize hGi13:aG (aG _ i13 _) i13 _=HGi13;have R13:HGi13 i13=some ((⟨139,6,[eH c]⟩:Row)):=by rw[←hGi13,aA];try rfl
   clear hGi13 hi130;simp only[go_sem,e7,e8,e34,e35,e36,e11,R13];refine PC.use (oO P c.src (by omega)) ?_;simp only[go_sem,e7,e8,e34,e35,e36,e11,R13];refine⟨_,fun _=>PC.q (oO Q c.dst (by omega)) rfl,?_⟩;simp only[go_sem,e7,e8,e34,e35,e36,e11,R13];refine PC.use (oO Q c.src (by omega)) ?_;simp only[go_sem,e7,e8,e34,e35,e36,e11,R13];refine⟨_,fun _=>PC.q (oO P c.dst (by omega)) rfl,?_⟩;simp only[go_sem,e7,e8,e34,e35,e36,e11,R13];refine aB (fun hb=>?_) (fun hb=>?_)
   · rw[if_pos hb]at hdc
     simp only[go_sem,e7,e8,e34,e35,e36,e11,R13,bA (show k≤4611686018427387904 by omega)];exact⟨⟨k+1,hlt,rfl,by rw[hs,hdc]⟩,by simp only[aH];omega⟩
   · rw[if_neg (fun h=>Bool.noConfusion (hb.symm.trans h))]at hdc
     simp only[go_sem,e7,e8,e34,e35,e36,e11,bA (show k≤4611686018427387904 by omega)];exact⟨⟨k+1,hlt,rfl,by rw[hs,hdc]⟩,by simp only[aH];omega⟩
 have hge:=geB hk (by simpa using hge);subst hge;rw[List.take_length]at e11;simp only[go_sem,e7,e8,e34,e35,e36,e11];subst eD;exact .refl _
theorem Wg(x:Instance)(i a b:Int)(hx:x.net.arcs.length≤1048576):PC Tryz.prog 37 [int a,int b,.rp (aS x) 0,.rp [int i] 0] (int (gD (CV x i a) (CV x i b))):=by
 refine PC.body (c:=Tryz.f37.body.getD .skip) (fun _=>false) mixed Tryz.func37 rfl (by kernel_rfl) ?_;unfold Tryz.f37;simp only[Option.getD_some];simp only[go_sem];refine jD [(0,true),(1,true),(2,true),(4,true),(5,true),(6,true),(3,false),(7,false),(8,false),(9,true)] (by kernel_rfl) ?_;simp only[go_sem];refine PC.use (CO x i a hx) ?_;simp only[go_sem];refine PC.use (CO x i b hx) ?_;simp only[go_sem];refine PC.use (If _ _) ?_;simp only[go_sem];exact .refl _
def dlt(x:Instance)(i:Int)(a b:Int):Bool:=decide (CV x i a<CV x i b)
def nM(size i:Nat)(others:List Int):Int:=(others.take (size-1)).foldl (fun s k=>qQ .or .i64 s (shV .shl .i64 1 k)) ((2^i:Nat):Int)
def iB(x:Instance)(i:Nat):List Int:=((List.range x.orders.length).filter fun k=>k != i).map Int.ofNat
def Yn(x:Instance)(size:Nat):List Int:=(List.range x.orders.length).map fun i=>nM size i (lX (dlt x (i:Nat)) (iB x i))
theorem XN(x : Instance)(i : Int): SWO (dlt x i) := ⟨fun a b h => by
 unfold dlt at *;have:=of_decide_eq_true h;exact decide_eq_false (by omega),fun a b c h1 h2=>by
 unfold dlt at *;have:=of_decide_eq_false h1;have:=of_decide_eq_false h2;exact decide_eq_false (by omega)⟩
theorem Rv(a b:Int):decide (gD a b<0)=decide (a<b):=by
 unfold gD;split
 · next h=>rw[decide_eq_true h];rfl
 · next h=>
   rw[decide_eq_false h];split <;> rfl
theorem Sa(x:Instance)(i:Int)(hx:x.net.arcs.length≤1048576):CmpOk 37 [.rp (aS x) 0,.rp [int i] 0] (dlt x i) (fun _=>True):=
 ⟨by kernel_rfl,fun a b _ _=>⟨_,Rv _ _,Wg x i a b hx⟩⟩
def zE(i:Nat)(m:Nat):List Int:=((List.range m).filter fun k=>k != i).map Int.ofNat
theorem Ni(i m:Nat):zE i (m+1)=if(m != i)=true then zE i m++[(m:Int)]else zE i m:=by
 unfold zE;rw[List.range_succ,List.filter_append,List.map_append];simp only[List.filter];cases h:(m != i)with
 | true=>rfl
 | false=>simp
theorem EI(i:Nat):∀m,(zE i m).length≤m:=fun m=>by
 unfold zE;rw[List.length_map];exact Nat.le_trans (List.length_filter_le _ _) (by rw[List.length_range];exact Nat.le_refl m)
theorem Fo(lt:Int→Int→Bool)(l:List Int):(lX lt l).Perm l:=by
 have:∀(l acc:List Int),(l.foldl (fun acc x=>ins lt x acc) acc).Perm (acc++l):=by
   intro l;induction l with
   | nil=>intro acc;rw[List.append_nil];exact .refl _
   | cons a r ih=>
     intro acc;refine(ih _).trans ?_;refine((zO lt a acc).append_right r).trans ?_;simpa using List.perm_middle.symm
 have h2:=this l []
 rwa [List.nil_append]at h2
theorem J9{x:Instance}{i:Nat}{a:Int}(h:a∈iB x i):0≤a∧a<x.orders.length:=by
 unfold iB at h;obtain⟨k,hk,rfl⟩:=List.mem_map.1 h;have:=List.mem_range.1 (List.mem_filter.1 hk).1;show(0:Int)≤(k:Int)∧(k:Int)<(x.orders.length:Int);omega
theorem Ww{A:List Int}{n k:Nat}(v:Int)(hA:A.length=k)(hk:k<n):(A++List.replicate (n-k) 0).set k v=(A++[v])++List.replicate (n-(k+1)) 0:=by
 have:n-k=(n-(k+1))+1:=by omega
 rw[this,List.replicate_succ,List.set_append_right _ _ (by omega),hA,Nat.sub_self,List.set_cons_zero,List.append_assoc];rfl
theorem YD(x : Instance)(size : Nat)(h1 : 1 ≤ size)(h10 : size ≤ 10)(hn : x.orders.length ≤ 19)(hx : x.net.arcs.length ≤ 1048576):
   PC Tryz.prog 11 [.agg (aS x),int (size:Nat)] (.tup [.sl ((Yn x size).map aO),int 0]):=by
 refine PC.body (c:=Tryz.f11.body.getD .skip) (fun t=>t == 8||t == 49) mixed Tryz.func11 rfl (by kernel_rfl) ?_;unfold Tryz.f11;simp only[Option.getD_some];simp only[go_sem];refine aB (fun hb=>?_) (fun hb=>?_)
 · simp at hb;omega
 simp only[go_sem];refine⟨by omega,aL fun j6 h6=>?_⟩;simp only[go_sem];have hrl:∀k,k≤x.orders.length→((List.range k).map (fun i=>nM size i (lX (dlt x (i:Nat)) (iB x i)))++List.replicate (x.orders.length-k) 0).length=x.orders.length:=fun k hk=>by simp;omega
 have R6:aG bU j6 (some (⟨3,1,List.replicate x.orders.length [int 0]⟩:Row)) j6=some (kK ((List.range 0).map (fun i=>nM size i (lX (dlt x (i:Nat)) (iB x i)))++List.replicate (x.orders.length-0) 0)):=by
   rw[aA];refine congrArg (fun L=>some (⟨3,1,L⟩:Row)) ?_;rw[List.range_zero,List.map_nil,List.nil_append,Nat.sub_zero,List.map_replicate];rfl
 generalize aG bU j6 _=HA at R6 ⊢;clear h6;refine⟨fun ρ H=>∃(k:Nat),k≤x.orders.length∧ρ 1=int (size:Nat)∧ρ 2=.rp (aS x) 0∧ρ 6=.os j6∧ρ 23=int (x.orders.length:Nat)∧ρ 24=int k∧H j6=some (kK ((List.range k).map (fun i=>nM size i (lX (dlt x (i:Nat)) (iB x i)))++List.replicate (x.orders.length-k) 0)),fun ρ _=>x.orders.length-bE (ρ 24),⟨0,Nat.zero_le _,by simp only[go_sem,List.length_replicate],by simp only[go_sem,List.length_replicate],by simp only[go_sem,List.length_replicate],by simp only[go_sem,List.length_map,List.length_replicate],(by simp only[go_sem,List.length_replicate];rfl),R6⟩,?_⟩;rintro ρ H ⟨k,hk,e1,e2,e6,e23,e24,R6⟩;simp only[go_sem,e1,e2,e6,e23,e24];refine aB (fun hlt=>?_) (fun hge=>?_)
 · have hlt:=ltB (by simpa using hlt)
   simp only[go_sem,e1,e2,e6,e23,e24];refine aL fun i7 h7=>?_
   simp only[go_sem,e1,e2,e6,e23,e24];refine bY so3 (aA _ _ _) (by simp) ?_;have n67:=aN R6 h7;generalize hG:aG (aG H i7 _) i7 _=HGi7;replace R6:=(congrFun hG.symm j6).trans ((aC _ _ _ _ n67).trans ((aC _ _ _ _ n67).trans R6));have R7:HGi7 i7=some (kK [(k:Int)]):=by rw[←hG,aA];rfl
   clear hG h7;simp only[go_sem,e1,e2,e6,e23,e24];refine aL fun j8 h8=>?_
   have n68:=aN R6 h8;have n78:=aN R7 h8;have R6b:=(aC HGi7 j8 (some (⟨3,1,[]⟩:Row)) j6 n68).trans R6;have R7b:=(aC HGi7 j8 (some (⟨3,1,[]⟩:Row)) i7 n78).trans R7;have R8b:aG HGi7 j8 (some (⟨3,1,[]⟩:Row)) j8=some (kK (zE k 0)):=aA _ _ _;generalize aG HGi7 j8 _=HB at R6b R7b R8b ⊢;clear R6 R7 h8;simp only[go_sem,e1,e2,e6,e23,e24,List.length_map];generalize hk0:k=k0 at *;refine⟨fun ρ H=>∃(k:Nat) (j8:Nat),k≤x.orders.length∧ρ 1=int (size:Nat)∧ρ 2=.rp (aS x) 0∧ρ 6=.os j6∧ρ 7=.op i7 0 0∧ρ 23=int (x.orders.length:Nat)∧ρ 24=int (k0:Nat)∧ρ 29=int (x.orders.length:Nat)∧ρ 30=int k∧ρ 8=.os j8∧H j6=some (kK ((List.range k0).map (fun i=>nM size i (lX (dlt x (i:Nat)) (iB x i)))++List.replicate (x.orders.length-k0) 0))∧H i7=some (kK [(k0:Int)])∧H j8=some (kK (zE k0 k))∧j6≠j8∧i7≠j8,fun ρ _=>x.orders.length-bE (ρ 30),⟨0,j8,Nat.zero_le _,by simp only[go_sem,e1,e2,e6,e23,e24],by simp only[go_sem,e1,e2,e6,e23,e24],by simp only[go_sem,e1,e2,e6,e23,e24],by simp only[go_sem,e1,e2,e6,e23,e24],by simp only[go_sem,e1,e2,e6,e23,e24],by simp only[go_sem,e1,e2,e6,e23,e24],by simp only[go_sem,List.length_map,e1,e2,e6,e23,e24],(by simp only[go_sem,e1,e2,e6,e23,e24];rfl),by simp only[go_sem],R6b,R7b,R8b,n68,n78⟩,?_⟩;rintro ρ H ⟨k,j8,hk,e1,e2,e6,e7,e23,e24,e29,e30,e8,R6,R7,R8,n68,n78⟩;simp only[go_sem,e1,e2,e6,e7,e23,e24,e29,e30,e8];refine aB (fun hlt=>?_) (fun hge=>?_)
   · have hlt2:=ltB (by simpa using hlt)
     have ho:=Ni k0 k;have hol:=EI k0 k;simp only[go_sem,e1,e2,e6,e7,e23,e24,e29,e30,e8,R7];have hbe:(((k:Int)) != ((k0:Nat):Int))=(k != k0):=by
       rw[Bool.eq_iff_iff];simp only[bne_iff_ne,ne_eq];omega
     rw[hbe];refine aB (fun hb=>?_) (fun hb=>?_)
     · rw[if_pos hb]at ho
       simp only[go_sem,e1,e2,e6,e7,e23,e24,e29,e30,e8];refine aX R8 ⟨rfl,rfl⟩ (by simp only[go_sem]) (by simp only[List.length_map,List.length_cons,List.length_nil];omega) (fun j2 hj2=>?_);simp only[go_sem,e1,e2,e6,e7,e23,e24,e29,e30,e8,bA (show k≤4611686018427387904 by omega)];refine⟨⟨k+1,j2,hlt2,rfl,rfl,?_,?_,?_,aN R6 hj2,aN R7 hj2⟩,by simp only[aH];omega⟩
       · rw[aC _ _ _ _ (aN R6 hj2),aC _ _ _ _ n68];exact R6
       · rw[aC _ _ _ _ (aN R7 hj2),aC _ _ _ _ n78];exact R7
       · rw[aA,ho]
         refine congrArg (fun L=>some (⟨3,1,L⟩:Row)) ?_;rw[List.map_append];rfl
     · rw[if_neg (fun h=>Bool.noConfusion (hb.symm.trans h))]at ho
       simp only[go_sem,e1,e2,e6,e7,e23,e24,e29,e30,e8,bA (show k≤4611686018427387904 by omega)];exact⟨⟨k+1,j8,hlt2,rfl,rfl,R6,R7,by rw[ho];exact R8,n68,n78⟩,by simp only[aH];omega⟩
   have hge:=geB hk (by simpa using hge);subst hge;have hol:=EI k0 x.orders.length;have hoe:zE k0 x.orders.length=iB x k0:=rfl;rw[hoe]at R8 hol;simp only[go_sem,e1,e2,e6,e7,e23,e24,e29,e30,e8];refine G7 (XN x (k0:Nat)) (Sa x (k0:Nat) hx) (fun H hH=>.cons _ _ _ _ (.refl _) (.cons _ _ _ _ (.ptr _ _ _ _ _ hH (by simp) (ConvL.refl _)) .nil)) (iB x k0) j8 H _ (by omega) (fun _ _=>trivial) R8 R7 n78 fun r=>?_
   have hsl:(lX (dlt x (k0:Nat)) (iB x k0)).length≤19:=by rw[(Fo _ _).length_eq];omega
   have hmem:∀a∈lX (dlt x (k0:Nat)) (iB x k0),0≤a∧a≤61:=fun a ha=>by
     have:=J9 ((Fo _ _).mem_iff.1 ha);omega
   have R6c:=(aC H j8 (some (kK (lX (dlt x (k0:Nat)) (iB x k0)))) j6 n68).trans R6;have R7c:=(aC H j8 (some (kK (lX (dlt x (k0:Nat)) (iB x k0)))) i7 n78).trans R7;have R8c:aG H j8 (some (kK (lX (dlt x (k0:Nat)) (iB x k0)))) j8=some (kK (lX (dlt x (k0:Nat)) (iB x k0))):=aA _ _ _;generalize aG H j8 _=HC at R6c R7c R8c ⊢;have hns:nM size k0 (lX (dlt x (k0:Nat)) (iB x k0))=nM size k0 (lX (dlt x (k0:Nat)) (iB x k0)):=rfl;unfold nM at hns;generalize hSe:lX (dlt x (k0:Nat)) (iB x k0)=S at *;simp only[go_sem,e1,e2,e6,e7,e23,e24,e29,e30,e8];have hki:k0≤62:=by omega
   have hgl:=hrl k0 (by omega);generalize hL:(List.range k0).map (fun i=>nM size i (lX (dlt x (i:Nat)) (iB x i)))++List.replicate (x.orders.length-k0) 0=L at *;have b6:(0:Int)≤((k0:Nat):Int)∧((k0:Nat):Int)<((L.length:Nat):Int):=by omega
   refine dJ [i7] [(0,true),(1,true),(2,true),(3,true),(4,false),(5,false)] (by simp[R7c]) (by kernel_rfl) fun Hp Hr hp hr _ hr0=>?_
   have P_R7c:=(hp i7 (by simp)).trans R7c;have Q_R6c:=(hr j6 (by simp[n67])).trans R6c;simp only[go_sem,e1,e2,e6,e7,e23,e24,e29,e30,e8,Sq.LQ hki,List.length_map,b6,P_R7c,Q_R6c];refine bY so3 Q_R6c (by rw[List.length_map];exact⟨by omega,rfl,Nat.le_refl 1⟩) ?_;refine fC hr (by simp[n67]) ?_;have hset:∀(M:List Int) (v:Int),k0<M.length→(M.map aO).set k0 (nC ((M.map aO).getD k0 []) 0 [int v])=(M.set k0 v).map aO:=fun M v hM=>by
     obtain⟨u,hu⟩:=aW hM;rw[aF hu,List.map_set];rfl
   have R6d:aG HC j6 (some (⟨3,1,(L.map aO).set k0 (nC ((L.map aO).getD k0 []) 0 [int ((2^k0:Nat):Int)])⟩:Row)) j6=some (kK (L.set k0 ((2^k0:Nat):Int))):=by
     rw[aA];exact congrArg (fun l=>some (⟨3,1,l⟩:Row)) (hset L _ (by omega))
   have R7d:=(aC HC j6 (some (⟨3,1,(L.map aO).set k0 (nC ((L.map aO).getD k0 []) 0 [int ((2^k0:Nat):Int)])⟩:Row)) i7 n67.symm).trans R7c;have R8d:=(aC HC j6 (some (⟨3,1,(L.map aO).set k0 (nC ((L.map aO).getD k0 []) 0 [int ((2^k0:Nat):Int)])⟩:Row)) j8 n68.symm).trans R8c;generalize aG HC j6 _=HD at R6d R7d R8d ⊢;have w1:IntKind.i64.wrap (((size:Nat):Int)-1)=((size-1:Nat):Int):=by rw[aQ (by omega)];omega
   have hmin:rN ((size-1:Nat):Int) ((S.length:Nat):Int)=((min (size-1) S.length:Nat):Int):=by
     unfold rN;split <;> omega
   simp only[go_sem,e1,e2,e6,e7,e23,e24,e29,e30,e8];refine wQ (by simp only[go_sem,e8]) R8d fun Hf hf1 hf2=>?_
   have R6e:=(hf2 j6 n68).trans R6d;have R7e:=(hf2 i7 n78).trans R7d;have hmn:min (size-1) S.length≤S.length:=Nat.min_le_right _ _;have hnsM:nM size k0 S=(S.take (min (size-1) S.length)).foldl (fun s k=>qQ .or .i64 s (shV .shl .i64 1 k)) ((2^k0:Nat):Int):=by
     unfold nM
     congr 1
     by_cases h:size-1≤S.length
     · rw[Nat.min_eq_left h]
     · rw[Nat.min_eq_right (by omega),List.take_of_length_le (by omega),List.take_length]
   simp only[go_sem,e1,e2,e6,e7,e23,e24,e29,e30,e8,List.length_map,w1,hmin];generalize hmm:min (size-1) S.length=M at *;refine⟨by omega,?_⟩;have hTl:(S.take M).length=M:=by rw[List.length_take];omega
   have hmemT:∀a∈S.take M,0≤a∧a≤61:=fun a ha=>hmem a (List.mem_of_mem_take ha)
   have hmt:(S.map aO).take M=(S.take M).map aO:=List.map_take.symm;generalize S.take M=T at *;refine⟨fun ρ H=>∃(k:Nat),k≤M∧ρ 1=int (size:Nat)∧ρ 2=.rp (aS x) 0∧ρ 6=.os j6∧ρ 7=.op i7 0 0∧ρ 23=int (x.orders.length:Nat)∧ρ 24=int (k0:Nat)∧ρ 55=.sl (T.map aO)∧ρ 56=int (M:Nat)∧ρ 57=int k∧H j6=some (kK (L.set k0 ((T.take k).foldl (fun s k=>qQ .or .i64 s (shV .shl .i64 1 k)) ((2^k0:Nat):Int))))∧H i7=some (kK [(k0:Int)]),fun ρ _=>M-bE (ρ 57),⟨0,Nat.zero_le _,by simp only[go_sem,e1,e2,e6,e7,e23,e24,hmt,hTl],by simp only[go_sem,e1,e2,e6,e7,e23,e24,hmt,hTl],by simp only[go_sem,e1,e2,e6,e7,e23,e24,hmt,hTl],by simp only[go_sem,e1,e2,e6,e7,e23,e24,hmt,hTl],by simp only[go_sem,e1,e2,e6,e7,e23,e24,hmt,hTl],by simp only[go_sem,e1,e2,e6,e7,e23,e24,hmt,hTl],by simp only[go_sem,e1,e2,e6,e7,e23,e24,hmt,hTl],by simp only[go_sem,List.length_map,e1,e2,e6,e7,e23,e24,hmt,hTl],(by simp only[go_sem,e1,e2,e6,e7,e23,e24,hmt,hTl];rfl),R6e,R7e⟩,?_⟩;rintro ρ H ⟨k,hk,e1,e2,e6,e7,e23,e24,e55,e56,e57,R6,R7⟩;simp only[go_sem,e1,e2,e6,e7,e23,e24,e55,e56,e57];refine aB (fun hlt=>?_) (fun hge=>?_)
   · have hlt2:=ltB (by simpa using hlt)
     obtain⟨v,hv⟩:=aW (show k<T.length by omega);have hvb:=hmemT v (List.mem_of_getElem? hv);have hst:=Sq.fR (f:=fun(s k:Int)=>qQ .or .i64 s (shV .shl .i64 1 k)) (b:=((2^k0:Nat):Int)) hv;generalize (T.take k).foldl (fun s k=>qQ .or .i64 s (shV .shl .i64 1 k)) ((2^k0:Nat):Int)=cur at *;have g1:=aF (f:=aO) hv;have hcur:(L.set k0 cur)[k0]?=some cur:=List.getElem?_set_self (show k0<L.length by omega);have g2:=aF (f:=aO) hcur;have b7:(0:Int)≤((k0:Nat):Int)∧((k0:Nat):Int)<(((L.set k0 cur).length:Nat):Int):=by rw[List.length_set];omega
     have b8:=inB (show k<T.length by omega);simp only[go_sem,e1,e2,e6,e7,e23,e24,e55,e56,e57,List.length_map,g1,b8];refine jD [(0,true),(4,true),(5,true),(1,false),(2,false),(3,false),(6,true),(7,false),(8,false)] (by kernel_rfl) ?_;simp only[go_sem,e1,e2,e6,e7,e23,e24,e55,e56,e57,R6,R7,List.length_map,b7,g2];refine⟨by omega,?_⟩;refine⟨by omega,?_⟩;refine bY so3 R6 ⟨(by rw[List.length_map,List.length_set];omega:k0<((L.set k0 cur).map aO).length),rfl,Nat.le_refl 1⟩ ?_;simp only[go_sem,e1,e2,e6,e7,e23,e24,e55,e56,e57,bA (show k≤4611686018427387904 by omega)];refine⟨⟨k+1,hlt2,rfl,?_,?_⟩,by simp only[aH];omega⟩
     · rw[hst]
       refine congrArg (fun l=>some (⟨3,1,l⟩:Row)) ?_;refine(hset (L.set k0 cur) _ (show k0<(L.set k0 cur).length by omega)).trans ?_;rw[List.set_set]
     · rw[aC _ _ _ _ n67.symm];exact R7
   have hge:=geB hk (by simpa using hge);subst hge;rw[List.take_of_length_le (by omega),←hnsM]at R6;simp only[go_sem,e1,e2,e6,e7,e23,e24,e55,e56,e57,bA (show k0≤4611686018427387904 by omega)];refine⟨⟨k0+1,hlt,rfl,?_⟩,by simp only[aH];omega⟩;rw[R6];refine congrArg (fun l=>some (kK l)) ?_;rw[←hL,Ww _ (by rw[List.length_map,List.length_range]) (by omega),List.range_succ,List.map_append,←hSe];rfl
 have hge:=geB hk (by simpa using hge);subst hge;simp only[go_sem,e1,e2,e6,e23,e24];rw[Nat.sub_self,List.replicate_zero,List.append_nil]at R6;exact .tup _ _ (.cons _ _ _ _ (.row _ _ _ R6 (ConvE.refl _)) (.cons _ _ _ _ (.refl _) .nil))
end Go.Proofs.YtdlijlecpopadaaGreatDoor.Rx
end
