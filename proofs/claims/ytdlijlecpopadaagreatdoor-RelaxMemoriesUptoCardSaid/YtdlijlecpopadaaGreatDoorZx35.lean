/- Texts joined by a program: RxM, CuAcc. -/
import Derived.Test.YtdlijlecpopadaaGreatDoorZx23
import Derived.Test.YtdlijlecpopadaaGreatDoorZx34

section
set_option linter.unusedSimpArgs false
set_option linter.unusedVariables false
namespace Go.Proofs.YtdlijlecpopadaaGreatDoor.Rx
open Go.Aw Go.Aw.D Go.Proofs Ty Go.Nu Go.So
open Sq (W visP stopV hasR NetOk)
open Nu (ltB geB)
open Mv (convI convB convA NC.pc take_allP)
set_option maxRecDepth 100000
theorem ints_c (a b : List Int) (ha : a.length ≤ 1048576) : PC Tryz.prog 13 [.sl (a.map encInt), .sl (b.map encInt)] (boo (decide (a = b))) := by
  refine PC.body (c := Tryz.f13.body.getD .skip) (fun _ => false) mixed Tryz.func13 rfl (by kernel_rfl) ?_
  unfold Tryz.f13
  simp only [Option.getD_some]
  simp only [go_sem]
  refine acond_i (fun hb => ?_) (fun hb => ?_)
  · have hne : ¬ a = b := fun e => by subst e; simp at hb
    rw [decide_eq_false hne]
    simp only [go_sem]
    exact .refl _
  have hl : a.length = b.length := by simp at hb; omega
  simp only [go_sem]
  refine ⟨fun ρ H => ∃ (k : Nat), k ≤ a.length ∧ ρ 0 = .sl (a.map encInt) ∧ ρ 1 = .sl (b.map encInt) ∧ ρ 12 = int (a.length : Nat) ∧ ρ 13 = int k ∧ a.take k = b.take k, fun ρ _ => a.length - natOf (ρ 13), ⟨0, Nat.zero_le _, by simp only [go_sem], by simp only [go_sem], by simp only [go_sem, List.length_map], (by simp only [go_sem]; rfl), rfl⟩, ?_⟩
  rintro ρ H ⟨k, hk, e0, e1, e12, e13, hz⟩
  simp only [go_sem, e0, e1, e12, e13]
  refine acond_i (fun hlt => ?_) (fun hge => ?_)
  · have hlt := ltB (by simpa using hlt)
    obtain ⟨u, hu⟩ := getIn hlt
    obtain ⟨v, hv⟩ := getIn (l := b) (k := k) (by omega)
    have b1 := inB hlt
    have b2 := inB (show k < b.length by omega)
    simp only [go_sem, e0, e1, e12, e13]
    refine adraw_m [(0, true), (1, true), (2, true), (3, true), (4, true), (5, true), (6, true), (7, true), (8, true)] (by kernel_rfl) ?_
    simp only [go_sem, e0, e1, e12, e13, getD_map hu, getD_map hv, b1, b2]
    refine acond_i (fun hb => ?_) (fun hb => ?_)
    · have hne : ¬ a = b := fun e => by subst e; rw [hu] at hv; injection hv with hv; subst hv; simp at hb
      rw [decide_eq_false hne]
      simp only [go_sem]
      exact .refl _
    · have huv : u = v := by simpa using hb
      simp only [go_sem, e0, e1, e12, e13, wrapS (show k ≤ 4611686018427387904 by omega)]
      exact ⟨⟨k + 1, hlt, rfl, by rw [take_succ hu, take_succ hv, hz, huv]⟩, by simp only [natOf_int]; omega⟩
  have hge := geB hk (by simpa using hge)
  subst hge
  rw [List.take_length, hl, List.take_length] at hz
  rw [decide_eq_true hz]
  simp only [go_sem]
  exact .refl _
def nearA (x : Instance) (size : Int) : List Int × Int := if (decide (size < 1) || decide (size > 10)) = true then ([], 2) else (nearP x size.toNat, 0)
def nearB (x : Instance) (size : Int) : List Int × Int := if (decide (size < 1) || decide (size > 10)) = true then ([], 2) else (near32 x size.toNat, 0)
theorem nearA_c (x : Instance) (size : Int) (hn : x.orders.length ≤ 19) (hx : x.net.arcs.length ≤ 1048576) : PC Tryz.prog 11 [.agg (encInstance x), int size] (.tup [.sl ((nearA x size).1.map encInt), int (nearA x size).2]) := by
  unfold nearA
  by_cases h : (decide (size < 1) || decide (size > 10)) = true
  · rw [if_pos h]
    refine PC.body (c := Tryz.f11.body.getD .skip) (fun _ => false) mixed Tryz.func11 rfl (by kernel_rfl) ?_
    unfold Tryz.f11
    simp only [Option.getD_some]
    simp only [go_sem]
    refine acond_i (fun hb => ?_) (fun hb => ?_)
    · simp only [go_sem]
      exact .refl _
    · exact Bool.noConfusion (hb.symm.trans h)
  · rw [if_neg h]
    simp at h
    obtain ⟨n, rfl⟩ : ∃ n : Nat, size = (n : Nat) := ⟨size.toNat, by omega⟩
    rw [Int.toNat_natCast]
    exact near_c x n (by omega) (by omega) hn hx
theorem nearB_c (x : Instance) (size : Int) (hn : x.orders.length ≤ 19) (hx : x.net.arcs.length ≤ 1048576) : PC Tryz.prog 12 [.agg (encInstance x), int size] (.tup [.sl ((nearB x size).1.map encInt), int (nearB x size).2]) := by
  unfold nearB
  by_cases h : (decide (size < 1) || decide (size > 10)) = true
  · rw [if_pos h]
    refine PC.body (c := Tryz.f12.body.getD .skip) (fun _ => false) mixed Tryz.func12 rfl (by kernel_rfl) ?_
    unfold Tryz.f12
    simp only [Option.getD_some]
    simp only [go_sem]
    refine acond_i (fun hb => ?_) (fun hb => ?_)
    · simp only [go_sem]
      exact .refl _
    · exact Bool.noConfusion (hb.symm.trans h)
  · rw [if_neg h]
    simp at h
    obtain ⟨n, rfl⟩ : ∃ n : Nat, size = (n : Nat) := ⟨size.toNat, by omega⟩
    rw [Int.toNat_natCast]
    exact near32_c x n (by omega) (by omega) hn hx
def smA (i k : Nat) : Arc := ⟨i, k, 0, 10, [⟨0, 10⟩], []⟩
def smAs (i n : Nat) : List Arc := ((List.range n).filter fun k => i != k).map (smA i)
def smAll (n : Nat) : List Arc := (List.range n).flatMap fun i => smAs i 3
def smT : VType := ⟨⟨#[118]⟩, 1, 0, 0, [1], 0, 0, 0, 40, 100, 0, 0, 1, 0⟩
def smO (s : ByteArray) (i : Nat) : Order := ⟨s, [1], ⟨-1, 0, 0, 0⟩, ⟨(i : Int) + 1, 0, 90, 0⟩, 0, 5, 1, -1, -1, false⟩
def smNames : List ByteArray := [⟨#[111]⟩, ⟨#[112]⟩]
def smOs (n : Nat) : List Order := (List.range n).map fun i => smO (smNames.getD i ByteArray.empty) i
def smP : List ByteArray := [⟨#[72, 117, 98]⟩, ⟨#[65]⟩, ⟨#[66]⟩]
def smX : Instance := ⟨⟨smP, smAll 3⟩, [smT], smOs 2, [], []⟩
structure SmH (H : Heap) (i0 j1 ja jo jp jb : Nat) (ty : AV) (arcs : List Arc) (os : List Order) : Prop where
  r0 : ∃ cs, H i0 = some ⟨30, 6, [cs]⟩
  ne : i0 ≠ j1
  r1 : H j1 = some ⟨30, 6, [[.sl (smP.map Go.Aw.D.encStr), .os ja, ty, .os jo, .os jp, .os jb]]⟩
  ra : H ja = some ⟨139, 6, arcs.map encArc⟩
  ro : H jo = some ⟨143, 16, os.map encOrder⟩
  rp : H jp = some ⟨192, 2, []⟩
  rb : H jb = some ⟨192, 2, []⟩
abbrev smRow (ja : Nat) (ty : AV) (jo jp jb : Nat) : Row := ⟨30, 6, [[.sl (smP.map Go.Aw.D.encStr), .os ja, ty, .os jo, .os jp, .os jb]]⟩
theorem SmH.app {H : Heap} {i0 j1 ja jo jp jb : Nat} {ty : AV} {arcs : List Arc} {os : List Order} (h : SmH H i0 j1 ja jo jp jb ty arcs os) {j2 : Nat} (hj : H j2 = none) (c : Arc) :
    SmH (updH (updH (updH H ja none) j2 (some ⟨139, 6, (arcs ++ [c]).map encArc⟩)) j1 (some (smRow j2 ty jo jp jb))) i0 j1 j2 jo jp jb ty (arcs ++ [c]) os := by
  obtain ⟨⟨cs, r0⟩, ne, r1, ra, ro, rp, rb⟩ := h
  have n0 := ne_new r0 hj
  have n1 := ne_new r1 hj
  have no := ne_new ro hj
  have np := ne_new rp hj
  have nb := ne_new rb hj
  have a0 := row_ne' ra r0 rfl
  have ao := row_ne' ra ro rfl
  have ap := row_ne' ra rp rfl
  have ab := row_ne' ra rb rfl
  have o1 := row_ne' ro r1 rfl
  have p1 := row_ne' rp r1 rfl
  have c1 := row_ne' rb r1 rfl
  exact ⟨⟨cs, by rw [updH_ne _ _ _ _ ne, updH_ne _ _ _ _ n0, updH_ne _ _ _ _ a0.symm]; exact r0⟩, ne, updH_same _ _ _, by rw [updH_ne _ _ _ _ n1.symm, updH_same],
    by rw [updH_ne _ _ _ _ o1, updH_ne _ _ _ _ no, updH_ne _ _ _ _ ao.symm]; exact ro, by rw [updH_ne _ _ _ _ p1, updH_ne _ _ _ _ np, updH_ne _ _ _ _ ap.symm]; exact rp, by rw [updH_ne _ _ _ _ c1, updH_ne _ _ _ _ nb, updH_ne _ _ _ _ ab.symm]; exact rb⟩
theorem SmH.appO {H : Heap} {i0 j1 ja jo jp jb : Nat} {ty : AV} {arcs : List Arc} {os : List Order} (h : SmH H i0 j1 ja jo jp jb ty arcs os) {j2 : Nat} (hj : H j2 = none) (c : Order) :
    SmH (updH (updH (updH H jo none) j2 (some ⟨143, 16, (os ++ [c]).map encOrder⟩)) j1 (some (smRow ja ty j2 jp jb))) i0 j1 ja j2 jp jb ty arcs (os ++ [c]) := by
  obtain ⟨⟨cs, r0⟩, ne, r1, ra, ro, rp, rb⟩ := h
  have n0 := ne_new r0 hj
  have n1 := ne_new r1 hj
  have na := ne_new ra hj
  have np := ne_new rp hj
  have nb := ne_new rb hj
  have a0 := row_ne' ro r0 rfl
  have ao := row_ne' ro ra rfl
  have ap := row_ne' ro rp rfl
  have ab := row_ne' ro rb rfl
  have a1 := row_ne' ra r1 rfl
  have p1 := row_ne' rp r1 rfl
  have c1 := row_ne' rb r1 rfl
  exact ⟨⟨cs, by rw [updH_ne _ _ _ _ ne, updH_ne _ _ _ _ n0, updH_ne _ _ _ _ a0.symm]; exact r0⟩, ne, updH_same _ _ _, by rw [updH_ne _ _ _ _ a1, updH_ne _ _ _ _ na, updH_ne _ _ _ _ ao.symm]; exact ra,
    by rw [updH_ne _ _ _ _ n1.symm, updH_same], by rw [updH_ne _ _ _ _ p1, updH_ne _ _ _ _ np, updH_ne _ _ _ _ ap.symm]; exact rp, by rw [updH_ne _ _ _ _ c1, updH_ne _ _ _ _ nb, updH_ne _ _ _ _ ab.symm]; exact rb⟩
theorem SmH.types {H : Heap} {i0 j1 ja jo jp jb : Nat} {ty : AV} {arcs : List Arc} {os : List Order} (h : SmH H i0 j1 ja jo jp jb ty arcs os) (ty' : AV) : SmH (updH H j1 (some (smRow ja ty' jo jp jb))) i0 j1 ja jo jp jb ty' arcs os := by
  obtain ⟨⟨cs, r0⟩, ne, r1, ra, ro, rp, rb⟩ := h
  exact ⟨⟨cs, by rw [updH_ne _ _ _ _ ne]; exact r0⟩, ne, updH_same _ _ _, by rw [updH_ne _ _ _ _ (row_ne' ra r1 rfl)]; exact ra, by rw [updH_ne _ _ _ _ (row_ne' ro r1 rfl)]; exact ro, by rw [updH_ne _ _ _ _ (row_ne' rp r1 rfl)]; exact rp, by rw [updH_ne _ _ _ _ (row_ne' rb r1 rfl)]; exact rb⟩
theorem smOs_succ (k : Nat) : smOs (k + 1) = smOs k ++ [smO (smNames.getD k ByteArray.empty) k] := by
  unfold smOs; rw [List.range_succ, List.map_append]; rfl
theorem smOs_len (k : Nat) : (smOs k).length = k := by unfold smOs; rw [List.length_map, List.length_range]
theorem smAs_succ (i k : Nat) : smAs i (k + 1) = if (i != k) = true then smAs i k ++ [smA i k] else smAs i k := by
  unfold smAs
  rw [List.range_succ, List.filter_append, List.map_append]
  simp only [List.filter]
  cases (i != k) with
  | true => rfl
  | false => simp
theorem smAll_succ (i : Nat) : smAll (i + 1) = smAll i ++ smAs i 3 := by
  unfold smAll; rw [List.range_succ, List.flatMap_append]; simp
theorem smAs_len (i k : Nat) : (smAs i k).length ≤ k := by
  unfold smAs; rw [List.length_map]; exact Nat.le_trans (List.length_filter_le _ _) (by rw [List.length_range]; exact Nat.le_refl k)
theorem smAll_len : ∀ i, (smAll i).length ≤ 3 * i
  | 0 => Nat.le_refl 0
  | i + 1 => by
    rw [smAll_succ, List.length_append]
    have := smAll_len i
    have := smAs_len i 3
    omega
theorem sample_c : PC Tryz.prog 35 [] (.agg (encInstance smX)) := by
  refine PC.body (c := Tryz.f35.body.getD .skip) (fun t => t == 7 || t == 8) mixed Tryz.func35 rfl (by kernel_rfl) ?_
  unfold Tryz.f35
  simp only [Option.getD_some]
  simp only [go_sem]
  refine anew_i fun i0 h_i0 => ?_
  have R_i0 : updH noRows i0 (some (⟨30, 6, [[.sl [], .sl [], .sl [], .sl [], .sl [], .sl []]]⟩ : Row)) i0 = some ⟨30, 6, [[.sl [], .sl [], .sl [], .sl [], .sl [], .sl []]]⟩ := updH_same _ _ _
  generalize updH noRows i0 _ = H0 at R_i0 ⊢
  simp only [go_sem]
  refine anew_i fun a1 h_a1 => ?_
  have R_i0 := mono_n h_a1 (some (⟨9, 1, []⟩ : Row)) _ _ R_i0
  have R_a1 : updH H0 a1 (some (⟨9, 1, []⟩ : Row)) a1 = some ⟨9, 1, []⟩ := updH_same _ _ _
  generalize updH H0 a1 _ = H1 at R_i0 R_a1 ⊢
  refine anew_i fun a2 h_a2 => ?_
  have R_i0 := mono_n h_a2 (some (⟨139, 6, []⟩ : Row)) _ _ R_i0
  have R_a1 := mono_n h_a2 (some (⟨139, 6, []⟩ : Row)) _ _ R_a1
  have R_a2 : updH H1 a2 (some (⟨139, 6, []⟩ : Row)) a2 = some ⟨139, 6, []⟩ := updH_same _ _ _
  generalize updH H1 a2 _ = H2 at R_i0 R_a1 R_a2 ⊢
  refine anew_i fun b1 h_b1 => ?_
  have R_i0 := mono_n h_b1 (some (⟨9, 1, []⟩ : Row)) _ _ R_i0
  have R_a1 := mono_n h_b1 (some (⟨9, 1, []⟩ : Row)) _ _ R_a1
  have R_a2 := mono_n h_b1 (some (⟨9, 1, []⟩ : Row)) _ _ R_a2
  have R_b1 : updH H2 b1 (some (⟨9, 1, []⟩ : Row)) b1 = some ⟨9, 1, []⟩ := updH_same _ _ _
  generalize updH H2 b1 _ = H3 at R_i0 R_a1 R_a2 R_b1 ⊢
  refine anew_i fun b2 h_b2 => ?_
  have R_i0 := mono_n h_b2 (some (⟨139, 6, []⟩ : Row)) _ _ R_i0
  have R_a1 := mono_n h_b2 (some (⟨139, 6, []⟩ : Row)) _ _ R_a1
  have R_a2 := mono_n h_b2 (some (⟨139, 6, []⟩ : Row)) _ _ R_a2
  have R_b1 := mono_n h_b2 (some (⟨139, 6, []⟩ : Row)) _ _ R_b1
  have R_b2 : updH H3 b2 (some (⟨139, 6, []⟩ : Row)) b2 = some ⟨139, 6, []⟩ := updH_same _ _ _
  generalize updH H3 b2 _ = H4 at R_i0 R_a1 R_a2 R_b1 R_b2 ⊢
  refine anew_i fun jt h_jt => ?_
  have R_i0 := mono_n h_jt (some (⟨87, 14, []⟩ : Row)) _ _ R_i0
  have R_a1 := mono_n h_jt (some (⟨87, 14, []⟩ : Row)) _ _ R_a1
  have R_a2 := mono_n h_jt (some (⟨87, 14, []⟩ : Row)) _ _ R_a2
  have R_b1 := mono_n h_jt (some (⟨87, 14, []⟩ : Row)) _ _ R_b1
  have R_b2 := mono_n h_jt (some (⟨87, 14, []⟩ : Row)) _ _ R_b2
  have R_jt : updH H4 jt (some (⟨87, 14, []⟩ : Row)) jt = some ⟨87, 14, []⟩ := updH_same _ _ _
  generalize updH H4 jt _ = H5 at R_i0 R_a1 R_a2 R_b1 R_b2 R_jt ⊢
  refine anew_i fun jo h_jo => ?_
  have R_i0 := mono_n h_jo (some (⟨143, 16, []⟩ : Row)) _ _ R_i0
  have R_a1 := mono_n h_jo (some (⟨143, 16, []⟩ : Row)) _ _ R_a1
  have R_a2 := mono_n h_jo (some (⟨143, 16, []⟩ : Row)) _ _ R_a2
  have R_b1 := mono_n h_jo (some (⟨143, 16, []⟩ : Row)) _ _ R_b1
  have R_b2 := mono_n h_jo (some (⟨143, 16, []⟩ : Row)) _ _ R_b2
  have R_jt := mono_n h_jo (some (⟨143, 16, []⟩ : Row)) _ _ R_jt
  have R_jo : updH H5 jo (some (⟨143, 16, []⟩ : Row)) jo = some ⟨143, 16, []⟩ := updH_same _ _ _
  generalize updH H5 jo _ = H6 at R_i0 R_a1 R_a2 R_b1 R_b2 R_jt R_jo ⊢
  refine anew_i fun jp h_jp => ?_
  have R_i0 := mono_n h_jp (some (⟨192, 2, []⟩ : Row)) _ _ R_i0
  have R_a1 := mono_n h_jp (some (⟨192, 2, []⟩ : Row)) _ _ R_a1
  have R_a2 := mono_n h_jp (some (⟨192, 2, []⟩ : Row)) _ _ R_a2
  have R_b1 := mono_n h_jp (some (⟨192, 2, []⟩ : Row)) _ _ R_b1
  have R_b2 := mono_n h_jp (some (⟨192, 2, []⟩ : Row)) _ _ R_b2
  have R_jt := mono_n h_jp (some (⟨192, 2, []⟩ : Row)) _ _ R_jt
  have R_jo := mono_n h_jp (some (⟨192, 2, []⟩ : Row)) _ _ R_jo
  have R_jp : updH H6 jp (some (⟨192, 2, []⟩ : Row)) jp = some ⟨192, 2, []⟩ := updH_same _ _ _
  generalize updH H6 jp _ = H7 at R_i0 R_a1 R_a2 R_b1 R_b2 R_jt R_jo R_jp ⊢
  refine anew_i fun jb h_jb => ?_
  have R_i0 := mono_n h_jb (some (⟨192, 2, []⟩ : Row)) _ _ R_i0
  have R_a1 := mono_n h_jb (some (⟨192, 2, []⟩ : Row)) _ _ R_a1
  have R_a2 := mono_n h_jb (some (⟨192, 2, []⟩ : Row)) _ _ R_a2
  have R_b1 := mono_n h_jb (some (⟨192, 2, []⟩ : Row)) _ _ R_b1
  have R_b2 := mono_n h_jb (some (⟨192, 2, []⟩ : Row)) _ _ R_b2
  have R_jt := mono_n h_jb (some (⟨192, 2, []⟩ : Row)) _ _ R_jt
  have R_jo := mono_n h_jb (some (⟨192, 2, []⟩ : Row)) _ _ R_jo
  have R_jp := mono_n h_jb (some (⟨192, 2, []⟩ : Row)) _ _ R_jp
  have R_jb : updH H7 jb (some (⟨192, 2, []⟩ : Row)) jb = some ⟨192, 2, []⟩ := updH_same _ _ _
  generalize updH H7 jb _ = H8 at R_i0 R_a1 R_a2 R_b1 R_b2 R_jt R_jo R_jp R_jb ⊢
  refine anew_i fun j1 h_j1 => ?_
  have n01 := ne_new R_i0 h_j1
  have R_i0 := mono_n h_j1 (some (⟨30, 6, [[.sl [], .sl [], .sl [], .sl [], .sl [], .sl []]]⟩ : Row)) _ _ R_i0
  have R_a1 := mono_n h_j1 (some (⟨30, 6, [[.sl [], .sl [], .sl [], .sl [], .sl [], .sl []]]⟩ : Row)) _ _ R_a1
  have R_a2 := mono_n h_j1 (some (⟨30, 6, [[.sl [], .sl [], .sl [], .sl [], .sl [], .sl []]]⟩ : Row)) _ _ R_a2
  have R_b1 := mono_n h_j1 (some (⟨30, 6, [[.sl [], .sl [], .sl [], .sl [], .sl [], .sl []]]⟩ : Row)) _ _ R_b1
  have R_b2 := mono_n h_j1 (some (⟨30, 6, [[.sl [], .sl [], .sl [], .sl [], .sl [], .sl []]]⟩ : Row)) _ _ R_b2
  have R_jt := mono_n h_j1 (some (⟨30, 6, [[.sl [], .sl [], .sl [], .sl [], .sl [], .sl []]]⟩ : Row)) _ _ R_jt
  have R_jo := mono_n h_j1 (some (⟨30, 6, [[.sl [], .sl [], .sl [], .sl [], .sl [], .sl []]]⟩ : Row)) _ _ R_jo
  have R_jp := mono_n h_j1 (some (⟨30, 6, [[.sl [], .sl [], .sl [], .sl [], .sl [], .sl []]]⟩ : Row)) _ _ R_jp
  have R_jb := mono_n h_j1 (some (⟨30, 6, [[.sl [], .sl [], .sl [], .sl [], .sl [], .sl []]]⟩ : Row)) _ _ R_jb
  have R_j1 : updH H8 j1 (some (⟨30, 6, [[.sl [], .sl [], .sl [], .sl [], .sl [], .sl []]]⟩ : Row)) j1 = some ⟨30, 6, [[.sl [], .sl [], .sl [], .sl [], .sl [], .sl []]]⟩ := updH_same _ _ _
  generalize updH H8 j1 _ = H9 at R_i0 R_a1 R_a2 R_b1 R_b2 R_jt R_jo R_jp R_jb R_j1 ⊢
  simp only [go_sem]
  refine wputE_n R_j1 (by simp) ?_
  have S : SmH (updH H9 j1 (some (smRow a2 (.os jt) jo jp jb))) i0 j1 a2 jo jp jb (.os jt) (smAll 0) (smOs 0) :=
    ⟨⟨_, by rw [updH_ne _ _ _ _ n01]; exact R_i0⟩, n01, updH_same _ _ _, by rw [updH_ne _ _ _ _ (row_ne' R_a2 R_j1 rfl)]; exact R_a2, by rw [updH_ne _ _ _ _ (row_ne' R_jo R_j1 rfl)]; exact R_jo, by rw [updH_ne _ _ _ _ (row_ne' R_jp R_j1 rfl)]; exact R_jp, by rw [updH_ne _ _ _ _ (row_ne' R_jb R_j1 rfl)]; exact R_jb⟩
  generalize hG : updH H9 j1 _ = G
  replace S : SmH G i0 j1 a2 jo jp jb (.os jt) (smAll 0) (smOs 0) := by rw [← hG]; exact S
  clear hG
  simp only [go_sem]
  refine ⟨fun ρ H => ∃ (k : Nat) (ja : Nat), k ≤ 3 ∧ ρ 0 = .op i0 0 0 ∧ ρ 1 = .op j1 0 0 ∧ ρ 9 = int k ∧ SmH H i0 j1 ja jo jp jb (.os jt) (smAll k) (smOs 0), fun ρ _ => 3 - natOf (ρ 9), ⟨0, a2, Nat.zero_le _, by simp only [go_sem], by simp only [go_sem], (by simp only [go_sem]; rfl), S⟩, ?_⟩
  rintro ρ H ⟨k, ja, hk, e0, e1, e9, S⟩
  simp only [go_sem, e0, e1, e9]
  refine acond_i (fun hlt => ?_) (fun hge => ?_)
  · have hlt : k < 3 := by have := of_decide_eq_true hlt; omega
    have hal := smAll_len k
    have hsu := smAll_succ k
    simp only [go_sem, e0, e1, e9]
    generalize hk0 : k = k0 at *
    refine ⟨fun ρ H => ∃ (k : Nat) (ja : Nat), k ≤ 3 ∧ ρ 0 = .op i0 0 0 ∧ ρ 1 = .op j1 0 0 ∧ ρ 2 = int (k0 : Nat) ∧ ρ 9 = int (k0 : Nat) ∧ ρ 12 = int k ∧ SmH H i0 j1 ja jo jp jb (.os jt) (smAll k0 ++ smAs k0 k) (smOs 0), fun ρ _ => 3 - natOf (ρ 12), ⟨0, ja, Nat.zero_le _, by simp only [go_sem, e0, e1, e9], by simp only [go_sem, e0, e1, e9], by simp only [go_sem, e0, e1, e9], by simp only [go_sem, e0, e1, e9], (by simp only [go_sem, e0, e1, e9]; rfl), by rw [show smAll k0 ++ smAs k0 0 = smAll k0 from List.append_nil _]; exact S⟩, ?_⟩
    rintro ρ H ⟨k, ja, hk, e0, e1, e2, e9, e12, S⟩
    simp only [go_sem, e0, e1, e2, e9, e12]
    refine acond_i (fun hlt => ?_) (fun hge => ?_)
    · have hlt2 : k < 3 := by have := of_decide_eq_true hlt; omega
      have hsl := smAs_len k0 k
      have hss := smAs_succ k0 k
      simp only [go_sem, e0, e1, e2, e9, e12]
      have hbe : (((k0 : Nat) : Int) != ((k : Nat) : Int)) = (k0 != k) := by rw [Bool.eq_iff_iff]; simp only [bne_iff_ne, ne_eq]; omega
      rw [hbe]
      refine acond_i (fun hb => ?_) (fun hb => ?_)
      · rw [if_pos hb] at hss
        simp only [go_sem, e0, e1, e2, e9, e12, S.r1]
        refine wappE_i S.ra ⟨rfl, rfl⟩ (by simp only [go_sem]) (by simp only [List.length_map, List.length_append, List.length_cons, List.length_nil]; omega) (fun j2 hj2 => ?_)
        have e := S.app hj2 (smA k0 k)
        rw [List.map_append] at e
        simp only [go_sem, e0, e1, e2, e9, e12]
        refine wputE_1 so23 ((updH_ne _ _ _ _ (ne_new S.r1 hj2)).trans ((updH_ne _ _ _ _ (row_ne' S.ra S.r1 rfl).symm).trans S.r1)) (by simp) ?_
        simp only [go_sem, e0, e1, e2, e9, e12, wrapS (show k ≤ 4611686018427387904 by omega)]
        refine ⟨⟨k + 1, j2, hlt2, rfl, ?_⟩, by simp only [natOf_int]; omega⟩
        rw [hss, ← List.append_assoc]
        exact e
      · rw [if_neg (fun h => Bool.noConfusion (hb.symm.trans h))] at hss
        simp only [go_sem, e0, e1, e2, e9, e12, wrapS (show k ≤ 4611686018427387904 by omega)]
        exact ⟨⟨k + 1, ja, hlt2, rfl, by rw [hss]; exact S⟩, by simp only [natOf_int]; omega⟩
    have hge : k = 3 := by have := of_decide_eq_false hge; omega
    subst hge
    simp only [go_sem, e0, e1, e2, e9, e12, wrapS (show k0 ≤ 4611686018427387904 by omega)]
    exact ⟨⟨k0 + 1, ja, hlt, rfl, by rw [hsu]; exact S⟩, by simp only [natOf_int]; omega⟩
  have hge : k = 3 := by have := of_decide_eq_false hge; omega
  subst hge
  simp only [go_sem, e0, e1, e9]
  refine wputE_1 so26 S.r1 (by simp) ?_
  have S2 := S.types (.sl [encVType smT])
  generalize hG : updH H j1 _ = G2
  replace S2 : SmH G2 i0 j1 ja jo jp jb (.sl [encVType smT]) (smAll 3) (smOs 0) := by rw [← hG]; exact S2
  clear hG S
  simp only [go_sem, e0, e1, e9]
  have hnm : AV.sl [[.v (.string ⟨#[111]⟩)], [.v (.string ⟨#[112]⟩)]] = .sl (smNames.map Go.Aw.D.encStr) := rfl
  refine ⟨fun ρ H => ∃ (k : Nat) (jo : Nat), k ≤ 2 ∧ ρ 0 = .op i0 0 0 ∧ ρ 1 = .op j1 0 0 ∧ ρ 36 = .sl (smNames.map Go.Aw.D.encStr) ∧ ρ 37 = int (2 : Nat) ∧ ρ 38 = int k ∧ SmH H i0 j1 ja jo jp jb (.sl [encVType smT]) (smAll 3) (smOs k), fun ρ _ => 2 - natOf (ρ 38), ⟨0, jo, Nat.zero_le _, by simp only [go_sem, e0, e1, hnm], by simp only [go_sem, e0, e1, hnm], by simp only [go_sem, e0, e1, hnm], by simp only [go_sem, List.length_map, e0, e1, hnm], (by simp only [go_sem, e0, e1, hnm]; rfl), S2⟩, ?_⟩
  rintro ρ H ⟨k, jo, hk, e0, e1, e36, e37, e38, S⟩
  simp only [go_sem, e0, e1, e36, e37, e38]
  refine acond_i (fun hlt => ?_) (fun hge => ?_)
  · have hlt : k < 2 := by have := of_decide_eq_true hlt; omega
    obtain ⟨nm, hn⟩ := getIn (l := smNames) (k := k) hlt
    have b1 := inB (show k < smNames.length from hlt)
    have hso := smOs_succ k
    have hol := smOs_len k
    have hgn : smNames.getD k ByteArray.empty = nm := by rw [List.getD, hn]; rfl
    rw [hgn] at hso
    simp only [go_sem, e0, e1, e36, e37, e38, getD_map hn, b1, S.r1]
    rw [wrapS (show k ≤ 4611686018427387904 by omega)]
    refine wappE_i S.ro ⟨rfl, rfl⟩ (by simp only [go_sem]) (by simp only [List.length_map, hol, List.length_cons, List.length_nil]; omega) (fun j2 hj2 => ?_)
    have e := S.appO hj2 (smO nm k)
    rw [List.map_append] at e
    simp only [go_sem, e0, e1, e36, e37, e38]
    refine wputE_1 so27 ((updH_ne _ _ _ _ (ne_new S.r1 hj2)).trans ((updH_ne _ _ _ _ (row_ne' S.ro S.r1 rfl).symm).trans S.r1)) (by simp) ?_
    simp only [go_sem, e0, e1, e36, e37, e38, wrapS (show k ≤ 4611686018427387904 by omega)]
    refine ⟨⟨k + 1, j2, hlt, rfl, ?_⟩, by simp only [natOf_int]; omega⟩
    rw [hso]
    exact e
  have hge : k = 2 := by have := of_decide_eq_false hge; omega
  subst hge
  obtain ⟨cs, r0⟩ := S.r0
  simp only [go_sem, e0, e1, e36, e37, e38, S.r1]
  refine wputE_n r0 (by simp) ?_
  have n0 := S.ne
  have a0 := row_ne' S.ra r0 rfl
  have o0 := row_ne' S.ro r0 rfl
  have p0 := row_ne' S.rp r0 rfl
  have c0 := row_ne' S.rb r0 rfl
  simp only [go_sem, e0, e1, e36, e37, e38]
  refine .agg _ _ (.cons _ _ _ _ (.refl _) (.cons _ _ _ _ (.row _ _ _ ((updH_ne _ _ _ _ a0).trans S.ra) (ConvE.refl _)) (.cons _ _ _ _ (.refl _) (.cons _ _ _ _ (.row _ _ _ ((updH_ne _ _ _ _ o0).trans S.ro) (ConvE.refl _)) (.cons _ _ _ _ (.row _ _ _ ((updH_ne _ _ _ _ p0).trans S.rp) (ConvE.refl _)) (.cons _ _ _ _ (.row _ _ _ ((updH_ne _ _ _ _ c0).trans S.rb) (ConvE.refl _)) .nil))))))
theorem smX_xb : XB 1 smX where
  net := ⟨by decide +kernel, by decide +kernel, by decide +kernel⟩
  dim := by decide +kernel
  cap := by decide +kernel
  D := by decide
  n := by decide
  types := by decide
def smD : List ByteArray := [⟨#[50, 53, 49, 54, 53, 56, 50, 52, 48]⟩, ⟨#[54, 55, 49, 48, 56, 56, 54, 52]⟩]
theorem ex_near1 : nearA smX 1 = ([1, 2], 0) := by decide +kernel
theorem ex_near2 : nearA smX 2 = ([3, 3], 0) := by decide +kernel
theorem ex_near0 : nearA smX 0 = ([], 2) := by decide +kernel
theorem ex_bound : boundP smX 0 smD [1, 2] = (⟨#[56, 51, 56, 56, 54, 48, 56, 48]⟩, true, 0) := by decide +kernel
theorem ex_bound2 : boundP smX 0 [⟨#[49]⟩, ⟨#[120]⟩] [1, 2] = (emp, false, 3) := by decide +kernel
theorem ex_routes : routesP smX 0 [1, 2] = (4, 0) := by decide +kernel
theorem ex_mem1 : memP [1, 2] 1 1 = 2 := by decide +kernel
theorem ex_mem2 : memP [3, 3] 1 1 = 3 := by decide +kernel
theorem examples_c : PC Tryz.prog 10 [] (boo true) := by
  have hn1 := nearA_c smX 1 (by decide) (by decide)
  have hn2 := nearA_c smX 2 (by decide) (by decide)
  have hn0 := nearA_c smX 0 (by decide) (by decide)
  rw [ex_near1] at hn1
  rw [ex_near2] at hn2
  rw [ex_near0] at hn0
  have hb1 := bound_c smX smX_xb (by decide) 0 smD [1, 2] (by decide) (by decide) (by decide)
  rw [ex_bound] at hb1
  have hb2 := bound_c smX smX_xb (by decide) 0 [⟨#[49]⟩, ⟨#[120]⟩] [1, 2] (by decide) (by decide) (by decide)
  rw [ex_bound2] at hb2
  have hr := routes_c smX smX_xb 0 [1, 2] (by decide)
  rw [ex_routes] at hr
  have hm1 := memory_c [1, 2] 1 1 (by decide) ⟨by decide, by decide⟩ (by decide)
  rw [ex_mem1] at hm1
  have hm2 := memory_c [3, 3] 1 1 (by decide) ⟨by decide, by decide⟩ (by decide)
  rw [ex_mem2] at hm2
  refine PC.body (c := Tryz.f10.body.getD .skip) (fun _ => false) mixed Tryz.func10 rfl (by kernel_rfl) ?_
  unfold Tryz.f10
  simp only [Option.getD_some]
  simp only [go_sem]
  refine PC.use sample_c ?_
  simp only [go_sem]
  refine anew_i fun i1 hi10 => ?_
  simp only [go_sem]
  refine wputE_n (updH_same _ _ _) (by simp [encInstance_len]) ?_
  generalize hGi1 : updH (updH _ i1 _) i1 _ = HGi1
  have R1 : HGi1 i1 = some ((⟨30, 6, [encInstance smX]⟩ : Row)) := by rw [← hGi1, updH_same]; try rfl
  clear hGi1 hi10
  simp only [go_sem, R1]
  have hi1 := ints_c [1, 2] [1, 2] (by decide)
  have hi2 := ints_c [3, 3] [3, 3] (by decide)
  refine PC.use hn1 ?_
  simp only [go_sem, R1]
  refine PC.use hn2 ?_
  simp only [go_sem, R1]
  refine ⟨_, fun _ => PC.q hi1 rfl, ?_⟩
  simp only [go_sem, R1]
  refine ⟨_, fun _ => PC.q hi2 rfl, ?_⟩
  simp only [go_sem, R1]
  refine acond_i (fun hb => nomatch hb) (fun _ => ?_)
  simp only [go_sem, R1]
  refine PC.use hb1 ?_
  simp only [go_sem, R1]
  refine PC.use hr ?_
  simp only [go_sem, R1]
  refine PC.use hb2 ?_
  simp only [go_sem, R1]
  refine PC.use hn0 ?_
  simp only [go_sem, R1]
  refine ⟨_, fun _ => PC.q hm1 rfl, ?_⟩
  simp only [go_sem, R1]
  refine ⟨_, fun _ => PC.q hm2 rfl, ?_⟩
  simp only [go_sem, R1]
  exact .refl _
end Go.Proofs.YtdlijlecpopadaaGreatDoor.Rx
end

section
set_option linter.unusedSimpArgs false
set_option linter.unusedVariables false
namespace Go.Proofs.YtdlijlecpopadaaGreatDoor
open Go.Aw Go.Aw.D Go.Proofs Ty
set_option maxRecDepth 100000
theorem opt_nil {α : Type} {b : Bool} {f : α} (h : opt b f = []) : b = false := by cases b <;> simp [opt] at h ⊢
theorem inR_iff {n a b : Int} : inR n a b = true ↔ a ≤ n ∧ n ≤ b := by
  unfold inR
  simp only [Bool.and_eq_true, decide_eq_true_eq]
theorem not_f {b : Bool} (h : (!b) = false) : b = true := by simpa using h
structure TypeB (t : VType) (d : Int) : Prop where
  cap : capR t.cap d = true
  skills : 0 ≤ t.skills ∧ t.skills ≤ 1073741823
  start : 0 ≤ t.start ∧ t.start ≤ t.close
  close : t.close ≤ 4096
  drive : 1 ≤ t.drive ∧ t.drive ≤ 4096
  rest : 0 ≤ t.rest ∧ t.rest ≤ 4096
  count : 0 ≤ t.count ∧ t.count ≤ 10
theorem typeB_of {n : Network} {l : List VType} {k : Nat} {t : VType} (h : typeErrs n l k t = []) : TypeB t (dimsR l) := by
  unfold typeErrs at h
  simp only [List.nil_append, List.append_eq_nil_iff] at h
  obtain ⟨⟨⟨⟨⟨⟨⟨⟨_, _⟩, h3⟩, _⟩, h5⟩, h6⟩, h7⟩, h8⟩, h9⟩ := h
  have e3 := inR_iff.1 (not_f (opt_nil h3))
  have e5 := not_f (opt_nil h5)
  have e6 := inR_iff.1 (not_f (opt_nil h6))
  have e7 := Bool.or_eq_false_iff.1 (opt_nil h7)
  have e8 := Bool.or_eq_false_iff.1 (opt_nil h8)
  have q7 := inR_iff.1 (not_f e7.1)
  have q72 : ¬ t.close > 4096 := by simpa using e7.2
  exact ⟨e5, e6, q7, by omega, inR_iff.1 (not_f e8.1), inR_iff.1 (not_f e8.2), e3⟩
structure OrdB (o : Order) (d : Int) : Prop where
  load : rightL o.load d = true
  pick : -1 ≤ o.pick.place
  drop : -1 ≤ o.drop.place
  both : (o.pick.place == -1 && o.drop.place == -1) = false
  wpick : windowR o.pick = 0
  wdrop : windowR o.drop = 0
  skills : 0 ≤ o.skills ∧ o.skills ≤ 1073741823
  penalty : -1 ≤ o.penalty ∧ o.penalty ≤ 1000000
theorem ordB_of {P : Nat} {d T : Int} {l : List Order} {k : Nat} {o : Order} (h : orderErrs P d T l k o = []) : OrdB o d := by
  unfold orderErrs at h
  simp only [List.nil_append, List.append_eq_nil_iff] at h
  obtain ⟨⟨⟨⟨⟨⟨⟨_, _⟩, h3⟩, h4⟩, h5⟩, h6⟩, h7⟩, h8⟩ := h
  have e4 := Bool.or_eq_false_iff.1 (opt_nil h4)
  have e6 := Bool.or_eq_false_iff.1 (opt_nil h6)
  have e8 := opt_nil h8
  simp only [Bool.or_eq_false_iff] at e8
  refine ⟨not_f (opt_nil h3), (inR_iff.1 (not_f e4.1)).1, (inR_iff.1 (not_f e4.2)).1, opt_nil h5, by simpa using e6.1, by simpa using e6.2, inR_iff.1 (not_f (opt_nil h7)), inR_iff.1 (not_f e8.1.1.1.1.1.1)⟩
structure ArcOk (a : Arc) : Prop where
  travel : travelR a.travel = []
  slow : a.slow.length ≤ 16
  pt : ∀ p ∈ a.slow, (0 ≤ p.t ∧ p.t ≤ 4096) ∧ 0 ≤ p.a ∧ p.a ≤ 4096
theorem arcOk_of {n : Network} {k : Nat} {a : Arc} (ha : n.arcs[k]? = some a) (h : arcR n k = []) : ArcOk a := by
  unfold arcR at h
  rw [arcAt_get ha] at h
  simp only [List.nil_append, List.append_eq_nil_iff, List.map_eq_nil_iff] at h
  obtain ⟨⟨⟨_, h4⟩, h5⟩, h6⟩ := h
  have e5 : ¬ (a.slow.length : Int) > 16 := by simpa using opt_nil h5
  refine ⟨h4, by omega, fun p hp => ?_⟩
  obtain ⟨i, hi, rfl⟩ := List.getElem_of_mem hp
  have := List.flatMap_eq_nil_iff.1 h6 i (List.mem_range.2 hi)
  have hb := opt_nil this
  unfold badSlow at hb
  rw [ptAt_get (List.getElem?_eq_getElem hi)] at hb
  simp only [Bool.or_eq_false_iff] at hb
  exact ⟨inR_iff.1 (not_f hb.1.1), inR_iff.1 (not_f hb.1.2)⟩
structure PairB (N : Int) (q : Pair) : Prop where
  a : 0 ≤ q.a ∧ q.a < N
  b : 0 ≤ q.b ∧ q.b < N
  ne : q.a ≠ q.b
theorem pairB_of {N : Int} {l : List Pair} {w : ByteArray} {s : Bool} (h : pairsR N l w s = []) : l.length ≤ 16 ∧ ∀ q ∈ l, PairB N q := by
  unfold pairsR at h
  rw [List.append_eq_nil_iff] at h
  have e1 : ¬ (l.length : Int) > 16 := by simpa using opt_nil h.1
  refine ⟨by omega, fun q hq => ?_⟩
  obtain ⟨i, hi, rfl⟩ := List.getElem_of_mem hq
  have := List.flatMap_eq_nil_iff.1 h.2 i (List.mem_range.2 hi)
  unfold pairFaults at this
  have ep : pAt l i = l[i] := by simp [pAt, List.getD, hi]
  rw [ep] at this
  split at this
  · simp at this
  · rename_i hb
    unfold Go.Proofs.YtdlijlecpopadaaGreatDoor.badPair at hb
    simp only [Bool.or_eq_false_iff, decide_eq_false_iff_not] at hb
    exact ⟨by omega, by omega, by simpa using hb.2⟩
structure Acc (x : Instance) : Prop where
  arcs : x.net.arcs.length ≤ 1024
  arc : ∀ a ∈ x.net.arcs, ArcOk a
  types : 1 ≤ x.types.length ∧ x.types.length ≤ 6
  type : ∀ t ∈ x.types, TypeB t (dimsR x.types)
  orders : x.orders.length ≤ 10
  order : ∀ o ∈ x.orders, OrdB o (dimsR x.types)
  apart : x.apart.length ≤ 16
  apartB : ∀ q ∈ x.apart, PairB x.orders.length q
  before : x.before.length ≤ 16
  beforeB : ∀ q ∈ x.before, PairB x.orders.length q
theorem acc_of {x : Instance} (h : checkR x = []) : Acc x := by
  unfold checkR at h
  simp only [List.append_eq_nil_iff, List.map_eq_nil_iff] at h
  obtain ⟨⟨⟨hn, ht⟩, ho⟩, hr⟩ := h
  unfold netR at hn
  simp only [List.append_eq_nil_iff] at hn
  unfold typesR at ht
  rw [List.append_eq_nil_iff] at ht
  unfold ordersR at ho
  rw [List.append_eq_nil_iff] at ho
  unfold rulesR at hr
  rw [List.append_eq_nil_iff] at hr
  obtain ⟨r1, r2⟩ := pairB_of hr.1
  obtain ⟨r3, r4⟩ := pairB_of hr.2
  have e1 : ¬ (x.net.arcs.length : Int) > 1024 := by simpa using opt_nil hn.1.2
  have e2 := inR_iff.1 (not_f (opt_nil ht.1))
  have e3 : ¬ (x.orders.length : Int) > 10 := by simpa using opt_nil ho.1
  refine ⟨by omega, fun a ha => ?_, by omega, fun t htm => ?_, by omega, fun o hom => ?_, r1, r2, r3, r4⟩
  · obtain ⟨i, hi, rfl⟩ := List.getElem_of_mem ha
    exact arcOk_of (List.getElem?_eq_getElem hi) (List.flatMap_eq_nil_iff.1 hn.2 i (List.mem_range.2 hi))
  · obtain ⟨i, hi, rfl⟩ := List.getElem_of_mem htm
    have := List.flatMap_eq_nil_iff.1 ht.2 i (List.mem_range.2 hi)
    unfold typeFaults at this
    rw [List.map_eq_nil_iff, vtAt_get (List.getElem?_eq_getElem hi)] at this
    exact typeB_of this
  · obtain ⟨i, hi, rfl⟩ := List.getElem_of_mem hom
    have := List.flatMap_eq_nil_iff.1 ho.2 i (List.mem_range.2 hi)
    unfold orderFaults at this
    rw [List.map_eq_nil_iff, orAt_get (List.getElem?_eq_getElem hi)] at this
    exact ordB_of this
end Go.Proofs.YtdlijlecpopadaaGreatDoor
end
