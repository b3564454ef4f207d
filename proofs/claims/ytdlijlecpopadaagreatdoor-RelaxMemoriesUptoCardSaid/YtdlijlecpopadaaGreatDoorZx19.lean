/- Texts joined by a program: NuM. -/
import Derived.Test.YtdlijlecpopadaaGreatDoorZx18

set_option linter.unusedSimpArgs false
set_option linter.unusedVariables false
namespace Go.Proofs.YtdlijlecpopadaaGreatDoor.Nu
open Go.Aw Go.Aw.D Go.Proofs Ty Go.Nu
set_option maxRecDepth 100000
theorem cmp_bytes : ∀ {l r : List UInt8}, l.all isD = true → r.all isD = true → l.length = r.length → Lib.compareBytes l r = cmpI (valL l) (valL r)
  | [], [], _, _, _ => by rw [cmpI_eq rfl]; rfl
  | [], _ :: _, _, _, h => by simp at h
  | _ :: _, [], _, _, h => by simp at h
  | a :: l, b :: r, hl, hr, h => by
    simp only [List.all_cons, Bool.and_eq_true] at hl hr
    simp only [List.length_cons, Nat.add_right_cancel_iff] at h
    have ih := cmp_bytes hl.2 hr.2 h
    have ea : valL (a :: l) = (a.toNat - 48) * 10 ^ l.length + valL l := by
      have := valL_append [a] l
      simpa [valL] using this
    have eb : valL (b :: r) = (b.toNat - 48) * 10 ^ r.length + valL r := by
      have := valL_append [b] r
      simpa [valL] using this
    have h1 := valL_lt hl.2
    have h2 := valL_lt hr.2
    have da := isD_iff.1 hl.1
    have db := isD_iff.1 hr.1
    rw [Lib.compareBytes, ea, eb, ← h] at *
    have lt1 : a < b ↔ a.toNat < b.toNat := UInt8.lt_iff_toNat_lt
    have lt2 : b < a ↔ b.toNat < a.toNat := UInt8.lt_iff_toNat_lt
    split
    · rename_i hab
      rw [lt1] at hab
      have : (a.toNat - 48 + 1) * 10 ^ l.length ≤ (b.toNat - 48) * 10 ^ l.length := Nat.mul_le_mul_right _ (by omega)
      rw [Nat.add_mul] at this
      rw [cmpI_lt (by omega)]
    · split
      · rename_i hab
        rw [lt2] at hab
        have : (b.toNat - 48 + 1) * 10 ^ l.length ≤ (a.toNat - 48) * 10 ^ l.length := Nat.mul_le_mul_right _ (by omega)
        rw [Nat.add_mul] at this
        rw [cmpI_gt (by omega)]
      · rename_i n1 n2
        rw [lt1] at n1
        rw [lt2] at n2
        have : a.toNat = b.toNat := by omega
        rw [ih, this]
        generalize (b.toNat - 48) * 10 ^ l.length = p
        unfold cmpI
        have c1 : (((p + valL l : Nat) : Int) < ((p + valL r : Nat) : Int)) ↔ ((valL l : Nat) : Int) < ((valL r : Nat) : Int) := by omega
        have c2 : (((p + valL r : Nat) : Int) < ((p + valL l : Nat) : Int)) ↔ ((valL r : Nat) : Int) < ((valL l : Nat) : Int) := by omega
        simp only [c1, c2]
theorem wcompare_c (m n : Nat) : PC Tryz.prog 116 [str (dec m), str (dec n)] (int (cmpI m n)) := by
  have hm := size_dec m
  have hn := size_dec n
  have hmono : ∀ {p q : Nat}, (Lib.decDigits p).length < (Lib.decDigits q).length → p < q := fun {p q} h => by
    have h1 := (dec_len_le (n := p) (k := (Lib.decDigits p).length) (dec_len_pos p)).1 (Nat.le_refl _)
    rcases Nat.lt_or_ge p q with h2 | h2
    · exact h2
    · have := (dec_len_le (n := q) (k := (Lib.decDigits p).length) (dec_len_pos p)).2 (by omega)
      omega
  refine PC.body (c := Tryz.f116.body.getD .skip) (fun _ => false) mixed Tryz.func116 rfl (by kernel_rfl) ?_
  unfold Tryz.f116
  simp only [Option.getD_some]
  simp only [go_sem]
  refine acond_i (fun h => ?_) (fun h => ?_)
  · have h : (dec m).size ≠ (dec n).size := neN h
    simp only [go_sem]
    refine acond_i (fun h2 => ?_) (fun h2 => ?_)
    · have h2 := ltB h2
      simp only [go_sem]
      have := hmono (p := m) (q := n) (by omega)
      exact cI (by rw [cmpI_lt (by omega)])
    · have h2 : ¬ (dec m).size < (dec n).size := by have := of_decide_eq_false h2; omega
      simp only [go_sem]
      have := hmono (p := n) (q := m) (by omega)
      exact cI (by rw [cmpI_gt (by omega)])
  · have h : (dec m).size = (dec n).size := eqN h
    simp only [go_sem]
    refine PC.use (scmp_c (dec m) (dec n)) ?_
    simp only [go_sem]
    refine cI ?_
    rw [bl_dec, bl_dec, cmp_bytes (dec_all m) (dec_all n) (by omega), valL_dec, valL_dec]
theorem cmp_dec (a b : ByteArray) (ha : rightN a = true) (hb : rightN b = true) : PC Tryz.prog 116 [str a, str b] (int (cmpI (valN a) (valN b))) := by
  have := wcompare_c (valN a) (valN b)
  rwa [dec_valN ha, dec_valN hb] at this
theorem right_dig {s : ByteArray} (h : rightZ s = true) : rightN (digZ s) = true := by
  unfold rightZ at h
  simp only [Bool.and_eq_true] at h
  exact h.1
theorem wCompare_c (a b : ByteArray) (ha : a.size ≤ 1048576) (hb : b.size ≤ 1048576) : PC Tryz.prog 58 [str a, str b] (int (cmpZ a b)) := by
  refine PC.body (c := Tryz.f58.body.getD .skip) (fun _ => false) mixed Tryz.func58 rfl (by kernel_rfl) ?_
  unfold Tryz.f58
  simp only [Option.getD_some]
  simp only [go_sem]
  refine PC.use (parts_c a ha) ?_
  simp only [go_sem]
  refine PC.use (parts_c b hb) ?_
  simp only [go_sem]
  refine acond_i (fun h => ?_) (fun h => ?_)
  · simp only [go_sem]
    refine cI ?_
    unfold cmpZ
    rw [if_neg]
    rintro ⟨h1, h2⟩
    rw [h1, h2] at h
    cases h
  have hr : rightZ a = true ∧ rightZ b = true := by simpa using h
  have ra := right_dig hr.1
  have rb := right_dig hr.2
  have hpos : ∀ {s : ByteArray}, rightZ s = true → minusZ s = true → 0 < valN (digZ s) := fun {s} h1 h2 => by
    have h3 := h1
    unfold rightZ at h3
    simp only [h2, Bool.true_and, Bool.and_eq_true, Bool.not_eq_true', eqB_no] at h3
    rcases Nat.eq_zero_or_pos (valN (digZ s)) with h0 | h0
    · have := dec_valN h3.1
      rw [h0] at this
      exact absurd this.symm h3.2
    · exact h0
  have hv : cmpZ a b = cmpI (valZ a) (valZ b) := if_pos hr
  rw [hv]
  unfold valZ
  simp only [go_sem]
  refine acond_i (fun h2 => ?_) (fun h2 => ?_)
  · have h2 : minusZ a = true ∧ minusZ b = true := by simpa using h2
    simp only [go_sem]
    refine PC.use (cmp_dec _ _ rb ra) ?_
    simp only [go_sem]
    refine cI ?_
    rw [if_pos h2.1, if_pos h2.2]
    unfold cmpI
    have c1 : (((valN (digZ b) : Nat) : Int) < ((valN (digZ a) : Nat) : Int)) ↔ (-((valN (digZ a) : Nat) : Int) < -((valN (digZ b) : Nat) : Int)) := by omega
    have c2 : (((valN (digZ a) : Nat) : Int) < ((valN (digZ b) : Nat) : Int)) ↔ (-((valN (digZ b) : Nat) : Int) < -((valN (digZ a) : Nat) : Int)) := by omega
    simp only [c1, c2]
  · simp only [go_sem]
    refine acond_i (fun h3 => ?_) (fun h3 => ?_)
    · have h4 : minusZ b = false := by rw [h3] at h2; simpa using h2
      have := hpos hr.1 h3
      simp only [go_sem]
      refine cI ?_
      rw [if_pos h3, if_neg (by rw [h4]; simp), cmpI_lt (by omega)]
    · simp only [go_sem]
      refine acond_i (fun h4 => ?_) (fun h4 => ?_)
      · have := hpos hr.2 h4
        simp only [go_sem]
        refine cI ?_
        rw [if_neg (by rw [h3]; simp), if_pos h4, cmpI_gt (by omega)]
      · simp only [go_sem]
        refine PC.use (cmp_dec _ _ ra rb) ?_
        simp only [go_sem]
        refine cI ?_
        rw [if_neg (by rw [h3]; simp), if_neg (by rw [h4]; simp)]
def numT2 (m : Bool) (n : Nat) : List AV := [boo m, str (dec n)]
theorem numT2_len (m : Bool) (n : Nat) : (numT2 m n).length = 2 := (rfl)
theorem numT2_0 (m : Bool) (n : Nat) : (numT2 m n).getD 0 .any = boo m := (rfl)
theorem numT2_1 (m : Bool) (n : Nat) : (numT2 m n).getD 1 .any = str (dec n) := (rfl)
theorem numT2_all (m : Bool) (n : Nat) : (numT2 m n).take 2 = numT2 m n := (rfl)
attribute [go_sem] numT2_len numT2_0 numT2_1 numT2_all
theorem addN_dec {m n : Nat} (hm : m < maxN) (hn : n < maxN) : addN (dec m) (dec n) = szN (m + n) := by unfold addN; rw [if_pos (errN_dec hm hn), valN_dec, valN_dec]
theorem subN_dec {m n : Nat} (hm : m < maxN) (hn : n < maxN) (h : n ≤ m) : subN (dec m) (dec n) = szN (m - n) := by unfold subN; rw [if_pos (errN_dec hm hn), valN_dec, valN_dec, if_neg (by omega)]
theorem dec_size {m : Nat} (hm : m < maxN) : (dec m).size ≤ 1048576 := by have := (size_max m).2 hm; omega
theorem sum_c (a b : Bool) (m n : Nat) (hm : m < maxN) (hn : n < maxN) : PC Tryz.prog 119 [.agg (numT2 a m), .agg (numT2 b n)] (.tup [str (szZ (sg a m + sg b n)).1, int (szZ (sg a m + sg b n)).2]) := by
  refine PC.body (c := Tryz.f119.body.getD .skip) (fun t => t == 2 || t == 3) mixed Tryz.func119 rfl (by kernel_rfl) ?_
  unfold Tryz.f119
  simp only [Option.getD_some]
  simp only [go_sem]
  refine anew_i fun i hi => ?_
  simp only [go_sem]
  refine anew_i fun j hj => ?_
  have R2 := updH_same noRows i (some ⟨183, 2, [numT2 a m]⟩)
  have nij : i ≠ j := ne_new R2 hj
  have R3 := updH_same (updH noRows i (some ⟨183, 2, [numT2 a m]⟩)) j (some ⟨183, 2, [numT2 b n]⟩)
  have R2' : (updH (updH noRows i (some ⟨183, 2, [numT2 a m]⟩)) j (some ⟨183, 2, [numT2 b n]⟩)) i = some ⟨183, 2, [numT2 a m]⟩ := by rw [updH_ne _ _ _ _ nij]; exact R2
  generalize updH (updH noRows i _) j _ = H1 at *
  clear R2
  simp only [go_sem, R2', R3]
  refine acond_i (fun h => ?_) (fun h => ?_)
  · have hab : a = b := by simpa using h
    subst hab
    simp only [go_sem, R2', R3]
    refine PC.use (nAdd_c (dec m) (dec n) (dec_size hm) (dec_size hn)) ?_
    rw [addN_dec hm hn]
    simp only [go_sem, R2', R3]
    refine PC.use (signed_c a (m + n)) ?_
    simp only [go_sem]
    have e : sg a (m + n) = sg a m + sg a n := by unfold sg; split <;> omega
    rw [e]
    exact .refl _
  have hab : b = !a := by cases a <;> cases b <;> simp_all
  subst hab
  simp only [go_sem, R2', R3]
  refine PC.use (wcompare_c m n) ?_
  simp only [go_sem, R2', R3]
  refine acond_join (fun ρ' H' => ∃ (a' b' : Bool) (p q : Nat), p < maxN ∧ q < maxN ∧ q ≤ p ∧ sg a' (p - q) = sg a m + sg (!a) n ∧ ρ' 2 = .op i 0 0 ∧ ρ' 3 = .op j 0 0 ∧ H' i = some (⟨183, 2, [numT2 a' p]⟩ : Row) ∧ H' j = some (⟨183, 2, [numT2 b' q]⟩ : Row)) ?_ fun K hK => acond_i (fun hb => ?_) (fun hb => ?_)
  rotate_left
  · have hlt : m < n := by
      rcases Nat.lt_or_ge m n with h | h
      · exact h
      · exfalso
        have hb := of_decide_eq_true hb
        unfold cmpI at hb
        rw [if_neg (by omega)] at hb
        split at hb <;> omega
    simp only [go_sem, R2', R3]
    refine wputE_n R2' (by simp [numT2_len]) ?_
    generalize hP : updH H1 i _ = HP
    have R2 : HP i = some (⟨183, 2, [numT2 (!a) n]⟩ : Row) := by rw [← hP, updH_same]; rfl
    have R3' : HP j = some (⟨183, 2, [numT2 (!a) n]⟩ : Row) := by rw [← hP, updH_ne _ _ _ _ (Ne.symm nij)]; exact R3
    clear hP
    simp only [go_sem, R2, R3']
    refine wputE_n R3' (by simp [numT2_len]) ?_
    generalize hP : updH HP j _ = HQ
    have S3 : HQ j = some (⟨183, 2, [numT2 a m]⟩ : Row) := by rw [← hP, updH_same]; rfl
    have S2 : HQ i = some (⟨183, 2, [numT2 (!a) n]⟩ : Row) := by rw [← hP, updH_ne _ _ _ _ nij]; exact R2
    clear hP
    simp only [go_sem]
    refine hK _ _ ⟨!a, a, n, m, hn, hm, by omega, ?_, by simp only [go_sem], by simp only [go_sem], S2, S3⟩
    unfold sg
    cases a <;> simp <;> omega
  · have hge : n ≤ m := by
      rcases Nat.lt_or_ge m n with h | h
      · exact absurd (by rw [cmpI_lt (by omega)]; decide) (of_decide_eq_false hb)
      · exact h
    simp only [go_sem]
    refine hK _ _ ⟨a, !a, m, n, hm, hn, hge, ?_, by simp only [go_sem], by simp only [go_sem], R2', R3⟩
    unfold sg
    cases a <;> simp <;> omega
  clear R2' R3
  rintro ρ H ⟨a', b', p, q, hp, hq, hqp, hv, h2, h3, R2, R3⟩
  simp only [go_sem, h2, h3, R2, R3]
  refine PC.use (nSub_c (dec p) (dec q) (dec_size hp) (dec_size hq)) ?_
  rw [subN_dec hp hq hqp]
  simp only [go_sem, h2, h3, R2, R3]
  refine PC.use (signed_c a' (p - q)) ?_
  simp only [go_sem]
  rw [hv]
  exact .refl _
theorem errL_two (a b : ByteArray) : errL [a, b] = errZ a b := by
  unfold errL errZ badS
  simp only [List.any_cons, List.any_nil, Bool.or_false]
theorem encZ_zed (n : Int) : encZ (zed n) = numT2 (decide (n < 0)) n.natAbs := by
  unfold encZ numT2
  rw [minusZ_zed, digZ_zed]
theorem sg_zed (n : Int) : sg (decide (n < 0)) n.natAbs = n := by
  unfold sg
  by_cases h : n < 0
  · simp [h]; omega
  · simp [h]; omega
theorem zL_two {m n : Int} (h : errZ (zed m) (zed n) = 0) : zL [zed m, zed n] = [numT2 (decide (m < 0)) m.natAbs, numT2 (decide (n < 0)) n.natAbs] := by
  unfold zL
  rw [errL_two, if_pos h]
  simp only [List.map_cons, List.map_nil, encZ_zed]
theorem wread2_c (a b : ByteArray) (ha : a.size ≤ 1048576) (hb : b.size ≤ 1048576) : PC Tryz.prog 110 [.sl [[str a], [str b]]] (.tup [.sl (zL [a, b]), int (errZ a b)]) := by
  have := wread_c [a, b] (by simp) (by simp [ha, hb])
  rwa [errL_two] at this
theorem wAdd_c (a b : ByteArray) (ha : a.size ≤ 1048576) (hb : b.size ≤ 1048576) : PC Tryz.prog 60 [str a, str b] (.tup [str (addZ a b).1, int (addZ a b).2]) := by
  refine PC.body (c := Tryz.f60.body.getD .skip) (fun _ => false) mixed Tryz.func60 rfl (by kernel_rfl) ?_
  unfold Tryz.f60
  simp only [Option.getD_some]
  simp only [go_sem]
  refine PC.use (wread2_c a b ha hb) ?_
  simp only [go_sem]
  refine acond_i (fun h => ?_) (fun h => ?_)
  · have h : errZ a b ≠ 0 := by simpa using h
    simp only [go_sem]
    rw [show addZ a b = (emp, errZ a b) from if_neg h]
    exact .refl _
  have h : errZ a b = 0 := by simpa using h
  have e : addZ a b = szZ (valZ a + valZ b) := if_pos h
  rw [e]
  obtain ⟨m, n, rfl, rfl, hm, hn⟩ := errZ_zero h
  rw [valZ_zed, valZ_zed, zL_two h]
  simp only [go_sem]
  refine adraw_q (by rfl) (by kernel_rfl) ?_
  simp only [go_sem, List.length_cons, List.length_nil]
  repeat (refine ⟨by first | decide | omega, ?_⟩)
  refine ⟨_, (sum_c _ _ _ _ hm hn).q rfl, ?_⟩
  simp only [go_sem]
  rw [sg_zed, sg_zed]
  exact .refl _
theorem wSub_c (a b : ByteArray) (ha : a.size ≤ 1048576) (hb : b.size ≤ 1048576) : PC Tryz.prog 67 [str a, str b] (.tup [str (subZ a b).1, int (subZ a b).2]) := by
  refine PC.body (c := Tryz.f67.body.getD .skip) (fun _ => false) mixed Tryz.func67 rfl (by kernel_rfl) ?_
  unfold Tryz.f67
  simp only [Option.getD_some]
  simp only [go_sem]
  refine PC.use (wread2_c a b ha hb) ?_
  simp only [go_sem]
  refine acond_i (fun h => ?_) (fun h => ?_)
  · have h : errZ a b ≠ 0 := by simpa using h
    simp only [go_sem]
    rw [show subZ a b = (emp, errZ a b) from if_neg h]
    exact .refl _
  have h : errZ a b = 0 := by simpa using h
  have e : subZ a b = szZ (valZ a - valZ b) := if_pos h
  rw [e]
  obtain ⟨m, n, rfl, rfl, hm, hn⟩ := errZ_zero h
  rw [valZ_zed, valZ_zed, zL_two h]
  simp only [go_sem]
  refine adraw_q (by rfl) (by kernel_rfl) ?_
  simp only [go_sem, List.length_cons, List.length_nil]
  repeat (refine ⟨by first | decide | omega, ?_⟩)
  have hneg : sg (!decide (n < 0)) n.natAbs = -n := by
    unfold sg
    by_cases h : n < 0
    · simp [h]; omega
    · simp [h]; omega
  refine ⟨_, (sum_c _ (!decide (n < 0)) _ _ hm hn).q rfl, ?_⟩
  simp only [go_sem]
  rw [sg_zed, hneg, Int.sub_eq_add_neg]
  exact .refl _
theorem mulN_dec {m n : Nat} (hm : m < maxN) (hn : n < maxN) : mulN (dec m) (dec n) = szN (m * n) := by unfold mulN; rw [if_pos (errN_dec hm hn), valN_dec, valN_dec]
theorem wMul_c (a b : ByteArray) (ha : a.size ≤ 1048576) (hb : b.size ≤ 1048576) : PC Tryz.prog 171 [str a, str b] (.tup [str (mulZ a b).1, int (mulZ a b).2]) := by
  refine PC.body (c := Tryz.f171.body.getD .skip) (fun _ => false) mixed Tryz.func171 rfl (by kernel_rfl) ?_
  unfold Tryz.f171
  simp only [Option.getD_some]
  simp only [go_sem]
  refine PC.use (wread2_c a b ha hb) ?_
  simp only [go_sem]
  refine acond_i (fun h => ?_) (fun h => ?_)
  · have h : errZ a b ≠ 0 := by simpa using h
    simp only [go_sem]
    rw [show mulZ a b = (emp, errZ a b) from if_neg h]
    exact .refl _
  have h : errZ a b = 0 := by simpa using h
  have e : mulZ a b = szZ (valZ a * valZ b) := if_pos h
  rw [e]
  obtain ⟨m, n, rfl, rfl, hm, hn⟩ := errZ_zero h
  rw [valZ_zed, valZ_zed, zL_two h]
  simp only [go_sem]
  refine adraw_q (by rfl) (by kernel_rfl) ?_
  simp only [go_sem, List.length_cons, List.length_nil]
  repeat (refine ⟨by first | decide | omega, ?_⟩)
  refine ⟨_, (nMul_c (dec m.natAbs) (dec n.natAbs) (dec_size hm) (dec_size hn)).q rfl, ?_⟩
  rw [mulN_dec hm hn]
  simp only [go_sem]
  refine adraw_q (by rfl) (by kernel_rfl) ?_
  simp only [go_sem, List.length_cons, List.length_nil]
  repeat (refine ⟨by first | decide | omega, ?_⟩)
  refine ⟨_, (signed_c _ (m.natAbs * n.natAbs)).q rfl, ?_⟩
  simp only [go_sem]
  have hs : sg (!(decide (m < 0) == decide (n < 0))) (m.natAbs * n.natAbs) = m * n := by
    unfold sg
    rw [Int.natCast_mul]
    by_cases h1 : m < 0 <;> by_cases h2 : n < 0
    · simp only [h1, h2, decide_true, beq_self_eq_true, Bool.not_true, Bool.false_eq_true, if_false]
      rw [Int.ofNat_natAbs_of_nonpos (by omega), Int.ofNat_natAbs_of_nonpos (by omega), Int.neg_mul_neg]
    · simp only [h1, h2, decide_true, decide_false]
      rw [if_pos (show (!(true == false)) = true from rfl), Int.ofNat_natAbs_of_nonpos (by omega), Int.natAbs_of_nonneg (by omega), Int.neg_mul, Int.neg_neg]
    · simp only [h1, h2, decide_true, decide_false]
      rw [if_pos (show (!(false == true)) = true from rfl), Int.ofNat_natAbs_of_nonpos (a := n) (by omega), Int.natAbs_of_nonneg (by omega), Int.mul_neg, Int.neg_neg]
    · simp only [h1, h2, decide_false, beq_self_eq_true, Bool.not_true, Bool.false_eq_true, if_false]
      rw [Int.natAbs_of_nonneg (by omega), Int.natAbs_of_nonneg (by omega)]
  rw [hs]
  exact .refl _
theorem adraw_join {P : Program} {C : CallP} {PC : FuncId → List AV → Heap → AV → Prop} {mt : Nat → Bool} {ops : Array Oper} {K : Env → Heap → Prop} {m : Nat} {ρ : Env} {H : Heap} (J : Env → Heap → Prop) (h1 : ∀ ρ H, J ρ H → K ρ H)
    (h2 : ∀ K' : Env → Heap → Prop, (∀ ρ H, J ρ H → K' ρ H) → adraw P C PC mt ops K' m ρ H) : adraw P C PC mt ops K m ρ H := h2 K h1
abbrev nRow (A : List AV) : Row := ⟨183, 2, [A]⟩
abbrev zN : Row := nRow [.v (.bool false), .v (.string ByteArray.empty)]
theorem nRow_set {A : List AV} (h : A.length = 2) : (⟨183, 2, [List.take 2 A ++ List.drop (List.take 2 A).length [AV.v (.bool false), AV.v (.string ByteArray.empty)]]⟩ : Row) = nRow A := by
  rw [List.take_of_length_le (by omega), h]
  simp
theorem fdiv_differ {m n : Int} (hn : n ≠ 0) (hs : decide (m < 0) ≠ decide (n < 0)) (hr : m.natAbs % n.natAbs ≠ 0) :
    m.fdiv n = -((m.natAbs / n.natAbs + 1 : Nat) : Int) ∧ m.fmod n = sg (decide (n < 0)) (n.natAbs - m.natAbs % n.natAbs) := by
  have e := Nat.mod_add_div m.natAbs n.natAbs
  have hlt := Nat.mod_lt m.natAbs (show 0 < n.natAbs by omega)
  generalize m.natAbs / n.natAbs = q at *
  generalize m.natAbs % n.natAbs = r at *
  have e' : (r : Int) + (n.natAbs : Int) * (q : Int) = (m.natAbs : Int) := by rw [← Int.natCast_mul, ← Int.natCast_add, e]
  unfold sg
  rcases Int.lt_or_gt_of_ne hn with h | h
  · have hm : ¬ m < 0 := fun h2 => hs (by simp [h, h2])
    rw [Int.ofNat_natAbs_of_nonpos (a := n) (by omega), Int.natAbs_of_nonneg (a := m) (by omega)] at e'
    refine (Int.fdiv_fmod_unique' h).2 ⟨?_, ?_, ?_⟩
    · rw [if_pos (by simpa using h)]
      have : (n * -((q + 1 : Nat) : Int)) = -n * q - n := by grind
      rw [this]; omega
    · rw [if_pos (by simpa using h)]; omega
    · rw [if_pos (by simpa using h)]; omega
  · have hm : m < 0 := by
      rcases Int.lt_or_le m 0 with h2 | h2
      · exact h2
      · exact absurd (by simp; omega) hs
    rw [Int.natAbs_of_nonneg (a := n) (by omega), Int.ofNat_natAbs_of_nonpos (a := m) (by omega)] at e'
    refine (Int.fdiv_fmod_unique h).2 ⟨?_, ?_, ?_⟩
    · rw [if_neg (by simp; omega)]
      have : (n * -((q + 1 : Nat) : Int)) = -(n * q) - n := by grind
      rw [this]; omega
    · rw [if_neg (by simp; omega)]; omega
    · rw [if_neg (by simp; omega)]; omega
theorem fdiv_same {m n : Int} (hn : n ≠ 0) (h0 : decide (m < 0) = decide (n < 0) ∨ m.natAbs % n.natAbs = 0) :
    m.fdiv n = sg (!(decide (m < 0) == decide (n < 0))) (m.natAbs / n.natAbs) ∧ m.fmod n = sg (decide (n < 0)) (m.natAbs % n.natAbs) := by
  have e := Nat.mod_add_div m.natAbs n.natAbs
  have hlt := Nat.mod_lt m.natAbs (show 0 < n.natAbs by omega)
  generalize m.natAbs / n.natAbs = q at *
  generalize m.natAbs % n.natAbs = r at *
  have e' : (r : Int) + (n.natAbs : Int) * (q : Int) = (m.natAbs : Int) := by rw [← Int.natCast_mul, ← Int.natCast_add, e]
  unfold sg
  rcases Int.lt_or_gt_of_ne hn with h | h
  · rw [Int.ofNat_natAbs_of_nonpos (a := n) (by omega)] at e'
    refine (Int.fdiv_fmod_unique' h).2 ?_
    by_cases hm : m < 0
    · rw [Int.ofNat_natAbs_of_nonpos (a := m) (by omega)] at e'
      simp only [h, hm, decide_true, beq_self_eq_true, Bool.not_true, Bool.false_eq_true, if_false, if_true]
      have : n * (q : Int) = -(-n * q) := by grind
      exact ⟨by rw [this]; omega, by omega, by omega⟩
    · rw [Int.natAbs_of_nonneg (a := m) (by omega)] at e'
      have hr : r = 0 := by
        rcases h0 with h0 | h0
        · simp [h, hm] at h0
        · exact h0
      simp only [h, hm, decide_true, decide_false, show (!(false == true)) = true from rfl, if_true]
      have : n * -(q : Int) = -n * q := by grind
      exact ⟨by rw [this]; omega, by omega, by omega⟩
  · rw [Int.natAbs_of_nonneg (a := n) (by omega)] at e'
    refine (Int.fdiv_fmod_unique h).2 ?_
    have hn0 : ¬ n < 0 := by omega
    by_cases hm : m < 0
    · rw [Int.ofNat_natAbs_of_nonpos (a := m) (by omega)] at e'
      have hr : r = 0 := by
        rcases h0 with h0 | h0
        · simp [hn0, hm] at h0
        · exact h0
      simp only [hn0, hm, decide_true, decide_false, show (!(true == false)) = true from rfl, if_true, Bool.false_eq_true, if_false]
      have : n * -(q : Int) = -(n * q) := by grind
      exact ⟨by rw [this]; omega, by omega, by omega⟩
    · rw [Int.natAbs_of_nonneg (a := m) (by omega)] at e'
      simp only [hn0, hm, decide_false, beq_self_eq_true, Bool.not_true, Bool.false_eq_true, if_false]
      exact ⟨by omega, by omega, by omega⟩
theorem divN_dec {m n : Nat} (hm : m < maxN) (hn : n < maxN) (h : n ≠ 0) : divN (dec m) (dec n) = (dec (m / n), dec (m % n), 0) := by unfold divN; rw [if_pos (errN_dec hm hn), valN_dec, valN_dec, if_neg h]
theorem wDiv_c (a b : ByteArray) (ha : a.size ≤ 1048576) (hb : b.size ≤ 1048576) : PC Tryz.prog 57 [str a, str b] (.tup [str (divZ a b).1, str (divZ a b).2.1, int (divZ a b).2.2]) := by
  refine PC.body (c := Tryz.f57.body.getD .skip) (fun _ => false) mixed Tryz.func57 rfl (by kernel_rfl) ?_
  unfold Tryz.f57
  simp only [Option.getD_some]
  simp only [go_sem]
  refine PC.use (wread2_c a b ha hb) ?_
  simp only [go_sem]
  refine acond_i (fun h => ?_) (fun h => ?_)
  · have h : errZ a b ≠ 0 := by simpa using h
    simp only [go_sem]
    rw [show divZ a b = (emp, emp, errZ a b) from if_neg h]
    exact .refl _
  have h : errZ a b = 0 := by simpa using h
  obtain ⟨m, n, rfl, rfl, hm, hn⟩ := errZ_zero h
  have e : divZ (zed m) (zed n) = if n = 0 then (emp, emp, 10) else (zed (m.fdiv n), zed (m.fmod n), 0) := by unfold divZ; rw [if_pos h, valZ_zed, valZ_zed]
  rw [e, zL_two h]
  simp only [go_sem]
  obtain ⟨A, hA⟩ : ∃ A, numT2 (decide (m < 0)) m.natAbs = A := ⟨_, rfl⟩
  obtain ⟨B, hB⟩ : ∃ B, numT2 (decide (n < 0)) n.natAbs = B := ⟨_, rfl⟩
  have hAl : A.length = 2 := by rw [← hA]; rfl
  have hBl : B.length = 2 := by rw [← hB]; rfl
  refine adraw_join (fun ρ' H' => ∃ i j, ρ' 9 = .op i 0 0 ∧ ρ' 10 = .op j 0 0 ∧ H' i = some (nRow A) ∧ H' j = some (nRow B)) ?_ fun K hK => ?_
  rotate_left
  · refine adraw_t [] (.q 0 (.q 1 (.q 2 (.q 3 (.q 4 (.q 5 (.a2 6 (.a1 7 (.a1 8 (.a1 9 .nil))) 7 (.a1 6 (.a1 8 (.a1 9 .nil)))))))))) (by simp) (by kernel_rfl) fun Hp Hr _ hq _ _ => ?_
    simp only [go_sem, List.length_cons, List.length_nil, hA, hB]
    repeat (refine ⟨by first | decide | omega, ?_⟩)
    refine amixt_2i ?_ ?_
    · simp only [go_sem]
      refine anew_i fun i hi => ?_
      simp only [go_sem]
      refine anew_i fun j hj => ?_
      have R := updH_same Hr i (some (zN))
      have nij := ne_new R hj
      have Ri := keep_new (r' := zN) R hj
      have Rj := updH_same (updH Hr i (some (zN))) j (some (zN))
      simp only [go_sem]
      refine wputE_n (r := zN) Ri (by simp [hAl]) ?_
      simp only [go_sem]
      refine wputE_n (r := zN) (by rw [updH_ne _ _ _ _ nij.symm]; exact Rj) (by simp [hBl]) ?_
      simp only [go_sem]
      refine pinEnd_i fun _ Hm _ hm => hK _ _ ⟨i, j, by simp only [go_sem], by simp only [go_sem], ?_, ?_⟩
      · rw [hm i (by simp), updH_ne _ _ _ _ nij, updH_same]; exact congrArg some (nRow_set hAl)
      · rw [hm j (by simp), updH_same]; exact congrArg some (nRow_set hBl)
    · simp only [go_sem]
      refine anew_i fun j hj => ?_
      simp only [go_sem]
      refine anew_i fun i hi => ?_
      have R := updH_same Hr j (some (zN))
      have nij := (ne_new R hi).symm
      have Rj := keep_new (r' := zN) R hi
      have Ri := updH_same (updH Hr j (some (zN))) i (some (zN))
      simp only [go_sem]
      refine wputE_n (r := zN) Ri (by simp [hAl]) ?_
      simp only [go_sem]
      refine wputE_n (r := zN) (by rw [updH_ne _ _ _ _ nij.symm]; exact Rj) (by simp [hBl]) ?_
      simp only [go_sem]
      refine pinEnd_i fun _ Hm _ hm => hK _ _ ⟨i, j, by simp only [go_sem], by simp only [go_sem], ?_, ?_⟩
      · rw [hm i (by simp), updH_ne _ _ _ _ nij, updH_same]; exact congrArg some (nRow_set hAl)
      · rw [hm j (by simp), updH_same]; exact congrArg some (nRow_set hBl)
  rintro ρ H ⟨i, j, h9, h10, Ri, Rj⟩
  subst hA hB
  simp only [go_sem, h9, h10, Ri, Rj, eq_zero]
  refine acond_i (fun hb0 => ?_) (fun hb0 => ?_)
  · have h0 : n = 0 := by
      have := dec_eq.1 (eqB_iff.1 hb0)
      omega
    simp only [go_sem]
    rw [if_pos h0]
    exact .refl _
  have h0 : n ≠ 0 := fun e => by
    subst e
    exact eqB_no.1 hb0 rfl
  have hn0 : n.natAbs ≠ 0 := by omega
  rw [if_neg h0]
  simp only [go_sem, h9, h10, Ri, Rj]
  refine PC.use (nDiv_c (dec m.natAbs) (dec n.natAbs) (dec_size hm) (dec_size hn)) ?_
  rw [divN_dec hm hn hn0]
  simp only [go_sem, h9, h10, Ri, Rj]
  refine acond_i (fun hb => by cases hb) (fun _ => ?_)
  simp only [go_sem, h9, h10, Ri, Rj, eq_zero]
  have hqr := Nat.mod_add_div m.natAbs n.natAbs
  have hrlt := Nat.mod_lt m.natAbs (show 0 < n.natAbs by omega)
  refine acond_join (fun ρ' H' => ∃ q r : Nat, ρ' 9 = .op i 0 0 ∧ ρ' 10 = .op j 0 0 ∧ H' i = some (nRow (numT2 (decide (m < 0)) m.natAbs)) ∧ H' j = some (nRow (numT2 (decide (n < 0)) n.natAbs)) ∧ ρ' 11 = str (dec q) ∧ ρ' 12 = str (dec r) ∧ q < maxN ∧ r < maxN ∧ sg (!(decide (m < 0) == decide (n < 0))) q = m.fdiv n ∧ sg (decide (n < 0)) r = m.fmod n) ?_ fun K hK => acond_i (fun hb => ?_) (fun hb => ?_)
  rotate_left
  · have hb : decide (m < 0) ≠ decide (n < 0) ∧ m.natAbs % n.natAbs ≠ 0 := by
      simp only [Bool.and_eq_true, Bool.not_eq_true', beq_eq_false_iff_ne, ne_eq, eqB_no] at hb
      exact ⟨hb.1, fun e => hb.2 (by rw [e])⟩
    obtain ⟨f1, f2⟩ := fdiv_differ h0 hb.1 hb.2
    have hq1 : m.natAbs / n.natAbs + 1 < maxN := by
      have h2 : 2 ≤ n.natAbs := by omega
      have h3 : 2 * (m.natAbs / n.natAbs) ≤ n.natAbs * (m.natAbs / n.natAbs) := Nat.mul_le_mul_right _ h2
      omega
    have hq2 : m.natAbs / n.natAbs < maxN := by omega
    have h1m : (1 : Nat) < maxN := Nat.lt_of_le_of_lt (Nat.le_add_left 1 _) hq1
    have hrm : m.natAbs % n.natAbs < maxN := by omega
    generalize hQ : m.natAbs / n.natAbs = q at *
    generalize hR : m.natAbs % n.natAbs = r at *
    simp only [go_sem, h9, h10]
    rw [one_lit]
    refine PC.use (nAdd_c (dec q) (dec 1) (dec_size hq2) (dec_size h1m)) ?_
    rw [addN_dec hq2 h1m, szN_ok hq1]
    simp only [go_sem, h9, h10, Ri, Rj]
    refine acond_i (fun hb => by cases hb) (fun _ => ?_)
    simp only [go_sem, h9, h10, Ri, Rj]
    refine PC.use (nSub_c (dec n.natAbs) (dec r) (dec_size hn) (dec_size hrm)) ?_
    rw [subN_dec hn hrm (by omega), szN_ok (show n.natAbs - r < maxN by omega)]
    simp only [go_sem, h9, h10, Ri, Rj]
    refine acond_i (fun hb => by cases hb) (fun _ => ?_)
    simp only [go_sem, h9, h10]
    refine hK _ _ ⟨q + 1, n.natAbs - r, by simp only [go_sem, h9], by simp only [go_sem, h10], Ri, Rj, by simp only [go_sem], by simp only [go_sem], hq1, by omega, ?_, f2.symm⟩
    rw [f1]
    unfold sg
    rw [if_pos (by simpa using hb.1)]
  · have hb : decide (m < 0) = decide (n < 0) ∨ m.natAbs % n.natAbs = 0 := by
      by_cases h1 : decide (m < 0) = decide (n < 0)
      · exact .inl h1
      · refine .inr ?_
        have h2 : (!(decide (m < 0) == decide (n < 0))) = true := by simpa using h1
        rw [h2, Bool.true_and, Bool.not_eq_false'] at hb
        exact dec_eq.1 (eqB_iff.1 hb)
    obtain ⟨f1, f2⟩ := fdiv_same h0 hb
    have hq2 : m.natAbs / n.natAbs < maxN := Nat.lt_of_le_of_lt (Nat.div_le_self _ _) hm
    simp only [go_sem, h9, h10]
    exact hK _ _ ⟨_, _, by simp only [go_sem, h9], by simp only [go_sem, h10], Ri, Rj, by simp only [go_sem], by simp only [go_sem], hq2, by omega, f1.symm, f2.symm⟩
  clear h9 h10 Ri Rj
  rintro ρ H ⟨q, r, h9, h10, Ri, Rj, h11, h12, hq, hr, f1, f2⟩
  simp only [go_sem]
  refine adraw_q (by rfl) (by kernel_rfl) ?_
  simp only [go_sem, h9, h10, h11, h12, Ri, Rj]
  refine ⟨_, (text_c _ q (dec_size hq)).q rfl, ?_⟩
  simp only [go_sem, h9, h10, h11, h12, Ri, Rj]
  refine ⟨_, (text_c _ r (dec_size hr)).q rfl, ?_⟩
  simp only [go_sem, f1, f2]
  exact .refl _
end Go.Proofs.YtdlijlecpopadaaGreatDoor.Nu
