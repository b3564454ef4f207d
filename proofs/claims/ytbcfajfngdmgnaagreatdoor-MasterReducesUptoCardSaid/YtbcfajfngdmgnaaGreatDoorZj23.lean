/- Texts joined by a program: NuZd. -/
import Derived.Test.YtbcfajfngdmgnaaGreatDoorZj22

set_option linter.unusedSimpArgs false
set_option linter.unusedVariables false
namespace Go.Proofs.YtbcfajfngdmgnaaGreatDoor.Nu
open Go.Aw Go.Aw.D Go.Proofs Ty Go.Nu
set_option maxRecDepth 100000
theorem neg_text {y : Rat} (h : y.num < 0) : bl (ratS y) = 45 :: bl (ratS (-y)) := by
  obtain ⟨k, hk⟩ : ∃ k : Nat, y.num = -(k : Int) := ⟨y.num.natAbs, by omega⟩
  have e1 : Lib.itoa y.num = 45 :: Lib.decDigits k := by rw [hk]; exact Lib.itoa_neg k (by omega)
  have e2 : Lib.itoa (-y).num = Lib.decDigits k := by rw [Rat.neg_num, hk, Int.neg_neg]; exact Lib.itoa_nonneg k
  rw [bl_ratS, bl_ratS, e1, e2, Rat.neg_den]
  split <;> rfl
theorem neg_small {y : Rat} (h : SmallR y) : SmallR (-y) := ⟨by rw [Rat.neg_num, Int.natAbs_neg]; exact h.1, by rw [Rat.neg_den]; exact h.2⟩
theorem dash_ratS (y : Rat) : minusZ (ratS y) = decide (y.num < 0) := by
  rw [← minusZ_zed]
  unfold minusZ
  rw [bl_ratS, bl_zed]
  split
  · rfl
  · rcases Int.lt_or_le y.num 0 with h | h
    · obtain ⟨k, hk⟩ : ∃ k : Nat, y.num = -(k : Int) := ⟨y.num.natAbs, by omega⟩
      rw [hk, show Lib.itoa (-(k : Int)) = 45 :: Lib.decDigits k from Lib.itoa_neg k (by omega)]
      rfl
    · obtain ⟨k, hk⟩ : ∃ k : Nat, y.num = (k : Int) := ⟨y.num.natAbs, by omega⟩
      rw [hk, show Lib.itoa (k : Int) = Lib.decDigits k from Lib.itoa_nonneg k]
      cases hd : Lib.decDigits k with
      | nil => exact absurd hd (dec_ne k)
      | cons c r => rfl
theorem ratS_zero : ratS 0 = dec 0 := (if_pos (show (0 : Rat).den = 1 from rfl)).trans (zed_nat 0)
theorem sub4_c (a b : ByteArray) (ha : a.size ≤ 1048570) (hb : b.size ≤ 1048570) : PC Tryz.prog 62 [str a, str b] (.tup [str (subR a b).1, int (subR a b).2]) := by
  refine PC.body (c := Tryz.f62.body.getD .skip) (fun _ => false) mixed Tryz.func62 rfl (by kernel_rfl) ?_
  unfold Tryz.f62
  simp only [Option.getD_some]
  simp only [go_sem]
  refine PC.use (right4_c a (by omega)) ?_
  simp only [go_sem]
  refine ⟨_, fun _ => (right4_c b (by omega)).q rfl, ?_⟩
  simp only [go_sem]
  refine acond_i (fun hc => ?_) (fun hc => ?_)
  · simp only [go_sem]
    rw [show subR a b = (emp, 3) from if_neg (by rw [Bool.not_eq_true, ← Bool.not_eq_true', Bool.not_and]; exact hc)]
    exact .refl _
  have hr : (rightR a && rightR b) = true := by rw [← Bool.not_eq_false', Bool.not_and]; exact hc
  rw [show subR a b = _ from if_pos hr]
  simp only [Bool.and_eq_true] at hr
  obtain ⟨x, rfl, hx, _, _⟩ := right_parts hr.1
  obtain ⟨y, rfl, hy, _, _⟩ := right_parts hr.2
  rw [valR_ratS, valR_ratS]
  have hneg : addR (ratS x) (ratS (-y)) = sumR x (-y) := by
    unfold addR
    rw [rightR_ratS hx, rightR_ratS (neg_small hy), valR_ratS, valR_ratS]
    rfl
  have hsz := ratS_size (neg_small hy)
  have hadd := add4_c (ratS x) (ratS (-y)) (by omega) (by omega)
  rw [hneg] at hadd
  have hs := bl_size (ratS y)
  simp only [go_sem, eq_zero]
  refine acond_i (fun h0 => ?_) (fun h0 => ?_)
  · have h0 : y = 0 := by rw [eqB_iff, ← ratS_zero, ratS_inj] at h0; exact h0
    subst h0
    rw [show (-(0 : Rat)) = 0 from rfl] at hadd ⊢
    simp only [go_sem]
    refine PC.use hadd ?_
    simp only [go_sem]
    exact .refl _
  have hp : 0 < (ratS y).size := by
    rw [← hs]
    rw [bl_ratS]
    have : Lib.itoa y.num ≠ [] := by
      rcases Int.lt_or_le y.num 0 with h | h
      · obtain ⟨k, hk⟩ : ∃ k : Nat, y.num = -(k : Int) := ⟨y.num.natAbs, by omega⟩
        rw [hk, show Lib.itoa (-(k : Int)) = 45 :: Lib.decDigits k from Lib.itoa_neg k (by omega)]; simp
      · obtain ⟨k, hk⟩ : ∃ k : Nat, y.num = (k : Int) := ⟨y.num.natAbs, by omega⟩
        rw [hk, show Lib.itoa (k : Int) = Lib.decDigits k from Lib.itoa_nonneg k]; exact dec_ne k
    have := List.length_pos_iff.2 this
    split
    · exact this
    · rw [List.length_append]; omega
  have hd := dash_int (ratS y)
  rw [show decide (((ratS y).size : Int) > 0) = true by simp; omega, Bool.true_and, dash_ratS] at hd
  simp only [go_sem]
  rw [hd]
  refine ⟨⟨by omega, by omega⟩, ?_⟩
  refine acond_i (fun h1 => ?_) (fun h1 => ?_)
  · have h1 := of_decide_eq_true h1
    have e1 : (ratS y).extract 1 (ratS y).size = ratS (-y) := bl_ext (by rw [bl_extract, ← hs, List.take_length, neg_text h1]; rfl)
    simp only [go_sem, e1]
    refine ⟨⟨by omega, by omega⟩, ?_⟩
    refine PC.use hadd ?_
    simp only [go_sem]
    exact .refl _
  · have h1 := of_decide_eq_false h1
    have hnz : y.num ≠ 0 := fun e => by
      have : y = 0 := Rat.num_eq_zero.1 e
      rw [this, ratS_zero] at h0
      exact eqB_no.1 h0 rfl
    have h2 : (-y).num < 0 := by rw [Rat.neg_num]; omega
    have e1 : (⟨#[45]⟩ : ByteArray) ++ ratS y = ratS (-y) := bl_ext (by rw [bl_append, neg_text h2, Rat.neg_neg]; rfl)
    simp only [go_sem, e1]
    refine ⟨by show ((1 + (ratS y).size : Nat) : Int) ≤ 9223372036854775807; omega, ?_⟩
    refine PC.use hadd ?_
    simp only [go_sem]
    exact .refl _
theorem times4_c (ns : List Int) (xs : List ByteArray) (hn : ∀ n ∈ ns, -9223372036854775808 ≤ n ∧ n ≤ 9223372036854775807) (hl : xs.length ≤ 1048576) (hs : ∀ s ∈ xs, s.size ≤ 1048576) :
    PC Tryz.prog 61 [.sl (ns.map encInt), .sl (xs.map Go.Aw.D.encStr)] (.tup [str (timesR ns xs).1, int (timesR ns xs).2]) := by
  refine PC.body (c := Tryz.f61.body.getD .skip) (fun _ => false) mixed Tryz.func61 rfl (by kernel_rfl) ?_
  unfold Tryz.f61
  simp only [Option.getD_some]
  simp only [go_sem]
  refine acond_i (fun hne => ?_) (fun heq => ?_)
  · have hne : ns.length ≠ xs.length := neN hne
    simp only [go_sem]
    rw [show timesR ns xs = (emp, 2) from if_pos hne]
    exact .refl _
  have heq : ns.length = xs.length := eqN heq
  have e0 : timesR ns xs = if xs.any (fun x => !rightR x) = true then (emp, 3) else timesF (ns.zip xs) (dec 0) := if_neg (by simp [heq])
  rw [e0]
  simp only [go_sem, List.length_map]
  refine ⟨fun ρ H => ∃ (k : Nat), k ≤ xs.length ∧ ρ 0 = .sl (ns.map encInt) ∧ ρ 1 = .sl (xs.map Go.Aw.D.encStr) ∧ ρ 6 = int k ∧ ∀ s ∈ xs.take k, rightR s = true, fun ρ _ => xs.length - natOf (ρ 6),
    ⟨0, Nat.zero_le _, by simp only [go_sem], by simp only [go_sem], by simp only [go_sem]; rfl, by simp⟩, ?_⟩
  rintro ρ H ⟨k, hk, h0, h1, h6, hz⟩
  simp only [go_sem, h0, h1, h6, List.length_map]
  refine acond_i (fun hlt => ?_) (fun hge => ?_)
  · have hlt := ltB hlt
    obtain ⟨s, hs0⟩ := getIn hlt
    have b1 := inB hlt
    simp only [go_sem, h0, h1, h6, getD_map hs0, b1]
    refine PC.use (right4_c s (hs s (List.mem_of_getElem? hs0))) ?_
    simp only [go_sem, h0, h1, h6]
    refine acond_i (fun hb => ?_) (fun hb => ?_)
    · simp only [go_sem]
      rw [if_pos (any_yes hs0 hb)]
      exact .refl _
    · simp only [go_sem, h0, h1, h6, wrapS (show k ≤ 4611686018427387904 by omega)]
      exact ⟨⟨k + 1, hlt, rfl, take_all' hs0 (by simpa using hb) hz⟩, by simp only [natOf_int]; omega⟩
  have hge := geB hk hge
  subst hge
  rw [List.take_length] at hz
  have hR : xs.any (fun s => !rightR s) = false := any_none fun s hs => by rw [hz s hs]; rfl
  rw [hR]
  simp only [go_sem, h0, h1, List.length_map]
  refine ⟨fun ρ H => ∃ (k : Nat) (t : ByteArray), k ≤ xs.length ∧ ρ 0 = .sl (ns.map encInt) ∧ ρ 1 = .sl (xs.map Go.Aw.D.encStr) ∧ ρ 7 = str t ∧ ρ 8 = int k ∧ t.size ≤ 1048576 ∧ timesF (ns.zip xs) (dec 0) = timesF ((ns.zip xs).drop k) t, fun ρ _ => xs.length - natOf (ρ 8),
    ⟨0, dec 0, Nat.zero_le _, by simp only [go_sem, h0], by simp only [go_sem, h1], by simp only [go_sem]; rw [zero_lit], by simp only [go_sem]; rfl, by rw [← zero_lit]; decide, rfl⟩, ?_⟩
  clear h0 h1 h6
  rintro ρ H ⟨k, t, hk, h0, h1, h7, h8, ht, hinv⟩
  rw [hinv]
  have hzl : (ns.zip xs).length = xs.length := by rw [List.length_zip]; omega
  simp only [go_sem, h0, h1, h7, h8, List.length_map, heq]
  refine acond_i (fun hlt => ?_) (fun hge => ?_)
  · have hlt := ltB hlt
    obtain ⟨s, hs0⟩ := getIn hlt
    obtain ⟨n, hn0⟩ := getIn (l := ns) (k := k) (by omega)
    have b1 := inB hlt
    have b2 := inB (show k < ns.length by omega)
    have hss := hs s (List.mem_of_getElem? hs0)
    have hnn := hn n (List.mem_of_getElem? hn0)
    have hz0 : (ns.zip xs)[k]? = some (n, s) := by rw [List.getElem?_zip_eq_some]; exact ⟨hn0, hs0⟩
    have hnm : n.natAbs < maxN := lt_max (k := 20) (by omega) (by decide)
    have hzs := Go.Nu.zed_size hnm
    rw [drop_at hz0, timesF]
    simp only [go_sem, h0, h1, h7, h8]
    refine adraw_q (by rfl) (by kernel_rfl) ?_
    simp only [go_sem, h0, h1, h7, h8, getD_map hs0, getD_map hn0, b1, b2, List.length_map]
    refine ⟨_, (of4_c n hnn.1 hnn.2).q rfl, ?_⟩
    simp only [go_sem, h0, h1, h7, h8, getD_map hs0, getD_map hn0, b1, b2, List.length_map]
    refine ⟨_, (mul4_c (zed n) s (by omega) hss).q rfl, ?_⟩
    simp only [go_sem, h0, h1, h7, h8]
    refine acond_i (fun hb => ?_) (fun hb => ?_)
    · have hb : (mulR (zed n) s).2 ≠ 0 := by simpa using hb
      simp only [go_sem]
      rw [if_pos hb]
      exact .refl _
    have hb : (mulR (zed n) s).2 = 0 := by simpa using hb
    have hm := right_size' (mulR_small hb)
    rw [if_neg (by simp [hb])]
    generalize (mulR (zed n) s).1 = m at *
    simp only [go_sem, h0, h1, h7, h8]
    refine PC.use (add4_c t m ht (by omega)) ?_
    simp only [go_sem, h0, h1, h7, h8]
    refine acond_i (fun hb2 => ?_) (fun hb2 => ?_)
    · have hb2 : (addR t m).2 ≠ 0 := by simpa using hb2
      simp only [go_sem]
      rw [if_pos hb2]
      exact .refl _
    have hb2 : (addR t m).2 = 0 := by simpa using hb2
    have ha := right_size' (addR_small hb2)
    rw [if_neg (by simp [hb2])]
    simp only [go_sem, h0, h1, h7, h8, wrapS (show k ≤ 4611686018427387904 by omega)]
    exact ⟨⟨k + 1, _, hlt, rfl, rfl, by omega, rfl⟩, by simp only [natOf_int]; omega⟩
  · have hge := geB hk hge
    subst hge
    rw [List.drop_of_length_le (by omega)]
    simp only [go_sem, h7]
    exact .refl _
end Go.Proofs.YtbcfajfngdmgnaaGreatDoor.Nu
