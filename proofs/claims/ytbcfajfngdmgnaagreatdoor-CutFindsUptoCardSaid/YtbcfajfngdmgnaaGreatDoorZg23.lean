/- Texts joined by a program: NuZd, CuA, CuB. -/
import Derived.Test.YtbcfajfngdmgnaaGreatDoorZg22

section
set_option linter.unusedSimpArgs false
set_option linter.unusedVariables false
namespace Go.Proofs.YtbcfajfngdmgnaaGreatDoor.Nu
open Go.Aw Go.Aw.D Go.Proofs Ty Go.Nu
set_option maxRecDepth 100000
theorem neg_text {y : Rat} (h : y.num < 0) : bl (ratS y) = 45 :: bl (ratS (-y)) := by
  obtain ⟨k, hk⟩ : ∃ k : Nat, y.num = -(k : Int) := ⟨y.num.natAbs, by omega⟩
  have e1 : Lib.itoa y.num = 45 :: Lib.decDigits k := by rw [hk]; exact Lib.itoa_neg k (by omega)
  have e2 : Lib.itoa (-y).num = Lib.decDigits k := by rw [Rat.neg_num, hk, Int.neg_neg]; exact Lib.itoa_nonneg k
  rw [bl_ratS, bl_ratS, e1, e2, Rat.neg_den]
  split <;> rfl
theorem neg_small {y : Rat} (h : SmallR y) : SmallR (-y) := ⟨by rw [Rat.neg_num, Int.natAbs_neg]; exact h.1, by rw [Rat.neg_den]; exact h.2⟩
theorem dash_ratS (y : Rat) : minusZ (ratS y) = decide (y.num < 0) := by
  rw [← minusZ_zed]
  unfold minusZ
  rw [bl_ratS, bl_zed]
  split
  · rfl
  · rcases Int.lt_or_le y.num 0 with h | h
    · obtain ⟨k, hk⟩ : ∃ k : Nat, y.num = -(k : Int) := ⟨y.num.natAbs, by omega⟩
      rw [hk, show Lib.itoa (-(k : Int)) = 45 :: Lib.decDigits k from Lib.itoa_neg k (by omega)]
      rfl
    · obtain ⟨k, hk⟩ : ∃ k : Nat, y.num = (k : Int) := ⟨y.num.natAbs, by omega⟩
      rw [hk, show Lib.itoa (k : Int) = Lib.decDigits k from Lib.itoa_nonneg k]
      cases hd : Lib.decDigits k with
      | nil => exact absurd hd (dec_ne k)
      | cons c r => rfl
theorem ratS_zero : ratS 0 = dec 0 := (if_pos (show (0 : Rat).den = 1 from rfl)).trans (zed_nat 0)
theorem sub4_c (a b : ByteArray) (ha : a.size ≤ 1048570) (hb : b.size ≤ 1048570) : PC Tryz.prog 62 [str a, str b] (.tup [str (subR a b).1, int (subR a b).2]) := by
  refine PC.body (c := Tryz.f62.body.getD .skip) (fun _ => false) mixed Tryz.func62 rfl (by kernel_rfl) ?_
  unfold Tryz.f62
  simp only [Option.getD_some]
  simp only [go_sem]
  refine PC.use (right4_c a (by omega)) ?_
  simp only [go_sem]
  refine ⟨_, fun _ => (right4_c b (by omega)).q rfl, ?_⟩
  simp only [go_sem]
  refine acond_i (fun hc => ?_) (fun hc => ?_)
  · simp only [go_sem]
    rw [show subR a b = (emp, 3) from if_neg (by rw [Bool.not_eq_true, ← Bool.not_eq_true', Bool.not_and]; exact hc)]
    exact .refl _
  have hr : (rightR a && rightR b) = true := by rw [← Bool.not_eq_false', Bool.not_and]; exact hc
  rw [show subR a b = _ from if_pos hr]
  simp only [Bool.and_eq_true] at hr
  obtain ⟨x, rfl, hx, _, _⟩ := right_parts hr.1
  obtain ⟨y, rfl, hy, _, _⟩ := right_parts hr.2
  rw [valR_ratS, valR_ratS]
  have hneg : addR (ratS x) (ratS (-y)) = sumR x (-y) := by
    unfold addR
    rw [rightR_ratS hx, rightR_ratS (neg_small hy), valR_ratS, valR_ratS]
    rfl
  have hsz := ratS_size (neg_small hy)
  have hadd := add4_c (ratS x) (ratS (-y)) (by omega) (by omega)
  rw [hneg] at hadd
  have hs := bl_size (ratS y)
  simp only [go_sem, eq_zero]
  refine acond_i (fun h0 => ?_) (fun h0 => ?_)
  · have h0 : y = 0 := by rw [eqB_iff, ← ratS_zero, ratS_inj] at h0; exact h0
    subst h0
    rw [show (-(0 : Rat)) = 0 from rfl] at hadd ⊢
    simp only [go_sem]
    refine PC.use hadd ?_
    simp only [go_sem]
    exact .refl _
  have hp : 0 < (ratS y).size := by
    rw [← hs]
    rw [bl_ratS]
    have : Lib.itoa y.num ≠ [] := by
      rcases Int.lt_or_le y.num 0 with h | h
      · obtain ⟨k, hk⟩ : ∃ k : Nat, y.num = -(k : Int) := ⟨y.num.natAbs, by omega⟩
        rw [hk, show Lib.itoa (-(k : Int)) = 45 :: Lib.decDigits k from Lib.itoa_neg k (by omega)]; simp
      · obtain ⟨k, hk⟩ : ∃ k : Nat, y.num = (k : Int) := ⟨y.num.natAbs, by omega⟩
        rw [hk, show Lib.itoa (k : Int) = Lib.decDigits k from Lib.itoa_nonneg k]; exact dec_ne k
    have := List.length_pos_iff.2 this
    split
    · exact this
    · rw [List.length_append]; omega
  have hd := dash_int (ratS y)
  rw [show decide (((ratS y).size : Int) > 0) = true by simp; omega, Bool.true_and, dash_ratS] at hd
  simp only [go_sem]
  rw [hd]
  refine ⟨⟨by omega, by omega⟩, ?_⟩
  refine acond_i (fun h1 => ?_) (fun h1 => ?_)
  · have h1 := of_decide_eq_true h1
    have e1 : (ratS y).extract 1 (ratS y).size = ratS (-y) := bl_ext (by rw [bl_extract, ← hs, List.take_length, neg_text h1]; rfl)
    simp only [go_sem, e1]
    refine ⟨⟨by omega, by omega⟩, ?_⟩
    refine PC.use hadd ?_
    simp only [go_sem]
    exact .refl _
  · have h1 := of_decide_eq_false h1
    have hnz : y.num ≠ 0 := fun e => by
      have : y = 0 := Rat.num_eq_zero.1 e
      rw [this, ratS_zero] at h0
      exact eqB_no.1 h0 rfl
    have h2 : (-y).num < 0 := by rw [Rat.neg_num]; omega
    have e1 : (⟨#[45]⟩ : ByteArray) ++ ratS y = ratS (-y) := bl_ext (by rw [bl_append, neg_text h2, Rat.neg_neg]; rfl)
    simp only [go_sem, e1]
    refine ⟨by show ((1 + (ratS y).size : Nat) : Int) ≤ 9223372036854775807; omega, ?_⟩
    refine PC.use hadd ?_
    simp only [go_sem]
    exact .refl _
theorem ordered_c (x y : Rat) (hx : SmallR x) (hy : SmallR y) : PC Tryz.prog 136 [str (zed x.num), str (dec x.den), str (zed y.num), str (dec y.den)] (int (cmpQ x y)) := by
  have xd : ((x.den : Int)).natAbs < maxN := by rw [Int.natAbs_natCast]; exact hx.2
  have yd : ((y.den : Int)).natAbs < maxN := by rw [Int.natAbs_natCast]; exact hy.2
  have x0 := x.den_nz
  have y0 := y.den_nz
  have hzz : ∀ {m : Int}, m.natAbs < maxN → (zed m).size ≤ 4097 := fun h => Go.Nu.zed_size h
  rw [← zed_nat, ← zed_nat]
  refine PC.body (c := Tryz.f136.body.getD .skip) (fun _ => false) mixed Tryz.func136 rfl (by kernel_rfl) ?_
  unfold Tryz.f136
  simp only [Option.getD_some]
  simp only [go_sem]
  refine ⟨fun ρ _ => ∃ (p q r s g : Int), ρ 0 = str (zed p) ∧ ρ 1 = str (zed q) ∧ ρ 2 = str (zed r) ∧ ρ 3 = str (zed s) ∧ ρ 9 = int g ∧ (g = 1 ∨ g = -1) ∧ 0 < q ∧ 0 < s ∧ p.natAbs < maxN ∧ q.natAbs < maxN ∧ r.natAbs < maxN ∧ s.natAbs < maxN ∧ cmpQ x y = g * cmpX p q r s, fun ρ _ => absS (ρ 1),
    ⟨x.num, x.den, y.num, y.den, 1, by simp only [go_sem], by simp only [go_sem], by simp only [go_sem], by simp only [go_sem], by simp only [go_sem], .inl rfl, by omega, by omega, hx.1, xd, hy.1, yd, by rw [Int.one_mul, cmpQ_X]⟩, ?_⟩
  rintro ρ H ⟨p, q, r, s, g, h5, h6, h7, h8, h10, hg, hq, hs, bp, bq, br, bs, hinv⟩
  have zp := hzz bp
  have zq := hzz bq
  have zr := hzz br
  have zs := hzz bs
  simp only [go_sem, h5, h6, h7, h8, h10]
  refine PC.use (div3_c (zed p) (zed q) (by omega) (by omega)) ?_
  rw [divZ_zed bp bq hq]
  simp only [go_sem, h5, h6, h7, h8, h10]
  refine PC.use (div3_c (zed r) (zed s) (by omega) (by omega)) ?_
  rw [divZ_zed br bs hs]
  simp only [go_sem, h5, h6, h7, h8, h10]
  have d1 := fdiv_abs (p := p) hq
  have d2 := fdiv_abs (p := r) hs
  have z1 := hzz (m := p.fdiv q) (by omega)
  have z2 := hzz (m := r.fdiv s) (by omega)
  refine PC.use (compare3z_c (zed (p.fdiv q)) (zed (r.fdiv s)) (by omega) (by omega)) ?_
  rw [cmpZ_zed]
  simp only [go_sem, h5, h6, h7, h8, h10]
  obtain ⟨_, m0, m1⟩ := fdiv_pos (p := p) hq
  obtain ⟨_, n0, n1⟩ := fdiv_pos (p := r) hs
  have c3 := cmpI_three (p.fdiv q) (r.fdiv s)
  refine acond_i (fun hc => ?_) (fun hc => ?_)
  · have hc : cmpI (p.fdiv q) (r.fdiv s) ≠ 0 := by simpa using hc
    simp only [go_sem, h10, wrap1 hg c3]
    refine cI ?_
    rw [hinv, cmpX_floor hq hs (fun e => hc (cmpI_eq e))]
  have hc : p.fdiv q = r.fdiv s := cmpI_zero.1 (by simpa using hc)
  have hX := cmpX_rest hq hs hc
  generalize p.fmod q = m at *
  generalize r.fmod s = n at *
  simp only [go_sem, h5, h6, h7, h8, h10, eq_zeroZ]
  refine acond_i (fun hz => ?_) (fun hz => ?_)
  · have hz : m = 0 ∧ n = 0 := by simpa using hz
    simp only [go_sem]
    refine cI ?_
    rw [hinv, hX, hz.1, hz.2, Int.zero_mul, Int.zero_mul, cmpI_eq rfl, Int.mul_zero]
  simp only [go_sem, h5, h6, h7, h8, h10, eq_zeroZ]
  refine acond_i (fun hm => ?_) (fun hm => ?_)
  · have hm : m = 0 := of_decide_eq_true hm
    have hn : 0 < n := by
      rcases Int.lt_or_le 0 n with h | h
      · exact h
      · exfalso
        have : n = 0 := by omega
        rw [hm, this] at hz
        cases hz
    simp only [go_sem, h10, wrapN hg]
    refine cI ?_
    rw [hinv, hX, hm, Int.zero_mul, cmpI_lt (Int.mul_pos hn hq)]
    omega
  have hm : 0 < m := by have := of_decide_eq_false hm; omega
  simp only [go_sem, h5, h6, h7, h8, h10, eq_zeroZ]
  refine acond_i (fun hn => ?_) (fun hn => ?_)
  · have hn : n = 0 := of_decide_eq_true hn
    simp only [go_sem, h10]
    refine cI ?_
    rw [hinv, hX, hn, Int.zero_mul, cmpI_gt (Int.mul_pos hm hs)]
    omega
  have hn : 0 < n := by have := of_decide_eq_false hn; omega
  simp only [go_sem, h5, h6, h7, h8, h10, wrapN hg]
  refine ⟨⟨q, m, s, n, -g, rfl, rfl, rfl, rfl, rfl, by omega, hm, hn, bq, by omega, bs, by omega, ?_⟩, ?_⟩
  · rw [hinv, hX, cmpX_flip]
    rw [Int.mul_neg, Int.neg_mul]
  · rw [absS_zed, absS_zed]; omega
theorem compare4_c (a b : ByteArray) (ha : a.size ≤ 1048576) (hb : b.size ≤ 1048576) : PC Tryz.prog 63 [str a, str b] (int (cmpR a b)) := by
  have htwo := both_c a b ha hb
  by_cases hr : (rightR a && rightR b) = true
  rotate_left
  · rw [show fourL a b = _ from if_neg hr, show errR a b = _ from if_neg hr] at htwo
    rw [show cmpR a b = 0 from if_neg hr]
    refine PC.body (c := Tryz.f63.body.getD .skip) (fun _ => false) mixed Tryz.func63 rfl (by kernel_rfl) ?_
    unfold Tryz.f63
    simp only [Option.getD_some]
    simp only [go_sem]
    refine PC.use htwo ?_
    simp only [go_sem]
    refine anew_i fun j hj => ?_
    simp only [go_sem]
    refine wputE_n (updH_same _ _ _) (by simp) ?_
    simp only [go_sem]
    refine acond_i (fun _ => ?_) (fun hb => by cases hb)
    simp only [go_sem]
    exact .refl _
  rw [show fourL a b = _ from if_pos hr, show errR a b = _ from if_pos hr] at htwo
  rw [show cmpR a b = _ from if_pos hr]
  simp only [Bool.and_eq_true] at hr
  obtain ⟨x, rfl, hx, e1, e2⟩ := right_parts hr.1
  obtain ⟨y, rfl, hy, e3, e4⟩ := right_parts hr.2
  rw [e1, e2, e3, e4] at htwo
  rw [valR_ratS, valR_ratS]
  refine PC.body (c := Tryz.f63.body.getD .skip) (fun _ => false) mixed Tryz.func63 rfl (by kernel_rfl) ?_
  unfold Tryz.f63
  simp only [Option.getD_some]
  simp only [go_sem]
  refine PC.use htwo ?_
  simp only [go_sem]
  refine anew_i fun j hj => ?_
  simp only [go_sem]
  refine wputE_n (updH_same _ _ _) (by simp) ?_
  generalize hP : updH (updH _ j _) j _ = HP
  have R2 : HP j = some (⟨175, 4, [[str (zed x.num), str (dec x.den), str (zed y.num), str (dec y.den)]]⟩ : Row) := by rw [← hP, updH_same]; rfl
  simp only [go_sem]
  refine acond_i (fun hb => by cases hb) (fun _ => ?_)
  simp only [go_sem, R2]
  repeat (refine ⟨by first | decide | omega, ?_⟩)
  refine PC.use (ordered_c x y hx hy) ?_
  simp only [go_sem]
  exact .refl _
theorem sign4_c (s : ByteArray) (h : s.size ≤ 1048576) : PC Tryz.prog 17 [str s] (int (signR s)) := by
  have hc := compare4_c s ⟨#[48]⟩ h (by decide)
  refine PC.body (c := Tryz.f17.body.getD .skip) (fun _ => false) mixed Tryz.func17 rfl (by kernel_rfl) ?_
  unfold Tryz.f17
  simp only [Option.getD_some]
  simp only [go_sem]
  refine PC.use hc ?_
  simp only [go_sem]
  refine cI ?_
  unfold cmpR signR
  rw [zero_lit, zero_right, Bool.and_true]
  split
  · rw [show valR (dec 0) = 0 by rw [← ratS_zero, valR_ratS], cmpQ_zero]
  · rfl
theorem times4_c (ns : List Int) (xs : List ByteArray) (hn : ∀ n ∈ ns, -9223372036854775808 ≤ n ∧ n ≤ 9223372036854775807) (hl : xs.length ≤ 1048576) (hs : ∀ s ∈ xs, s.size ≤ 1048576) :
    PC Tryz.prog 61 [.sl (ns.map encInt), .sl (xs.map Go.Aw.D.encStr)] (.tup [str (timesR ns xs).1, int (timesR ns xs).2]) := by
  refine PC.body (c := Tryz.f61.body.getD .skip) (fun _ => false) mixed Tryz.func61 rfl (by kernel_rfl) ?_
  unfold Tryz.f61
  simp only [Option.getD_some]
  simp only [go_sem]
  refine acond_i (fun hne => ?_) (fun heq => ?_)
  · have hne : ns.length ≠ xs.length := neN hne
    simp only [go_sem]
    rw [show timesR ns xs = (emp, 2) from if_pos hne]
    exact .refl _
  have heq : ns.length = xs.length := eqN heq
  have e0 : timesR ns xs = if xs.any (fun x => !rightR x) = true then (emp, 3) else timesF (ns.zip xs) (dec 0) := if_neg (by simp [heq])
  rw [e0]
  simp only [go_sem, List.length_map]
  refine ⟨fun ρ H => ∃ (k : Nat), k ≤ xs.length ∧ ρ 0 = .sl (ns.map encInt) ∧ ρ 1 = .sl (xs.map Go.Aw.D.encStr) ∧ ρ 6 = int k ∧ ∀ s ∈ xs.take k, rightR s = true, fun ρ _ => xs.length - natOf (ρ 6),
    ⟨0, Nat.zero_le _, by simp only [go_sem], by simp only [go_sem], by simp only [go_sem]; rfl, by simp⟩, ?_⟩
  rintro ρ H ⟨k, hk, h0, h1, h6, hz⟩
  simp only [go_sem, h0, h1, h6, List.length_map]
  refine acond_i (fun hlt => ?_) (fun hge => ?_)
  · have hlt := ltB hlt
    obtain ⟨s, hs0⟩ := getIn hlt
    have b1 := inB hlt
    simp only [go_sem, h0, h1, h6, getD_map hs0, b1]
    refine PC.use (right4_c s (hs s (List.mem_of_getElem? hs0))) ?_
    simp only [go_sem, h0, h1, h6]
    refine acond_i (fun hb => ?_) (fun hb => ?_)
    · simp only [go_sem]
      rw [if_pos (any_yes hs0 hb)]
      exact .refl _
    · simp only [go_sem, h0, h1, h6, wrapS (show k ≤ 4611686018427387904 by omega)]
      exact ⟨⟨k + 1, hlt, rfl, take_all' hs0 (by simpa using hb) hz⟩, by simp only [natOf_int]; omega⟩
  have hge := geB hk hge
  subst hge
  rw [List.take_length] at hz
  have hR : xs.any (fun s => !rightR s) = false := any_none fun s hs => by rw [hz s hs]; rfl
  rw [hR]
  simp only [go_sem, h0, h1, List.length_map]
  refine ⟨fun ρ H => ∃ (k : Nat) (t : ByteArray), k ≤ xs.length ∧ ρ 0 = .sl (ns.map encInt) ∧ ρ 1 = .sl (xs.map Go.Aw.D.encStr) ∧ ρ 7 = str t ∧ ρ 8 = int k ∧ t.size ≤ 1048576 ∧ timesF (ns.zip xs) (dec 0) = timesF ((ns.zip xs).drop k) t, fun ρ _ => xs.length - natOf (ρ 8),
    ⟨0, dec 0, Nat.zero_le _, by simp only [go_sem, h0], by simp only [go_sem, h1], by simp only [go_sem]; rw [zero_lit], by simp only [go_sem]; rfl, by rw [← zero_lit]; decide, rfl⟩, ?_⟩
  clear h0 h1 h6
  rintro ρ H ⟨k, t, hk, h0, h1, h7, h8, ht, hinv⟩
  rw [hinv]
  have hzl : (ns.zip xs).length = xs.length := by rw [List.length_zip]; omega
  simp only [go_sem, h0, h1, h7, h8, List.length_map, heq]
  refine acond_i (fun hlt => ?_) (fun hge => ?_)
  · have hlt := ltB hlt
    obtain ⟨s, hs0⟩ := getIn hlt
    obtain ⟨n, hn0⟩ := getIn (l := ns) (k := k) (by omega)
    have b1 := inB hlt
    have b2 := inB (show k < ns.length by omega)
    have hss := hs s (List.mem_of_getElem? hs0)
    have hnn := hn n (List.mem_of_getElem? hn0)
    have hz0 : (ns.zip xs)[k]? = some (n, s) := by rw [List.getElem?_zip_eq_some]; exact ⟨hn0, hs0⟩
    have hnm : n.natAbs < maxN := lt_max (k := 20) (by omega) (by decide)
    have hzs := Go.Nu.zed_size hnm
    rw [drop_at hz0, timesF]
    simp only [go_sem, h0, h1, h7, h8]
    refine adraw_q (by rfl) (by kernel_rfl) ?_
    simp only [go_sem, h0, h1, h7, h8, getD_map hs0, getD_map hn0, b1, b2, List.length_map]
    refine ⟨_, (of4_c n hnn.1 hnn.2).q rfl, ?_⟩
    simp only [go_sem, h0, h1, h7, h8, getD_map hs0, getD_map hn0, b1, b2, List.length_map]
    refine ⟨_, (mul4_c (zed n) s (by omega) hss).q rfl, ?_⟩
    simp only [go_sem, h0, h1, h7, h8]
    refine acond_i (fun hb => ?_) (fun hb => ?_)
    · have hb : (mulR (zed n) s).2 ≠ 0 := by simpa using hb
      simp only [go_sem]
      rw [if_pos hb]
      exact .refl _
    have hb : (mulR (zed n) s).2 = 0 := by simpa using hb
    have hm := right_size' (mulR_small hb)
    rw [if_neg (by simp [hb])]
    generalize (mulR (zed n) s).1 = m at *
    simp only [go_sem, h0, h1, h7, h8]
    refine PC.use (add4_c t m ht (by omega)) ?_
    simp only [go_sem, h0, h1, h7, h8]
    refine acond_i (fun hb2 => ?_) (fun hb2 => ?_)
    · have hb2 : (addR t m).2 ≠ 0 := by simpa using hb2
      simp only [go_sem]
      rw [if_pos hb2]
      exact .refl _
    have hb2 : (addR t m).2 = 0 := by simpa using hb2
    have ha := right_size' (addR_small hb2)
    rw [if_neg (by simp [hb2])]
    simp only [go_sem, h0, h1, h7, h8, wrapS (show k ≤ 4611686018427387904 by omega)]
    exact ⟨⟨k + 1, _, hlt, rfl, rfl, by omega, rfl⟩, by simp only [natOf_int]; omega⟩
  · have hge := geB hk hge
    subst hge
    rw [List.drop_of_length_le (by omega)]
    simp only [go_sem, h7]
    exact .refl _
end Go.Proofs.YtbcfajfngdmgnaaGreatDoor.Nu
end

section
set_option linter.unusedSimpArgs false
set_option linter.unusedVariables false
namespace Go.Proofs.YtbcfajfngdmgnaaGreatDoor.Nu
open Go.Aw Go.Aw.D Go.Proofs Ty Go.Nu
set_option maxRecDepth 100000
theorem and1 (x : Int) : bitV .and .i64 x 1 = x % 2 := by
  have h : ((BitVec.ofInt 64 x &&& BitVec.ofInt 64 1).toNat : Int) = x % 2 := by
    rw [BitVec.toNat_and, BitVec.toNat_ofInt, BitVec.toNat_ofInt]
    have : ((1 : Int) % ((2 ^ 64 : Nat) : Int)).toNat = 1 := by decide
    rw [this, Nat.and_one_is_mod]
    omega
  refine Eq.trans (congrArg IntKind.i64.wrap h) ?_
  exact wrap_in (by omega)
theorem and_nat {a b : Nat} (ha : a < 2 ^ 63) (hb : b < 2 ^ 63) : bitV .and .i64 (a : Int) (b : Int) = ((a &&& b : Nat) : Int) := by
  have h : ((BitVec.ofInt 64 (a : Int) &&& BitVec.ofInt 64 (b : Int)).toNat : Int) = ((a &&& b : Nat) : Int) := by
    rw [BitVec.toNat_and, BitVec.toNat_ofInt, BitVec.toNat_ofInt]
    have h1 : ((a : Int) % ((2 ^ 64 : Nat) : Int)).toNat = a := by omega
    have h2 : ((b : Int) % ((2 ^ 64 : Nat) : Int)).toNat = b := by omega
    rw [h1, h2]
  refine Eq.trans (congrArg IntKind.i64.wrap h) ?_
  have := Nat.and_lt_two_pow a hb
  exact wrap_in (by omega)
theorem shr_in {x : Int} {i : Nat} (h : i ≤ 62) : shV .shr .i64 x (i : Int) = x / 2 ^ i := by
  show x.fdiv (2 ^ min ((i : Int)).toNat 64) = _
  have : min ((i : Int)).toNat 64 = i := by omega
  rw [this, Int.fdiv_eq_ediv_of_nonneg _ (by exact Int.le_of_lt (Int.pow_pos (by decide)))]
def hasR (set i : Int) : Bool := decide (i ≥ 0) && decide (i ≤ 62) && ((set / 2 ^ i.toNat) % 2 == 1)
theorem sHas_c (set i : Int) : PC Tryz.prog 153 [int set, int i] (boo (hasR set i)) := by
  refine PC.body (c := Tryz.f153.body.getD .skip) (fun _ => false) mixed Tryz.func153 rfl (by kernel_rfl) ?_
  unfold Tryz.f153
  simp only [Option.getD_some]
  simp only [go_sem]
  refine ⟨fun h => ?_, ?_⟩
  · simp at h; omega
  · refine cB ?_
    unfold hasR
    rw [and1]
    by_cases h : 0 ≤ i ∧ i ≤ 62
    · obtain ⟨h0, h1⟩ := h
      have e := shr_in (x := set) (i := i.toNat) (by omega)
      rw [Int.toNat_of_nonneg h0] at e
      rw [e]
    · have : (decide (i ≥ 0) && decide (i ≤ 62)) = false := by simp; omega
      rw [this]; rfl
def memU (set : Int) (k : Nat) : List Int := ((List.range k).filter fun i : Nat => hasR set (i : Int)).map fun i : Nat => (i : Int)
def memS (set : Int) : List Int := memU set 63
theorem memU_succ (set : Int) (k : Nat) : memU set (k + 1) = memU set k ++ (if hasR set (k : Int) = true then [(k : Int)] else []) := by
  unfold memU
  rw [List.range_succ, List.filter_append, List.map_append]
  by_cases h : hasR set (k : Int) = true
  · simp [h]
  · simp [h]
theorem memU_len (set : Int) (k : Nat) : (memU set k).length ≤ k := by
  unfold memU
  rw [List.length_map]
  exact Nat.le_trans (List.length_filter_le _ _) (by simp)
def intRow (l : List Int) : Row := ⟨3, 1, l.map encInt⟩
theorem members_c (set : Int) : PC Tryz.prog 85 [int set] (.sl ((memS set).map encInt)) := by
  refine PC.body (c := Tryz.f85.body.getD .skip) (fun t => t == 3) mixed Tryz.func85 rfl (by kernel_rfl) ?_
  unfold Tryz.f85
  simp only [Option.getD_some]
  simp only [go_sem]
  refine anew_i fun j hj => ?_
  simp only [go_sem]
  refine ⟨fun ρ H => ∃ k : Nat, k ≤ 63 ∧ ρ 0 = int set ∧ ρ 5 = int k ∧ ∃ j, ρ 3 = .os j ∧ H j = some (intRow (memU set k)), fun ρ _ => 63 - natOf (ρ 5), ⟨0, Nat.zero_le _, rfl, rfl, j, rfl, updH_same _ _ _⟩, ?_⟩
  clear hj
  rintro ρ H ⟨k, hk, h0, h5, j, h3, R⟩
  simp only [go_sem, h0, h5, h3]
  refine acond_i (fun hlt => ?_) (fun hge => ?_)
  · have hlt : k < 63 := by simp at hlt; omega
    simp only [go_sem, h0, h5, h3]
    refine PC.use (sHas_c set k) ?_
    simp only [go_sem, h0, h5, h3]
    refine acond_i (fun hb => ?_) (fun hb => ?_)
    · simp only [go_sem, h0, h5, h3]
      refine wappE_i R ⟨rfl, rfl⟩ ⟨rfl, trivial⟩ (by have := memU_len set k; simp [intRow]; omega) (fun j' hj' => ?_)
      simp only [go_sem, h0, h5, h3, wrapS (show k ≤ 4611686018427387904 by omega)]
      refine ⟨⟨k + 1, hlt, rfl, j', rfl, ?_⟩, by simp only [natOf_int]; omega⟩
      rw [memU_succ, if_pos hb, updH_same]
      simp only [intRow, List.map_append, List.map_cons, List.map_nil]
      rfl
    · simp only [go_sem, h0, h5, h3, wrapS (show k ≤ 4611686018427387904 by omega)]
      refine ⟨⟨k + 1, hlt, rfl, j, rfl, ?_⟩, by simp only [natOf_int]; omega⟩
      rw [memU_succ, if_neg (by rw [hb]; simp), List.append_nil]
      exact R
  · have hge : k = 63 := by simp at hge; omega
    subst hge
    simp only [go_sem, h3]
    exact .row _ _ _ R (ConvE.refl _)
def popK : Nat → Nat → Nat
  | 0, _ => 0
  | k + 1, n => n % 2 + popK k (n / 2)
theorem popK_snoc : ∀ (k n : Nat), popK (k + 1) n = popK k n + (n / 2 ^ k) % 2
  | 0, n => by simp [popK]
  | k + 1, n => by
    rw [popK, popK_snoc k (n / 2), popK, Nat.div_div_eq_div_mul, show 2 * 2 ^ k = 2 ^ (k + 1) by rw [Nat.pow_succ, Nat.mul_comm]]
    omega
theorem popK_zero : ∀ k : Nat, popK k 0 = 0
  | 0 => rfl
  | k + 1 => by rw [popK, popK_zero k]
theorem popK_le : ∀ k n : Nat, popK k n ≤ k
  | 0, _ => Nat.le_refl 0
  | k + 1, n => by have := popK_le k (n / 2); rw [popK]; omega
theorem memU_pop (n : Nat) : ∀ k : Nat, k ≤ 63 → (memU (n : Int) k).length = popK k n
  | 0, _ => rfl
  | k + 1, hk => by
    rw [memU_succ, List.length_append, memU_pop n k (by omega), popK_snoc]
    have h : hasR (n : Int) (k : Int) = decide ((n / 2 ^ k) % 2 = 1) := by
      unfold hasR
      rw [show decide ((k : Int) ≥ 0) = true by simp, show decide ((k : Int) ≤ 62) = true by simp; omega, Int.toNat_natCast, Bool.true_and, Bool.true_and]
      rw [Bool.eq_iff_iff, beq_iff_eq, decide_eq_true_iff]
      have : ((n : Int) / 2 ^ k) = ((n / 2 ^ k : Nat) : Int) := by norm_cast
      rw [this]
      omega
    rw [h]
    by_cases h2 : (n / 2 ^ k) % 2 = 1
    · simp [h2]
    · have : (n / 2 ^ k) % 2 = 0 := by omega
      simp [this]
theorem size_c (n : Nat) : PC Tryz.prog 79 [int n] (int (popK 63 n : Nat)) := by
  have hm := memU_pop n 63 (Nat.le_refl _)
  have hle := popK_le 63 n
  refine PC.body (c := Tryz.f79.body.getD .skip) (fun _ => false) mixed Tryz.func79 rfl (by kernel_rfl) ?_
  unfold Tryz.f79
  simp only [Option.getD_some]
  simp only [go_sem]
  refine PC.use (members_c n) ?_
  simp only [go_sem, List.length_map, memS, hm]
  generalize popK 63 n = P at *
  refine ⟨fun ρ _ => ∃ k : Nat, k ≤ P ∧ ρ 3 = int k ∧ ρ 6 = int (P : Nat) ∧ ρ 7 = int k, fun ρ _ => P - natOf (ρ 7), ⟨0, Nat.zero_le _, by simp only [go_sem]; rfl, by simp only [go_sem], by simp only [go_sem]; rfl⟩, ?_⟩
  rintro ρ H ⟨k, hk, h3, h6, h7⟩
  simp only [go_sem, h3, h6, h7]
  refine acond_i (fun hlt => ?_) (fun hge => ?_)
  · have hlt := ltB hlt
    simp only [go_sem, h3, h6, h7, wrapS (show k ≤ 4611686018427387904 by omega)]
    exact ⟨⟨k + 1, hlt, rfl⟩, by simp only [natOf_int]; omega⟩
  · have hge := geB hk hge
    subst hge
    simp only [go_sem, h3]
    exact .refl _
theorem size5_c (n : Nat) (hn : n < 9223372036854775808) : PC Tryz.prog 92 [int n] (int (popK 63 n : Nat)) := by
  have hle := popK_le 63 n
  refine PC.body (c := Tryz.f92.body.getD .skip) (fun _ => false) mixed Tryz.func92 rfl (by kernel_rfl) ?_
  unfold Tryz.f92
  simp only [Option.getD_some]
  simp only [go_sem]
  refine ⟨fun ρ _ => ∃ k m c : Nat, k ≤ 63 ∧ ρ 0 = int m ∧ ρ 3 = int c ∧ m < 2 ^ (63 - k) ∧ c + popK (63 - k) m = popK 63 n, fun ρ _ => natOf (ρ 0), ⟨0, n, 0, Nat.zero_le _, by simp only [go_sem], by simp only [go_sem]; rfl, hn, by simp⟩, ?_⟩
  rintro ρ H ⟨k, m, c, hk, h0, h3, hm, hc⟩
  simp only [go_sem, h0, h3]
  refine acond_i (fun hlt => ?_) (fun hge => ?_)
  · have hlt : 0 < m := by simpa using hlt
    obtain ⟨d, hd⟩ : ∃ d, 63 - k = d + 1 := ⟨62 - k, by
      rcases Nat.lt_or_ge k 63 with h | h
      · omega
      · have : k = 63 := by omega
        subst this
        simp at hm
        omega⟩
    rw [hd] at hm hc
    have hmb : m < 9223372036854775808 := Nat.lt_of_lt_of_le hm (show 2 ^ (d + 1) ≤ 2 ^ 63 from Nat.pow_le_pow_right (by decide) (by omega))
    rw [popK] at hc
    rw [Nat.pow_succ] at hm
    have e2 : ((m : Int)).tmod 2 = ((m % 2 : Nat) : Int) := rfl
    have e3 : IntKind.i64.wrap (((m : Int)).tdiv 2) = ((m / 2 : Nat) : Int) := by
      rw [show ((m : Int)).tdiv 2 = ((m / 2 : Nat) : Int) from rfl, wrap_in (by omega)]
    have e4 : IntKind.i64.wrap ((c : Int) + ((m % 2 : Nat) : Int)) = ((c + m % 2 : Nat) : Int) := by rw [wrap_in (by omega)]; omega
    simp only [go_sem, h0, h3, e2, e3, e4]
    refine ⟨by decide, by decide, ?_⟩
    exact ⟨⟨k + 1, m / 2, c + m % 2, by omega, rfl, rfl, by rw [show 63 - (k + 1) = d by omega]; omega, by rw [show 63 - (k + 1) = d by omega]; omega⟩, by simp only [natOf_int]; omega⟩
  · have hz : m = 0 := by simpa using hge
    subst hz
    rw [popK_zero] at hc
    simp only [go_sem, h3]
    exact cI (by omega)
end Go.Proofs.YtbcfajfngdmgnaaGreatDoor.Nu
end

section
set_option linter.unusedSimpArgs false
set_option linter.unusedVariables false
namespace Go.Proofs.YtbcfajfngdmgnaaGreatDoor.Nu
open Go.Aw Go.Aw.D Go.Proofs Ty Go.Nu
set_option maxRecDepth 100000
def encKV (p : Int × Int) : List AV := [int p.1, int p.2]
def idxM (m : List (Int × Int)) (o : Int) : Option Nat := m.findIdx? fun p => p.1 == o
def getM (m : List (Int × Int)) (o : Int) : Int := ((m.find? fun p => p.1 == o).map (·.2)).getD 0
def putM (m : List (Int × Int)) (o v : Int) : List (Int × Int) := match idxM m o with
  | some i => m.set i (o, v)
  | none => m ++ [(o, v)]
abbrev mapRow (m : List (Int × Int)) : Row := ⟨0, 2, m.map encKV⟩
theorem mfind_int (o : Int) : ∀ (m : List (Int × Int)) (i : Nat), mfind (keyEq Tryz.prog 3 (int o)) (m.map encKV) i = some ((idxM m o).map (· + i))
  | [], i => rfl
  | p :: m, i => by
    have ih := mfind_int o m (i + 1)
    have hk : keyEq Tryz.prog 3 (int o) ((encKV p).getD 0 .any) = some (o == p.1) := by
      show keyEq Tryz.prog 3 (int o) (int p.1) = _
      unfold keyEq
      simp only [kk3]
      simp [eqCell]
    rw [List.map_cons, mfind, hk]
    unfold idxM at *
    rw [List.findIdx?_cons]
    by_cases h : o = p.1
    · subst h; simp
    · have h1 : (o == p.1) = false := by simpa using h
      have h2 : (p.1 == o) = false := by simpa using fun e => h e.symm
      rw [h1, h2]
      simp only [Bool.false_eq_true, if_false]
      rw [ih]
      cases m.findIdx? (fun p => p.1 == o) with
      | none => rfl
      | some j => simp; omega
theorem mfind_int0 (o : Int) (m : List (Int × Int)) : mfind (keyEq Tryz.prog 3 (int o)) (m.map encKV) 0 = some (idxM m o) := by
  rw [mfind_int]; cases idxM m o <;> rfl
theorem plain_int (o : Int) : plainKey Tryz.prog 3 (int o) = true := by
  simp only [plainKey, kk3]; rfl
theorem mget_int (m : List (Int × Int)) (o : Int) : mget false (int 0) (m.map encKV) (idxM m o) = int (getM m o) := by
  unfold mget getM idxM
  induction m with
  | nil => rfl
  | cons p m ih =>
    rw [List.findIdx?_cons, List.find?_cons]
    cases h : p.1 == o with
    | true => simp [encKV]
    | false =>
      cases hi : m.findIdx? (fun p => p.1 == o) with
      | none =>
        rw [hi] at ih
        simpa using ih
      | some j =>
        rw [hi] at ih
        simp at ih ⊢
        exact ih
theorem mput_int (m : List (Int × Int)) (o v : Int) : mput (m.map encKV) (idxM m o) (int o) (int v) = (putM m o v).map encKV := by
  unfold mput putM
  cases idxM m o with
  | none => simp [encKV]
  | some i => simp [List.map_set, encKV]
def needN (k : Int) : Nat := if k = 1 then 2 else if k = 2 then 1 else 0
def coefB (k : Int) (P : Nat) : Bool := decide (needN k > 0) && decide (needN k ≤ P)
def coefP (k : Int) (n : Nat) : Int := if coefB k (popK 63 n) = true then 1 else 0
theorem coef28_c (k m : Int) (a b : Nat) (ha : a < 2 ^ 63) (hb : b < 2 ^ 63) : PC Tryz.prog 31 [.agg [int k, int a, int m], int b] (int (coefP k (a &&& b))) := by
  have hlt : a &&& b < 2 ^ 63 := Nat.and_lt_two_pow a hb
  have hs := size5_c (a &&& b) hlt
  have hle := popK_le 63 (a &&& b)
  refine PC.body (c := Tryz.f31.body.getD .skip) (fun _ => false) mixed Tryz.func31 rfl (by kernel_rfl) ?_
  unfold Tryz.f31
  simp only [Option.getD_some]
  simp only [go_sem]
  rw [and_nat ha hb]
  refine PC.use hs ?_
  unfold coefP
  generalize popK 63 (a &&& b) = P at *
  simp only [go_sem]
  have hc : ((k == 1 && decide ((P : Int) ≥ 2)) || (k == 2 && decide ((P : Int) ≥ 1))) = coefB k P := by
    unfold coefB needN
    by_cases h1 : k = 1
    · subst h1; simp; omega
    · by_cases h2 : k = 2
      · subst h2; simp; omega
      · simp [h1, h2]
  rw [hc]
  refine acond_i (fun h => ?_) (fun h => ?_)
  · simp only [go_sem]
    exact cI (by rw [if_pos h])
  · simp only [go_sem]
    exact cI (by rw [if_neg (by rw [h]; simp)])
theorem coef_c (k m : Int) (a b : Nat) (ha : a < 2 ^ 63) (hb : b < 2 ^ 63) : PC Tryz.prog 30 [.agg [int k, int a, int m], int b] (int (coefP k (a &&& b))) := by
  have hs := size_c (a &&& b)
  have hle := popK_le 63 (a &&& b)
  refine PC.body (c := Tryz.f30.body.getD .skip) (fun _ => false) mixed Tryz.func30 rfl (by kernel_rfl) ?_
  unfold Tryz.f30
  simp only [Option.getD_some]
  simp only [go_sem]
  refine anew_i fun jm hjm => ?_
  generalize hG : updH noRows jm _ = HM
  have Rm : HM jm = some (mapRow []) := by rw [← hG, updH_same]; rfl
  clear hG hjm
  simp only [go_sem]
  refine wmapU_i Rm ma141 (plain_int _) (mfind_int0 _ _) ?_
  rw [mput_int]
  generalize hG : updH HM jm _ = HN
  have Rn : HN jm = some (mapRow [(1, 2)]) := by rw [← hG, updH_same]; rfl
  clear hG Rm
  simp only [go_sem]
  refine wmapU_i Rn ma141 (plain_int _) (mfind_int0 _ _) ?_
  rw [mput_int]
  generalize hG : updH HN jm _ = HO
  have Ro : HO jm = some (mapRow [(1, 2), (2, 1)]) := by rw [← hG, updH_same]; rfl
  clear hG Rn
  simp only [go_sem]
  refine alookup_i Ro ma141 (plain_int _) (mfind_int0 _ _) zv3 ?_
  rw [mget_int]
  have hk : getM [(1, 2), (2, 1)] k = (needN k : Nat) := by
    unfold getM needN
    by_cases h1 : k = 1
    · subst h1; rfl
    · by_cases h2 : k = 2
      · subst h2; rfl
      · have e1 : ((1 : Int) == k) = false := by simpa using fun e => h1 e.symm
        have e2 : ((2 : Int) == k) = false := by simpa using fun e => h2 e.symm
        simp [List.find?, e1, e2, h1, h2]
  rw [hk]
  simp only [go_sem]
  rw [and_nat ha hb]
  refine ⟨_, fun _ => hs.q rfl, ?_⟩
  unfold coefP
  generalize popK 63 (a &&& b) = P at *
  simp only [go_sem]
  have hc : (decide (((needN k : Nat) : Int) > 0) && decide ((P : Int) ≥ ((needN k : Nat) : Int))) = coefB k P := by
    unfold coefB
    rw [Bool.eq_iff_iff]; simp
  rw [hc]
  refine acond_i (fun h => ?_) (fun h => ?_)
  · simp only [go_sem]
    exact cI (by rw [if_pos h])
  · simp only [go_sem]
    exact cI (by rw [if_neg (by rw [h]; simp)])
end Go.Proofs.YtbcfajfngdmgnaaGreatDoor.Nu
end
