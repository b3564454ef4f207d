/- Texts joined by a program: NuK, NuL. -/
import Derived.Test.YtdlijlecpopadaaGreatDoorZx17

section
set_option linter.unusedSimpArgs false
set_option linter.unusedVariables false
namespace Go.Proofs.YtdlijlecpopadaaGreatDoor.Nu
open Go.Aw Go.Aw.D Go.Proofs Ty Go.Nu
set_option maxRecDepth 100000
theorem zero_hi {b : Nat} (hb : 0 < b) {l : List Nat} {q p : Nat} (h : ofL b l < b ^ q) (hp : q ≤ p) (hl : p < l.length) : l[p]? = some 0 := by
  obtain ⟨x, hx⟩ := getIn hl
  rcases Nat.eq_zero_or_pos x with h0 | h0
  · rw [hx, h0]
  · exfalso
    have e1 : ofL b l = ofL b (l.take p) + b ^ p * ofL b (l.drop p) := by
      have := ofL_append b (l.take p) (l.drop p)
      rw [List.take_append_drop, List.length_take, Nat.min_eq_left (by omega)] at this
      exact this
    rw [ofL_drop b hx] at e1
    have h1 : b ^ p * 1 ≤ b ^ p * (x + b * ofL b (l.drop (p + 1))) := Nat.mul_le_mul_left _ (by omega)
    have h2 : b ^ q ≤ b ^ p := Nat.pow_le_pow_right hb hp
    omega
theorem nMul_c (a b : ByteArray) (ha : a.size ≤ 1048576) (hb : b.size ≤ 1048576) : PC Tryz.prog 214 [str a, str b] (.tup [str (mulN a b).1, int (mulN a b).2]) := by
  refine PC.body (c := Tryz.f214.body.getD .skip) (fun t => t == 9) mixed Tryz.func214 rfl (by kernel_rfl) ?_
  unfold Tryz.f214
  simp only [Option.getD_some]
  simp only [go_sem]
  refine PC.use (two_c a b ha hb) ?_
  simp only [go_sem]
  refine acond_i (fun h => ?_) (fun h => ?_)
  · have h : errN a b ≠ 0 := by simpa using h
    simp only [go_sem]
    rw [show mulN a b = (emp, errN a b) from if_neg h]
    exact .refl _
  have h : errN a b = 0 := by simpa using h
  obtain ⟨m, n, rfl, rfl, hm, hn⟩ := errN_zero h
  have hml := dec_limbs hm
  have hnl := dec_limbs hn
  simp only [go_sem, tw_ok h, valN_dec, List.length_map]
  rw [show mulN (dec m) (dec n) = szN (m * n) by unfold mulN; rw [if_pos h, valN_dec, valN_dec]]
  have om := ofL_limbs (b := bas) (by decide) m
  have on := ofL_limbs (b := bas) (by decide) n
  have lm := limbs_lim (b := bas) (by decide) m
  have ln := limbs_lim (b := bas) (by decide) n
  have hmn : (limbs bas (m * n)).length ≤ (limbs bas m).length + (limbs bas n).length := by
    refine limbs_len_le (by decide) ?_
    have h1 := ofL_lt (b := bas) (by decide) lm
    have h2 := ofL_lt (b := bas) (by decide) ln
    rw [om] at h1
    rw [on] at h2
    rw [Nat.pow_add]
    exact Nat.mul_lt_mul'' h1 h2
  obtain ⟨x, hx⟩ : ∃ x, limbs bas m = x := ⟨_, rfl⟩
  obtain ⟨y, hy⟩ : ∃ y, limbs bas n = y := ⟨_, rfl⟩
  rw [hx] at om lm hml hmn
  rw [hy] at on ln hnl hmn
  have ew : IntKind.i64.wrap ((x.length : Int) + (y.length : Int)) = ((x.length + y.length : Nat) : Int) := by rw [wrap_in (by omega)]; omega
  simp only [hx, hy, ew]
  refine ⟨by omega, anew_i fun j hj => ?_⟩
  simp only [go_sem]
  refine ⟨fun ρ H => ∃ (i : Nat) (out : List Nat), i ≤ x.length ∧ ρ 7 = .sl (y.map encN) ∧ ρ 9 = .os j ∧ ρ 32 = .sl (x.map encN) ∧ ρ 33 = int x.length ∧ ρ 34 = int i ∧ H j = some (numRow out) ∧ Lim bas out ∧ out.length = x.length + y.length ∧ ofL bas out = ofL bas (x.take i) * ofL bas y, fun ρ _ => x.length - natOf (ρ 34),
    ⟨0, List.replicate (x.length + y.length) 0, Nat.zero_le _, by simp only [go_sem], by simp only [go_sem], by simp only [go_sem], by simp only [go_sem, List.length_map], by simp only [go_sem]; rfl, ?_, Lim.zeros (by decide) _, by simp, by simp [ofL, ofL_zeros]⟩, ?_⟩
  · rw [updH_same]
    simp only [numRow, List.map_replicate, nat_toNat]
    rfl
  clear hj
  rintro ρ H ⟨i, out, hi, h7, h9, h32, h33, h34, Rj, ho, hol, hv⟩
  simp only [go_sem, h7, h9, h32, h33, h34]
  refine acond_i (fun hlt => ?_) (fun hge => ?_)
  · have hlt := ltB hlt
    obtain ⟨xi, hxi⟩ := getIn hlt
    have b1 := inB hlt
    have hxb : xi < 1000000000 := lm xi (List.mem_of_getElem? hxi)
    have hz0 : out[i + y.length]? = some 0 := by
      refine zero_hi (b := bas) (by decide) (q := i + y.length) ?_ (Nat.le_refl _) (by omega)
      rw [hv, Nat.pow_add]
      have h1 := ofL_lt (b := bas) (by decide) (lm.take i)
      rw [List.length_take, Nat.min_eq_left hi] at h1
      exact Nat.mul_lt_mul'' h1 (ofL_lt (b := bas) (by decide) ln)
    simp only [go_sem, h7, h9, h32, h33, h34, getD_map hxi, b1, List.length_map]
    refine ⟨fun ρ H => ∃ (k c : Nat) (o : List Nat), k ≤ y.length ∧ ρ 7 = .sl (y.map encN) ∧ ρ 9 = .os j ∧ ρ 10 = int i ∧ ρ 11 = int xi ∧ ρ 12 = int c ∧ ρ 32 = .sl (x.map encN) ∧ ρ 33 = int x.length ∧ ρ 34 = int i ∧ ρ 39 = .sl (y.map encN) ∧ ρ 40 = int y.length ∧ ρ 41 = int k ∧ H j = some (numRow o) ∧ Lim bas o ∧ o.length = x.length + y.length ∧ c < 1000000000 ∧ ofL bas o + bas ^ (i + k) * c = ofL bas out + bas ^ i * (xi * ofL bas (y.take k)) ∧ o[i + y.length]? = some 0, fun ρ _ => y.length - natOf (ρ 41),
      ⟨0, 0, out, Nat.zero_le _, by simp only [go_sem, h7], by simp only [go_sem, h9], by simp only [go_sem], by simp only [go_sem], by simp only [go_sem]; rfl, by simp only [go_sem, h32], by simp only [go_sem, h33], by simp only [go_sem, h34], by simp only [go_sem, h7], by simp only [go_sem, List.length_map], by simp only [go_sem]; rfl, Rj, ho, hol, by omega, by simp [ofL], hz0⟩, ?_⟩
    clear h7 h9 h32 h33 h34 Rj
    rintro ρ H ⟨k, c, o, hk, h7, h9, h10, h11, h12, h32, h33, h34, h39, h40, h41, Rj, hO, hoL, hc, hV, hZ⟩
    simp only [go_sem, h7, h9, h10, h11, h12, h32, h33, h34, h39, h40, h41]
    refine acond_i (fun hlt2 => ?_) (fun hge2 => ?_)
    · have hlt2 := ltB hlt2
      obtain ⟨yk, hyk⟩ := getIn hlt2
      have b2 := inB hlt2
      have hyb : yk < 1000000000 := ln yk (List.mem_of_getElem? hyk)
      obtain ⟨v, hov⟩ := getIn (show i + k < o.length by omega)
      have hvb : v < 1000000000 := hO v (List.mem_of_getElem? hov)
      have b3 : 0 ≤ ((i + k : Nat) : Int) ∧ ((i + k : Nat) : Int) < ((numRow o).es.length : Nat) := by
        simp only [numRow, List.length_map]; omega
      have ei : IntKind.i64.wrap ((i : Int) + (k : Int)) = ((i + k : Nat) : Int) := by rw [wrap_in (by omega)]; omega
      have hog : (numRow o).es.getD (i + k) [] = encN v := getD_map hov
      have hmul : xi * yk ≤ 999999999 * 999999999 := Nat.mul_le_mul (by omega) (by omega)
      have hst := mul_step (b := bas) (by decide) hov hyk hV
      have e1 : IntKind.i64.wrap (IntKind.i64.wrap ((v : Int) + IntKind.i64.wrap ((xi : Int) * (yk : Int))) + (c : Int)) = ((v + xi * yk + c : Nat) : Int) := by
        rw [show (xi : Int) * (yk : Int) = ((xi * yk : Nat) : Int) from (Int.natCast_mul xi yk).symm]
        generalize xi * yk = p at *
        rw [show IntKind.i64.wrap (p : Int) = (p : Int) from wrap_in (by omega), show IntKind.i64.wrap ((v : Int) + (p : Int)) = (v : Int) + p from wrap_in (by omega), wrap_in (by omega)]
        omega
      have hq : (v + xi * yk + c) / 1000000000 < 1000000000 := by omega
      have e2 : IntKind.i64.wrap ((((v + xi * yk + c : Nat) : Int)).tdiv 1000000000) = (((v + xi * yk + c) / 1000000000 : Nat) : Int) := by
        generalize v + xi * yk + c = p at *
        rw [Int.tdiv_eq_ediv_of_nonneg (by omega), wrap_in (by omega)]
        omega
      have e3 : (((v + xi * yk + c : Nat) : Int)).tmod 1000000000 = (((v + xi * yk + c) % 1000000000 : Nat) : Int) := by
        rw [Int.tmod_eq_emod_of_nonneg (by omega)]
        omega
      simp only [go_sem, h7, h9, h10, h11, h12, h32, h33, h34, h39, h40, h41, getD_map hyk, b2, ei, Rj, b3, hog, e1, e2, e3]
      have hlen : i + k < (numRow o).es.length := by simp only [numRow, List.length_map]; omega
      refine ⟨rfl, ⟨hlen, Nat.zero_lt_one⟩, by decide, rfl, wputE_1 so3 Rj ⟨hlen, rfl, Nat.le_refl 1⟩ ?_⟩
      generalize hP : updH H j _ = HP
      have Rj' : HP j = some (numRow (o.set (i + k) ((v + xi * yk + c) % bas))) := by
        rw [← hP, updH_same]
        exact congrArg some (set_row (q := (v + xi * yk + c) % bas) hov)
      clear hP Rj
      simp only [go_sem, h7, h9, h10, h11, h12, h32, h33, h34, h39, h40, h41, e2, wrapS (show k ≤ 4611686018427387904 by omega)]
      refine ⟨by decide, ⟨k + 1, _, _, hlt2, rfl, rfl, Rj', hO.set (Nat.mod_lt _ (by decide)), by simp [hoL], hq, hst, ?_⟩, by simp only [natOf_int]; omega⟩
      rw [List.getElem?_set_ne (by omega)]
      exact hZ
    · have hge2 := geB hk hge2
      subst hge2
      have ei : IntKind.i64.wrap ((i : Int) + (y.length : Int)) = ((i + y.length : Nat) : Int) := by rw [wrap_in (by omega)]; omega
      have hlen : i + y.length < (numRow o).es.length := by simp only [numRow, List.length_map]; omega
      have b3 : 0 ≤ ((i + y.length : Nat) : Int) ∧ ((i + y.length : Nat) : Int) < ((numRow o).es.length : Nat) := by omega
      have hog : (numRow o).es.getD (i + y.length) [] = encN 0 := getD_map hZ
      have e1 : IntKind.i64.wrap (((0 : Nat) : Int) + (c : Int)) = (c : Int) := by rw [wrap_in (by omega)]; omega
      simp only [go_sem, h7, h9, h10, h11, h12, h32, h33, h34, h39, h40, h41, List.length_map, ei, Rj, b3, hog, e1]
      refine ⟨rfl, ⟨hlen, Nat.zero_lt_one⟩, rfl, wputE_1 so3 Rj ⟨hlen, rfl, Nat.le_refl 1⟩ ?_⟩
      generalize hP : updH H j _ = HP
      have Rj' : HP j = some (numRow (o.set (i + y.length) c)) := by
        rw [← hP, updH_same]
        exact congrArg some (set_row (q := c) hZ)
      clear hP Rj
      have hrow := mul_row (b := bas) hZ hV
      simp only [go_sem, h7, h9, h10, h11, h12, h32, h33, h34, h39, h40, h41, wrapS (show i ≤ 4611686018427387904 by omega)]
      refine ⟨⟨i + 1, _, hlt, rfl, Rj', hO.set hc, by simp [hoL], ?_⟩, by simp only [natOf_int]; omega⟩
      rw [hrow, hv, ofL_take_succ bas hxi, Nat.add_mul, Nat.mul_assoc]
  · have hge := geB hi hge
    subst hge
    simp only [go_sem, h9]
    rw [List.take_length, om, on] at hv
    refine PC.useF [j] (.cons _ _ _ _ (.row _ _ _ (by simp only [List.mem_singleton, if_true]; exact Rj) (ConvE.refl _)) .nil) (trimN ho (by omega) hv) ?_
    simp only [go_sem]
    refine PC.use (result_c (m * n) (by omega)) ?_
    simp only [go_sem]
    exact .refl _
end Go.Proofs.YtdlijlecpopadaaGreatDoor.Nu
end

section
set_option linter.unusedSimpArgs false
set_option linter.unusedVariables false
namespace Go.Proofs.YtdlijlecpopadaaGreatDoor.Nu
open Go.Aw Go.Aw.D Go.Proofs Ty Go.Nu
open Go.RowKit (Below)
set_option maxRecDepth 100000
theorem dash_pre (s : ByteArray) : Lib.hasPrefix (bl s) [45] = minusZ s := by
  unfold Lib.hasPrefix minusZ
  cases bl s with
  | nil => rfl
  | cons c r =>
    by_cases h : c = 45
    · subst h; rfl
    · have h1 : (some c == some (45 : UInt8)) = false := by simpa using h
      have h2 : ((45 : UInt8) == c) = false := by simpa using Ne.symm h
      simp only [List.isPrefixOf, List.head?_cons, h1, h2, Bool.false_and]
theorem dash_trim (s : ByteArray) : (⟨(Lib.trimPrefix (bl s) [45]).toArray⟩ : ByteArray) = digZ s := by
  unfold Lib.trimPrefix digZ
  rw [dash_pre]
  split
  · rfl
  · exact mk_bl s
theorem cutMinus_c (s : ByteArray) : PC Tryz.prog 169 [str s, str ⟨#[45]⟩] (.tup [str (digZ s), boo (minusZ s)]) := by
  refine PC.lib (a := [.string s, .string ⟨#[45]⟩]) (v := .tuple #[.string (digZ s), .bool (minusZ s)]) (fun S w => ⟨_, rfl, ⟨_, _, rfl, rfl, ⟨_, _, rfl, rfl, rfl⟩⟩⟩) fun w _ => (Tryz.strings_CutPrefix s ⟨#[45]⟩ w).mono fun e w' ⟨he, hw⟩ => ?_
  rw [hw]
  refine ⟨he.trans ?_, Below.refl _ _⟩
  rw [show s.data.toList = bl s from rfl, show (⟨#[45]⟩ : ByteArray).data.toList = [45] from rfl, dash_trim, dash_pre]
theorem trimMinus_c (s : ByteArray) : PC Tryz.prog 87 [str s, str ⟨#[45]⟩] (str (digZ s)) := by
  refine PC.lib (a := [.string s, .string ⟨#[45]⟩]) (v := .string (digZ s)) (fun S w => rfl) fun w _ => (Tryz.strings_TrimPrefix s ⟨#[45]⟩ w).mono fun e w' ⟨he, hw⟩ => ?_
  rw [hw]
  refine ⟨he.trans ?_, Below.refl _ _⟩
  rw [show s.data.toList = bl s from rfl, show (⟨#[45]⟩ : ByteArray).data.toList = [45] from rfl, dash_trim]
theorem itoa_c (n : Int) (h0 : -9223372036854775808 ≤ n) (h1 : n ≤ 9223372036854775807) : PC Tryz.prog 120 [int n] (str (zed n)) := by
  refine PC.lib (a := [.int .i64 n]) (v := .string (zed n)) (fun S w => rfl) fun w ht => (Tryz.strconv_Itoa n h0 h1 w (tab_of ht)).mono fun e w' ⟨he, k, os, hw⟩ => ?_
  rw [hw]
  exact ⟨he, grow_below k os⟩
theorem scmp_c (a b : ByteArray) : PC Tryz.prog 170 [str a, str b] (int (Lib.compareBytes (bl a) (bl b))) := by
  refine PC.lib (a := [.string a, .string b]) (v := .int .i64 (Lib.compareBytes (bl a) (bl b))) (fun S w => rfl) fun w _ => (Tryz.strings_Compare a b w).mono fun e w' ⟨he, hw⟩ => ?_
  rw [hw]
  exact ⟨he, Below.refl _ _⟩
theorem zero_lit : (⟨#[48]⟩ : ByteArray) = dec 0 := bl_ext (by rw [bl_dec, Lib.decDigits_one (by omega)]; rfl)
theorem one_lit : (⟨#[49]⟩ : ByteArray) = dec 1 := bl_ext (by rw [bl_dec, Lib.decDigits_one (by omega)]; rfl)
theorem eq_zero (s : ByteArray) : (bl s == [48]) = eqB s (dec 0) := by unfold eqB; rw [← zero_lit]; rfl
theorem eq_one (s : ByteArray) : (bl s == [49]) = eqB s (dec 1) := by unfold eqB; rw [← one_lit]; rfl
theorem digZ_le (s : ByteArray) : (digZ s).size ≤ s.size := by
  unfold digZ
  split
  · rw [← bl_size, ← bl_size, bl_mk, List.length_drop]; omega
  · exact Nat.le_refl _
theorem parts_c (s : ByteArray) (h : s.size ≤ 1048576) : PC Tryz.prog 115 [str s] (.tup [boo (minusZ s), str (digZ s), boo (rightZ s)]) := by
  refine PC.body (c := Tryz.f115.body.getD .skip) (fun _ => false) mixed Tryz.func115 rfl (by kernel_rfl) ?_
  unfold Tryz.f115
  simp only [Option.getD_some]
  simp only [go_sem]
  refine PC.use (cutMinus_c s) ?_
  simp only [go_sem]
  refine PC.use (nright_c (digZ s) (by have := digZ_le s; omega)) ?_
  simp only [go_sem, eq_zero]
  exact .refl _
theorem wright_c (s : ByteArray) (h : s.size ≤ 1048576) : PC Tryz.prog 82 [str s] (boo (rightZ s)) := by
  refine PC.body (c := Tryz.f82.body.getD .skip) (fun _ => false) mixed Tryz.func82 rfl (by kernel_rfl) ?_
  unfold Tryz.f82
  simp only [Option.getD_some]
  simp only [go_sem]
  refine PC.use (parts_c s h) ?_
  simp only [go_sem]
  exact .refl _
theorem wof_c (n : Int) (h0 : -9223372036854775808 ≤ n) (h1 : n ≤ 9223372036854775807) : PC Tryz.prog 61 [int n] (str (zed n)) := by
  refine PC.body (c := Tryz.f61.body.getD .skip) (fun _ => false) mixed Tryz.func61 rfl (by kernel_rfl) ?_
  unfold Tryz.f61
  simp only [Option.getD_some]
  simp only [go_sem]
  refine PC.use (itoa_c n h0 h1) ?_
  simp only [go_sem]
  exact .refl _
def sg (m : Bool) (n : Nat) : Int := if m = true then -(n : Int) else n
theorem txt_zed (m : Bool) (n : Nat) : (if (m && !eqB (dec n) (dec 0)) = true then (⟨#[45]⟩ : ByteArray) ++ dec n else dec n) = zed (sg m n) := by
  unfold sg
  by_cases hn : n = 0
  · subst hn
    rw [show eqB (dec 0) (dec 0) = true from eqB_iff.2 rfl]
    simp only [Bool.not_true, Bool.and_false, Bool.false_eq_true, if_false]
    rw [← zed_nat]
    split <;> rfl
  · rw [show eqB (dec n) (dec 0) = false from eqB_no.2 fun e => hn (dec_eq.1 e)]
    cases m with
    | true =>
      simp only [Bool.not_false, Bool.and_true, if_true]
      rw [zed_neg (by omega)]
      refine bl_ext ?_
      rw [bl_append, bl_mk, bl_dec]
      rfl
    | false =>
      simp only [Bool.false_and, Bool.false_eq_true, if_false]
      rw [zed_nat]
theorem text_c (m : Bool) (n : Nat) (hn : (dec n).size ≤ 1048576) : PC Tryz.prog 114 [.agg [boo m, str (dec n)]] (str (zed (sg m n))) := by
  refine PC.body (c := Tryz.f114.body.getD .skip) (fun t => t == 1) mixed Tryz.func114 rfl (by kernel_rfl) ?_
  unfold Tryz.f114
  simp only [Option.getD_some]
  simp only [go_sem]
  refine anew_i fun j hj => ?_
  have R := updH_same noRows j (some ⟨183, 2, [[boo m, str (dec n)]]⟩)
  generalize updH noRows j _ = H1 at R ⊢
  simp only [go_sem, R]
  have ht := txt_zed m n
  have he : (m && !bl (dec n) == [48]) = (m && !eqB (dec n) (dec 0)) := by rw [← eq_zero]
  rw [he]
  refine acond_i (fun hb => ?_) (fun hb => ?_)
  · rw [if_pos hb] at ht
    simp only [go_sem, R]
    refine ⟨by show ((1 + (dec n).size : Nat) : Int) ≤ 9223372036854775807; omega, ?_⟩
    exact cS ht
  · rw [if_neg (by rw [hb]; simp)] at ht
    simp only [go_sem, R]
    exact cS ht
theorem sg_abs (m : Bool) (n : Nat) : (sg m n).natAbs = n := by unfold sg; split <;> omega
theorem signed_c (m : Bool) (n : Nat) : PC Tryz.prog 172 [.agg [boo m, str (szN n).1], int (szN n).2] (.tup [str (szZ (sg m n)).1, int (szZ (sg m n)).2]) := by
  by_cases hn : n < maxN
  · have hsz := (size_max n).2 hn
    rw [szN_ok hn, show szZ (sg m n) = (zed (sg m n), 0) from if_pos (by rw [sg_abs]; exact hn)]
    refine PC.body (c := Tryz.f172.body.getD .skip) (fun t => t == 2) mixed Tryz.func172 rfl (by kernel_rfl) ?_
    unfold Tryz.f172
    simp only [Option.getD_some]
    simp only [go_sem]
    refine anew_i fun j hj => ?_
    have R := updH_same noRows j (some ⟨183, 2, [[boo m, str (dec n)]]⟩)
    generalize updH noRows j _ = H1 at R ⊢
    simp only [go_sem, R]
    refine acond_i (fun hb => by cases hb) (fun _ => ?_)
    simp only [go_sem, R]
    refine PC.use (text_c m n (by omega)) ?_
    simp only [go_sem]
    exact .refl _
  · rw [show szN n = (emp, 4) from if_neg hn, show szZ (sg m n) = (emp, 4) from if_neg (by rw [sg_abs]; exact hn)]
    refine PC.body (c := Tryz.f172.body.getD .skip) (fun t => t == 2) mixed Tryz.func172 rfl (by kernel_rfl) ?_
    unfold Tryz.f172
    simp only [Option.getD_some]
    simp only [go_sem]
    refine anew_i fun j hj => ?_
    simp only [go_sem]
    refine acond_i (fun hb => ?_) (fun hb => by cases hb)
    simp only [go_sem]
    exact .refl _
def encZ (s : ByteArray) : List AV := [boo (minusZ s), str (digZ s)]
theorem encZ_len (s : ByteArray) : (encZ s).length = 2 := (rfl)
theorem encZ_0 (s : ByteArray) : (encZ s).getD 0 .any = boo (minusZ s) := (rfl)
theorem encZ_1 (s : ByteArray) : (encZ s).getD 1 .any = str (digZ s) := (rfl)
theorem encZ_all (s : ByteArray) : (encZ s).take 2 = encZ s := (rfl)
attribute [go_sem] encZ_len encZ_0 encZ_1 encZ_all
def zRow (l : List ByteArray) : Row := ⟨183, 2, l.map encZ⟩
def badS (s : ByteArray) : Bool := decide ((digZ s).size > 4096)
def errL (l : List ByteArray) : Int := if l.any (fun s => !rightZ s) = true then 3 else if l.any badS = true then 4 else 0
def zL (l : List ByteArray) : List (List AV) := if errL l = 0 then l.map encZ else []
theorem any_yes {α : Type} {q : α → Bool} {l : List α} {k : Nat} {c : α} (h : l[k]? = some c) (hq : q c = true) : l.any q = true := List.any_eq_true.2 ⟨c, List.mem_of_getElem? h, hq⟩
theorem any_none {α : Type} {q : α → Bool} {l : List α} (h : ∀ c ∈ l, q c = false) : l.any q = false := by
  rw [List.any_eq_false]
  intro c hc
  rw [h c hc]; simp
theorem wread_c (l : List ByteArray) (hl : l.length ≤ 1048576) (hs : ∀ s ∈ l, s.size ≤ 1048576) : PC Tryz.prog 110 [.sl (l.map Go.Aw.D.encStr)] (.tup [.sl (zL l), int (errL l)]) := by
  refine PC.body (c := Tryz.f110.body.getD .skip) (fun t => t == 4) mixed Tryz.func110 rfl (by kernel_rfl) ?_
  unfold Tryz.f110
  simp only [Option.getD_some]
  simp only [go_sem]
  refine anew_i fun j hj => ?_
  simp only [go_sem]
  refine ⟨fun ρ H => ∃ (k j : Nat), k ≤ l.length ∧ ρ 12 = .sl (l.map Go.Aw.D.encStr) ∧ ρ 13 = int l.length ∧ ρ 4 = .os j ∧ ρ 14 = int k ∧ H j = some (zRow (l.take k)) ∧ ∀ s ∈ l.take k, rightZ s = true, fun ρ _ => l.length - natOf (ρ 14),
    ⟨0, j, Nat.zero_le _, by simp only [go_sem], by simp only [go_sem, List.length_map], by simp only [go_sem], by simp only [go_sem]; rfl, updH_same _ _ _, by simp⟩, ?_⟩
  clear hj j
  rintro ρ H ⟨k, j, hk, h12, h13, h4, h14, Rj, hz⟩
  simp only [go_sem, h12, h13, h4, h14]
  refine acond_i (fun hlt => ?_) (fun hge => ?_)
  · have hlt := ltB hlt
    obtain ⟨s, hs0⟩ := getIn hlt
    have b1 := inB hlt
    simp only [go_sem, h12, h13, h4, h14, getD_map hs0, b1]
    refine PC.use (parts_c s (hs s (List.mem_of_getElem? hs0))) ?_
    simp only [go_sem, h12, h13, h4, h14]
    refine acond_i (fun hb => ?_) (fun hb => ?_)
    · simp only [go_sem]
      have e : errL l = 3 := by unfold errL; rw [if_pos (any_yes hs0 hb)]
      rw [show zL l = [] from if_neg (by rw [e]; decide), e]
      exact .refl _
    · simp only [go_sem, h12, h13, h4, h14]
      refine wappE_i Rj ⟨rfl, rfl⟩ ⟨rfl, trivial⟩ (by simp only [zRow, List.length_map, List.length_take, List.length_cons, List.length_nil]; omega) (fun j' hj' => ?_)
      simp only [go_sem, h12, h13, h4, h14, wrapS (show k ≤ 4611686018427387904 by omega)]
      refine ⟨⟨k + 1, j', hlt, rfl, rfl, ?_, take_all' hs0 (by simpa using hb) hz⟩, by simp only [natOf_int]; omega⟩
      rw [updH_same]
      simp only [zRow, take_succ hs0, List.map_append, List.map_cons, List.map_nil]
      rfl
  · have hge := geB hk hge
    subst hge
    rw [List.take_length] at Rj hz
    have hR : l.any (fun s => !rightZ s) = false := any_none fun s hs => by rw [hz s hs]; rfl
    have hlen : ((zRow l).es.length : Int) = l.length := by simp [zRow]
    simp only [go_sem, h4, Rj, hlen]
    refine ⟨fun ρ H => ∃ (k : Nat), k ≤ l.length ∧ ρ 4 = .os j ∧ ρ 33 = .os j ∧ ρ 34 = int l.length ∧ ρ 35 = int k ∧ H j = some (zRow l) ∧ ∀ s ∈ l.take k, badS s = false, fun ρ _ => l.length - natOf (ρ 35),
      ⟨0, Nat.zero_le _, by simp only [go_sem, h4], by simp only [go_sem], by simp only [go_sem], by simp only [go_sem]; rfl, Rj, by simp⟩, ?_⟩
    clear h4 Rj h12 h13 h14
    rintro ρ H ⟨k, hk, h4, h33, h34, h35, Rj, hz2⟩
    simp only [go_sem, h4, h33, h34, h35]
    refine acond_i (fun hlt => ?_) (fun hge => ?_)
    · have hlt := ltB hlt
      obtain ⟨s, hs0⟩ := getIn hlt
      have b1 := inB hlt
      have hes : (zRow l).es.getD k [] = encZ s := getD_map hs0
      have b2 : 0 ≤ (k : Int) ∧ (k : Int) < ((zRow l).es.length : Nat) := by simp only [zRow, List.length_map]; exact b1
      simp only [go_sem, h4, h33, h34, h35, Rj, b2, hes]
      have hlen2 : k < (zRow l).es.length := by simp only [zRow, List.length_map]; exact hlt
      refine ⟨rfl, ⟨hlen2, Nat.le_refl 2⟩, ?_⟩
      refine anew_i fun i hi => ?_
      simp only [go_sem, h4, h33, h34, h35]
      have nji : j ≠ i := ne_new Rj hi
      refine wputE_n (updH_same _ _ _) (by simp [encZ_len]) ?_
      generalize hG : updH (updH _ i _) i _ = HG
      have Ri : HG i = some (⟨183, 2, [encZ s]⟩ : Row) := by rw [← hG, updH_same]; rfl
      have Rj' : HG j = some (zRow l) := by rw [← hG, updH_ne _ _ _ _ nji, updH_ne _ _ _ _ nji]; exact Rj
      clear hG hi Rj
      simp only [go_sem, h4, h33, h34, h35, Ri]
      have hd : decide (((digZ s).size : Int) > 4096) = badS s := by unfold badS; rw [decide_eq_decide]; omega
      rw [hd]
      refine acond_i (fun hb => ?_) (fun hb => ?_)
      · simp only [go_sem]
        have e : errL l = 4 := by unfold errL; rw [if_neg (by rw [hR]; simp), if_pos (any_yes hs0 hb)]
        rw [show zL l = [] from if_neg (by rw [e]; decide), e]
        exact .refl _
      · simp only [go_sem, h4, h33, h34, h35, wrapS (show k ≤ 4611686018427387904 by omega)]
        exact ⟨⟨k + 1, hlt, rfl, Rj', take_all' hs0 hb hz2⟩, by simp only [natOf_int]; omega⟩
    · have hge := geB hk hge
      subst hge
      rw [List.take_length] at hz2
      simp only [go_sem, h4]
      have e : errL l = 0 := by unfold errL; rw [if_neg (by rw [hR]; simp), if_neg (by rw [any_none hz2]; simp)]
      rw [show zL l = l.map encZ from if_pos e, e]
      exact .tup _ _ (.cons _ _ _ _ (.row _ _ _ Rj (ConvE.refl _)) (ConvL.refl _))
end Go.Proofs.YtdlijlecpopadaaGreatDoor.Nu
end
