/- Texts joined by a program: NuH, NuI. -/
import Derived.Test.YtdlijlecpopadaaGreatDoorZx15

section
set_option linter.unusedSimpArgs false
set_option linter.unusedVariables false
namespace Go.Proofs.YtdlijlecpopadaaGreatDoor.Nu
open Go.Aw Go.Aw.D Go.Proofs Ty Go.Nu
set_option maxRecDepth 100000
theorem neN {a b : Nat} (h : ((a : Int) != (b : Int)) = true) : a ≠ b := by
  rw [bne_iff_ne] at h
  omega
theorem eqN {a b : Nat} (h : ((a : Int) != (b : Int)) = false) : a = b := by
  rw [bne_eq_false_iff_eq] at h
  omega
theorem cmpI_le {a b : Int} (h : a ≤ b) : cmpI a b ≤ 0 := by
  unfold cmpI
  split
  · omega
  · rw [if_neg (by omega)]; omega
theorem isNaN_c (n : Int) : PC Tryz.prog 76 [int n] (boo false) := by
  refine PC.body (c := Tryz.f76.body.getD .skip) (fun _ => false) mixed Tryz.func76 rfl (by kernel_rfl) ?_
  unfold Tryz.f76
  simp only [Option.getD_some]
  simp only [go_sem]
  exact cB (by simp)
theorem cmpI_c (a b : Int) : PC Tryz.prog 38 [int a, int b] (int (cmpI a b)) := by
  refine PC.body (c := Tryz.f38.body.getD .skip) (fun _ => false) mixed Tryz.func38 rfl (by kernel_rfl) ?_
  unfold Tryz.f38
  simp only [Option.getD_some]
  simp only [go_sem]
  refine PC.use (isNaN_c a) ?_
  simp only [go_sem]
  refine PC.use (isNaN_c b) ?_
  simp only [go_sem]
  refine acond_i (fun h => by cases h) (fun _ => ?_)
  simp only [go_sem]
  refine acond_i (fun h => by cases h) (fun _ => ?_)
  simp only [go_sem]
  refine acond_i (fun h => ?_) (fun h => ?_)
  · simp only [go_sem]
    exact cI (by rw [cmpI_lt (by simpa using h)])
  · simp only [go_sem]
    refine acond_i (fun h2 => ?_) (fun h2 => ?_)
    · simp only [go_sem]
      exact cI (by rw [cmpI_gt (by simpa using h2)])
    · simp only [go_sem]
      exact cI (by rw [cmpI_eq (by simp at h h2; omega)])
theorem limb_c (l : List Nat) (i : Nat) (hi : i ≤ 4611686018427387904) : PC Tryz.prog 166 [.sl (l.map encN), int i] (int (l.getD i 0 : Nat)) := by
  refine PC.body (c := Tryz.f166.body.getD .skip) (fun _ => false) mixed Tryz.func166 rfl (by kernel_rfl) ?_
  unfold Tryz.f166
  simp only [Option.getD_some]
  simp only [go_sem]
  refine acond_i (fun h => ?_) (fun h => ?_)
  · have h := ltB h
    obtain ⟨x, hx⟩ := getIn h
    have b1 := inB h
    simp only [go_sem, getD_map hx, b1]
    exact cI (by simp [List.getD, hx])
  · simp only [go_sem]
    have h : ¬ i < l.length := by simpa using h
    exact cI (by simp [List.getD, List.getElem?_eq_none (by omega : l.length ≤ i)])
theorem ofL_cmp {l r : List Nat} (hl : Lim bas l) (hr : Lim bas r) (hlen : l.length = r.length) {k x y : Nat} (hx : l[k]? = some x) (hy : r[k]? = some y) (hd : l.drop (k + 1) = r.drop (k + 1)) (hne : x ≠ y) : cmpI (x : Int) y = cmpI (ofL bas l) (ofL bas r) := by
  rcases Nat.lt_or_gt_of_ne hne with h | h
  · have := ofL_lt_of (b := bas) (by decide) hl hr hlen hx hy h hd
    rw [cmpI_lt (by omega), cmpI_lt (by omega)]
  · have := ofL_lt_of (b := bas) (by decide) hr hl hlen.symm hy hx h hd.symm
    rw [cmpI_gt (by omega), cmpI_gt (by omega)]
theorem compare_c (m n : Nat) (hm : (limbs bas m).length ≤ 1048576) (hn : (limbs bas n).length ≤ 1048576) : PC Tryz.prog 167 [nl m, nl n] (int (cmpI m n)) := by
  have om := ofL_limbs (b := bas) (by decide) m
  have on := ofL_limbs (b := bas) (by decide) n
  have lm := limbs_lim (b := bas) (by decide) m
  have ln := limbs_lim (b := bas) (by decide) n
  have hlt : (limbs bas m).length < (limbs bas n).length → m < n := lt_of_len (by decide)
  have hgt : (limbs bas n).length < (limbs bas m).length → n < m := lt_of_len (by decide)
  simp only [nl]
  generalize limbs bas m = a at *
  generalize limbs bas n = b at *
  refine PC.body (c := Tryz.f167.body.getD .skip) (fun _ => false) mixed Tryz.func167 rfl (by kernel_rfl) ?_
  unfold Tryz.f167
  simp only [Option.getD_some]
  simp only [go_sem]
  refine acond_i (fun h => ?_) (fun h => ?_)
  · simp only [go_sem]
    refine PC.use (cmpI_c _ _) ?_
    simp only [go_sem]
    refine cI ?_
    have h : a.length ≠ b.length := neN h
    rcases Nat.lt_or_gt_of_ne h with h | h
    · have := hlt h
      rw [cmpI_lt (by omega), cmpI_lt (by omega)]
    · have := hgt h
      rw [cmpI_gt (by omega), cmpI_gt (by omega)]
  have hlen : a.length = b.length := eqN h
  simp only [go_sem]
  refine ⟨fun ρ _ => ∃ k : Nat, k ≤ a.length ∧ ρ 0 = .sl (a.map encN) ∧ ρ 1 = .sl (b.map encN) ∧ ρ 5 = int ((k : Int) - 1) ∧ a.drop k = b.drop k, fun ρ _ => match ρ 5 with | .v (.int _ z) => (z + 1).toNat | _ => 0, ⟨a.length, Nat.le_refl _, by simp only [go_sem], by simp only [go_sem], by simp only [go_sem, wrapQ (show a.length ≤ 4611686018427387904 by omega)], by rw [List.drop_eq_nil_of_le (Nat.le_refl _), List.drop_eq_nil_of_le (by omega)]⟩, ?_⟩
  rintro ρ H ⟨k, hk, h0, h1, h5, hd⟩
  simp only [go_sem, h0, h1, h5]
  refine acond_i (fun hb => ?_) (fun hb => ?_)
  · have hk0 : 0 < k := by simp at hb; omega
    obtain ⟨k, rfl⟩ : ∃ j, k = j + 1 := ⟨k - 1, by omega⟩
    rw [show ((k + 1 : Nat) : Int) - 1 = (k : Int) by omega] at h5 ⊢
    obtain ⟨x, hx⟩ := getIn (show k < a.length by omega)
    obtain ⟨y, hy⟩ := getIn (show k < b.length by omega)
    have b1 := inB (show k < a.length by omega)
    have b2 := inB (show k < b.length by omega)
    simp only [go_sem, h0, h1, h5]
    refine adraw_q (by rfl) (by kernel_rfl) ?_
    simp only [go_sem, h0, h1, h5, getD_map hx, getD_map hy, b1, b2]
    refine acond_i (fun hb2 => ?_) (fun hb2 => ?_)
    · simp only [go_sem, h0, h1, h5]
      refine adraw_q (by rfl) (by kernel_rfl) ?_
      simp only [go_sem, h0, h1, h5, getD_map hx, getD_map hy, b1, b2]
      refine ⟨_, (cmpI_c x y).q rfl, ?_⟩
      simp only [go_sem]
      exact cI (by rw [ofL_cmp lm ln hlen hx hy hd (neN hb2), om, on])
    · have hxy : x = y := eqN hb2
      simp only [go_sem, h0, h1, h5, wrapQ (show k ≤ 4611686018427387904 by omega)]
      refine ⟨⟨k, by omega, rfl, ?_⟩, by omega⟩
      have e1 : a.drop k = x :: a.drop (k + 1) := by rw [List.drop_eq_getElem_cons (by omega)]; congr 1; exact (List.getElem?_eq_some_iff.1 hx).2
      have e2 : b.drop k = y :: b.drop (k + 1) := by rw [List.drop_eq_getElem_cons (by omega)]; congr 1; exact (List.getElem?_eq_some_iff.1 hy).2
      rw [e1, e2, hd, hxy]
  · have hk0 : k = 0 := by simp at hb; omega
    subst hk0
    simp only [go_sem]
    refine cI ?_
    have hab : a = b := by simpa using hd
    rw [cmpI_eq]
    rw [← om, ← on, hab]
def tw (a b : ByteArray) (n : Nat) : List (List AV) := if errN a b = 0 then (limbs bas n).map encN else []
theorem tw_ok {a b : ByteArray} {n : Nat} (h : errN a b = 0) : tw a b n = (limbs bas n).map encN := if_pos h
theorem tw_no {a b : ByteArray} {n : Nat} (h : errN a b ≠ 0) : tw a b n = [] := if_neg h
theorem two_c (a b : ByteArray) (ha : a.size ≤ 1048576) (hb : b.size ≤ 1048576) : PC Tryz.prog 144 [str a, str b] (.tup [.sl (tw a b (valN a)), .sl (tw a b (valN b)), int (errN a b)]) := by
  refine PC.body (c := Tryz.f144.body.getD .skip) (fun _ => false) mixed Tryz.func144 rfl (by kernel_rfl) ?_
  unfold Tryz.f144
  simp only [Option.getD_some]
  simp only [go_sem]
  refine PC.use (nright_c a (by omega)) ?_
  simp only [go_sem]
  refine ⟨_, fun _ => (nright_c b (by omega)).q rfl, ?_⟩
  simp only [go_sem]
  refine acond_i (fun h => ?_) (fun h => ?_)
  · simp only [go_sem]
    have e : errN a b = 3 := by unfold errN; rw [if_pos h]
    rw [tw_no (by rw [e]; decide), tw_no (by rw [e]; decide), e]
    exact .refl _
  have hr : rightN a = true ∧ rightN b = true := by simpa using h
  simp only [go_sem]
  refine acond_i (fun h2 => ?_) (fun h2 => ?_)
  · simp only [go_sem]
    have h2' : (decide (a.size > 4096) || decide (b.size > 4096)) = true := by simp at h2 ⊢; omega
    have e : errN a b = 4 := by unfold errN; rw [if_neg (by rw [h]; simp), if_pos h2']
    rw [tw_no (by rw [e]; decide), tw_no (by rw [e]; decide), e]
    exact .refl _
  have h3 : a.size ≤ 4096 ∧ b.size ≤ 4096 := by simp at h2; omega
  have e : errN a b = 0 := errN_ok hr.1 hr.2 h3.1 h3.2
  have d : ∀ {s : ByteArray}, rightN s = true → (bl s).all isD = true := fun h => by
    unfold rightN rightL at h
    simp only [Bool.and_eq_true] at h
    exact h.2
  simp only [go_sem]
  refine PC.use (read_c a (d hr.1) h3.1) ?_
  simp only [go_sem]
  refine PC.use (read_c b (d hr.2) h3.2) ?_
  simp only [go_sem]
  rw [tw_ok e, tw_ok e, e]
  exact .refl _
theorem row_nil {H : Heap} {j : Nat} : updH H j (some ⟨3, 1, []⟩) j = some (numRow []) := updH_same _ _ _
theorem times_c (m k : Nat) (hm : (limbs bas m).length ≤ 1048576) (hk : k < bas) : PC Tryz.prog 187 [nl m, int k] (nl (m * k)) := by
  have hk : k < 1000000000 := hk
  have om := ofL_limbs (b := bas) (by decide) m
  have lm := limbs_lim (b := bas) (by decide) m
  simp only [nl]
  generalize limbs bas m = l at *
  have hw0 : IntKind.i64.wrap ((l.length : Int) + 1) = ((l.length + 1 : Nat) : Int) := wrapS (by omega)
  refine PC.body (c := Tryz.f187.body.getD .skip) (fun t => t == 5) mixed Tryz.func187 rfl (by kernel_rfl) ?_
  unfold Tryz.f187
  simp only [Option.getD_some]
  simp only [go_sem]
  refine ⟨by omega, anew_i fun j hj => ?_⟩
  simp only [go_sem]
  refine ⟨fun ρ H => ∃ (i j c : Nat) (o : List Nat), i ≤ l.length ∧ ρ 1 = int k ∧ ρ 13 = .sl (l.map encN) ∧ ρ 14 = int l.length ∧ ρ 5 = .os j ∧ ρ 6 = int c ∧ ρ 15 = int i ∧ H j = some (numRow o) ∧ Lim bas o ∧ o.length = i ∧ c < 1000000000 ∧ ofL bas o + bas ^ i * c = ofL bas (l.take i) * k, fun ρ _ => l.length - natOf (ρ 15),
    ⟨0, j, 0, [], Nat.zero_le _, by simp only [go_sem], by simp only [go_sem], by simp only [go_sem, List.length_map], by simp only [go_sem], by simp only [go_sem]; rfl, by simp only [go_sem]; rfl, row_nil, by simp [Lim], rfl, by omega, by simp [ofL]⟩, ?_⟩
  clear hj j
  rintro ρ H ⟨i, j, c, o, hi, h1, h13, h14, h5, h6, h15, Rj, ho, hol, hc, hv⟩
  simp only [go_sem, h1, h13, h14, h5, h6, h15]
  refine acond_i (fun hlt => ?_) (fun hge => ?_)
  · have hlt := ltB hlt
    obtain ⟨n, hn⟩ := getIn hlt
    have b1 := inB hlt
    have hnb : n < 1000000000 := lm n (List.mem_of_getElem? hn)
    have hmul : n * k ≤ 999999999 * 999999999 := Nat.mul_le_mul (by omega) (by omega)
    have e1 : IntKind.i64.wrap (IntKind.i64.wrap ((n : Int) * (k : Int)) + (c : Int)) = ((n * k + c : Nat) : Int) := by
      rw [show (n : Int) * (k : Int) = ((n * k : Nat) : Int) from (Int.natCast_mul n k).symm]
      generalize n * k = p at *
      rw [show IntKind.i64.wrap (p : Int) = (p : Int) from wrap_in (by omega), wrap_in (by omega)]
      omega
    have hst := times_step (b := bas) (by decide) hn hol hv
    simp only [go_sem, h1, h13, h14, h5, h6, h15, getD_map hn, b1, e1]
    have hq : (n * k + c) / 1000000000 < 1000000000 := by omega
    have e2 : IntKind.i64.wrap ((((n * k + c : Nat) : Int)).tdiv 1000000000) = (((n * k + c) / 1000000000 : Nat) : Int) := by
      generalize n * k + c = p at *
      rw [Int.tdiv_eq_ediv_of_nonneg (by omega), wrap_in (by omega)]
      omega
    have e3 : (((n * k + c : Nat) : Int)).tmod 1000000000 = (((n * k + c) % 1000000000 : Nat) : Int) := by
      rw [Int.tmod_eq_emod_of_nonneg (by omega)]
      omega
    simp only [e2, e3]
    refine ⟨by decide, ?_⟩
    refine wappE_i Rj ⟨rfl, rfl⟩ ⟨rfl, trivial⟩ (by simp only [numRow, List.length_map, List.length_cons, List.length_nil]; omega) (fun j' hj' => ?_)
    simp only [go_sem, h1, h13, h14, h5, h6, h15, e2, wrapS (show i ≤ 4611686018427387904 by omega)]
    refine ⟨by decide, ⟨i + 1, j', _, o ++ [(n * k + c) % bas], hlt, rfl, rfl, rfl, row_snoc, ho.snoc (Nat.mod_lt _ (by decide)), by simp [hol], hq, hst⟩, by simp only [natOf_int]; omega⟩
  · have hge := geB hi hge
    subst hge
    simp only [go_sem, h5, h6]
    refine wappE_i Rj ⟨rfl, rfl⟩ ⟨rfl, trivial⟩ (by simp only [numRow, List.length_map, List.length_cons, List.length_nil]; omega) (fun j' hj' => ?_)
    simp only [go_sem]
    have hT : Lim bas (o ++ [c]) := ho.snoc hc
    have hV : ofL bas (o ++ [c]) = m * k := by rw [ofL_snoc, hol, hv, List.take_length, om]
    refine PC.useF [j'] (.cons _ _ _ _ (.row _ _ _ (by simp only [List.mem_singleton, if_true]; exact row_snoc) (ConvE.refl _)) .nil) (trimN hT (by simp; omega) hV) ?_
    simp only [go_sem]
    exact .refl _
theorem minus_c (m n : Nat) (hm : (limbs bas m).length ≤ 1048576) (hnm : n ≤ m) : PC Tryz.prog 168 [nl m, nl n] (nl (m - n)) := by
  have om := ofL_limbs (b := bas) (by decide) m
  have on := ofL_limbs (b := bas) (by decide) n
  have lm := limbs_lim (b := bas) (by decide) m
  have ln := limbs_lim (b := bas) (by decide) n
  have hyl := limbs_len_mono (b := bas) (by decide) hnm
  simp only [nl]
  generalize limbs bas m = x at *
  generalize limbs bas n = y at *
  refine PC.body (c := Tryz.f168.body.getD .skip) (fun t => t == 5) mixed Tryz.func168 rfl (by kernel_rfl) ?_
  unfold Tryz.f168
  simp only [Option.getD_some]
  simp only [go_sem]
  refine ⟨by omega, anew_i fun j hj => ?_⟩
  simp only [go_sem]
  refine ⟨fun ρ H => ∃ (i j c : Nat) (o : List Nat), i ≤ x.length ∧ ρ 0 = .sl (x.map encN) ∧ ρ 1 = .sl (y.map encN) ∧ ρ 13 = int x.length ∧ ρ 5 = .os j ∧ ρ 6 = int c ∧ ρ 14 = int i ∧ H j = some (numRow o) ∧ Lim bas o ∧ o.length = i ∧ c ≤ 1 ∧ ofL bas o + ofL bas (y.take i) = ofL bas (x.take i) + bas ^ i * c, fun ρ _ => x.length - natOf (ρ 14),
    ⟨0, j, 0, [], Nat.zero_le _, by simp only [go_sem], by simp only [go_sem], by simp only [go_sem, List.length_map], by simp only [go_sem], by simp only [go_sem]; rfl, by simp only [go_sem]; rfl, row_nil, by simp [Lim], rfl, by omega, by simp [ofL]⟩, ?_⟩
  clear hj j
  rintro ρ H ⟨i, j, c, o, hi, h0, h1, h13, h5, h6, h14, Rj, ho, hol, hc, hv⟩
  simp only [go_sem, h0, h1, h13, h5, h6, h14]
  refine acond_i (fun hlt => ?_) (fun hge => ?_)
  · have hlt := ltB hlt
    obtain ⟨a, ha⟩ := getIn hlt
    have hag : x.getD i 0 = a := by simp [List.getD, ha]
    have b1 := inB hlt
    have hab : a < 1000000000 := lm a (List.mem_of_getElem? ha)
    have hyb : y.getD i 0 < 1000000000 := ln.getD (by decide) i
    simp only [go_sem, h0, h1, h13, h5, h6, h14]
    refine adraw_q (by rfl) (by kernel_rfl) ?_
    simp only [go_sem, h0, h1, h13, h5, h6, h14, getD_map ha, b1]
    refine ⟨_, (limb_c y i (by omega)).q rfl, ?_⟩
    have hd1 := minus_digit (b := 1000000000) hab hyb hc
    have hd2 := minus_digit2 (b := 1000000000) hab hyb hc
    have hst := minus_step (b := bas) (x := x) (y := y) (c' := if a < y.getD i 0 + c then 1 else 0) (d := if a < y.getD i 0 + c then a + 1000000000 - (y.getD i 0 + c) else a - (y.getD i 0 + c)) hol hv (by rw [hag]; exact hd2.1)
    generalize y.getD i 0 = yi at *
    have e1 : IntKind.i64.wrap (IntKind.i64.wrap ((a : Int) - (yi : Int)) - (c : Int)) = (a : Int) - yi - c := by
      rw [show IntKind.i64.wrap ((a : Int) - (yi : Int)) = (a : Int) - yi from wrap_in (by omega), wrap_in (by omega)]
    simp only [go_sem, h0, h1, h13, h5, h6, h14, e1]
    refine acond_join (fun ρ' H' => ρ' 0 = .sl (x.map encN) ∧ ρ' 1 = .sl (y.map encN) ∧ ρ' 13 = int x.length ∧ ρ' 5 = .os j ∧ ρ' 14 = int i ∧ H' j = some (numRow o) ∧ ρ' 8 = int (if a < yi + c then a + 1000000000 - (yi + c) else a - (yi + c) : Nat) ∧ ρ' 6 = int (if a < yi + c then 1 else 0 : Nat)) ?_ fun K hK => acond_i (fun hb => ?_) (fun hb => ?_)
    rotate_left
    · have hb : a < yi + c := by simp at hb; omega
      have e2 : IntKind.i64.wrap ((a : Int) - yi - c + 1000000000) = ((a + 1000000000 - (yi + c) : Nat) : Int) := by rw [wrap_in (by omega)]; omega
      simp only [go_sem, h0, h1, h13, h5, h6, h14, e2]
      exact hK _ _ ⟨by simp only [go_sem, h0], by simp only [go_sem, h1], by simp only [go_sem, h13], by simp only [go_sem, h5], by simp only [go_sem, h14], Rj, by simp only [go_sem, if_pos hb], by simp only [go_sem, if_pos hb]; rfl⟩
    · have hb : ¬ a < yi + c := by simp at hb; omega
      simp only [go_sem, h0, h1, h13, h5, h6, h14]
      refine hK _ _ ⟨by simp only [go_sem, h0], by simp only [go_sem, h1], by simp only [go_sem, h13], by simp only [go_sem, h5], by simp only [go_sem, h14], Rj, ?_, by simp only [go_sem, if_neg hb]; rfl⟩
      simp only [go_sem, if_neg hb]
      congr 2
      omega
    clear h0 h1 h13 h5 h6 h14 Rj
    rintro ρ H ⟨h0, h1, h13, h5, h14, Rj, h8, h6⟩
    simp only [go_sem, h0, h1, h13, h5, h6, h14, h8]
    refine wappE_i Rj ⟨rfl, rfl⟩ ⟨rfl, trivial⟩ (by simp only [numRow, List.length_map, List.length_cons, List.length_nil]; omega) (fun j' hj' => ?_)
    simp only [go_sem, h0, h1, h13, h5, h6, h14, wrapS (show i ≤ 4611686018427387904 by omega)]
    exact ⟨⟨i + 1, j', _, _, hlt, rfl, rfl, rfl, row_snoc, ho.snoc hd2.2, by simp [hol], by split <;> omega, hst⟩, by simp only [natOf_int]; omega⟩
  · have hge := geB hi hge
    subst hge
    simp only [go_sem, h5]
    obtain ⟨_, hV⟩ := minus_end (b := bas) (by decide) ho lm hol hyl (by omega) hc hv
    refine PC.useF [j] (.cons _ _ _ _ (.row _ _ _ (by simp only [List.mem_singleton, if_true]; exact Rj) (ConvE.refl _)) .nil) (trimN ho (by omega) (hV.trans (by rw [om, on]))) ?_
    simp only [go_sem]
    exact .refl _
theorem half {d r q : Nat} (h1 : d * q ≤ r) (h2 : r < d * (q + 1)) (hd : 0 < d) : q = r / d := by
  symm
  exact (Nat.div_eq_iff hd).2 ⟨by rw [Nat.mul_comm]; exact h1, by rw [Nat.mul_add, Nat.mul_one] at h2; rw [Nat.mul_comm q d]; omega⟩
theorem digit_c (r d : Nat) (hr : (limbs bas r).length ≤ 1048576) (hd : 0 < d) (hdl : (limbs bas d).length ≤ 1048575) (h : r < d * bas) : PC Tryz.prog 186 [nl r, nl d] (int (r / d : Nat)) := by
  refine PC.body (c := Tryz.f186.body.getD .skip) (fun _ => false) mixed Tryz.func186 rfl (by kernel_rfl) ?_
  unfold Tryz.f186
  simp only [Option.getD_some]
  simp only [go_sem]
  refine ⟨fun ρ _ => ∃ a b : Nat, a ≤ b ∧ b < 1000000000 ∧ ρ 0 = nl r ∧ ρ 1 = nl d ∧ ρ 5 = int a ∧ ρ 6 = int b ∧ d * a ≤ r ∧ r < d * (b + 1), fun ρ _ => natOf (ρ 6) - natOf (ρ 5), ⟨0, 999999999, by omega, by omega, by simp only [go_sem], by simp only [go_sem], by simp only [go_sem]; rfl, by simp only [go_sem]; rfl, by simp, h⟩, ?_⟩
  rintro ρ H ⟨a, b, hab, hb, h0, h1, h5, h6, ha2, hb2⟩
  simp only [go_sem, h0, h1, h5, h6]
  refine acond_i (fun hlt => ?_) (fun hge => ?_)
  · have hlt := ltB hlt
    have e1 : IntKind.i64.wrap ((IntKind.i64.wrap (IntKind.i64.wrap ((a : Int) + (b : Int)) + 1)).tdiv 2) = (((a + b + 1) / 2 : Nat) : Int) := by
      rw [show IntKind.i64.wrap ((a : Int) + (b : Int)) = ((a + b : Nat) : Int) by rw [wrap_in (by omega)]; omega, wrapS (by omega), Int.tdiv_eq_ediv_of_nonneg (by omega), wrap_in (by omega)]
      omega
    simp only [go_sem, h0, h1, h5, h6, e1]
    refine ⟨by decide, ?_⟩
    have hm : (a + b + 1) / 2 < bas := show _ < 1000000000 by omega
    have hm1 : a < (a + b + 1) / 2 := by omega
    have hm2 : (a + b + 1) / 2 ≤ b := by omega
    generalize (a + b + 1) / 2 = m at *
    refine PC.use (times_c d m (by omega) hm) ?_
    simp only [go_sem, h0, h1, h5, h6]
    have hdm : (limbs bas (d * m)).length ≤ 1048576 := by
      have h1 := ofL_lt (b := bas) (by decide) (limbs_lim (b := bas) (by decide) d)
      rw [ofL_limbs (by decide)] at h1
      have h2 : d * m < bas ^ ((limbs bas d).length + 1) := by
        rw [Nat.pow_succ]
        exact Nat.lt_of_lt_of_le (Nat.mul_lt_mul_of_pos_left hm hd) (Nat.mul_le_mul_right _ (Nat.le_of_lt h1))
      have := limbs_len_le (b := bas) (by decide) h2
      omega
    refine PC.use (compare_c (d * m) r hdm hr) ?_
    simp only [go_sem, h0, h1, h5, h6]
    refine acond_i (fun hc => ?_) (fun hc => ?_)
    · have hc : d * m ≤ r := by
        rcases Nat.lt_or_ge r (d * m) with h | h
        · rw [cmpI_gt (by omega)] at hc; simp at hc
        · exact h
      simp only [go_sem, h0, h1, h5, h6]
      exact ⟨⟨m, b, by omega, hb, rfl, rfl, hc, hb2⟩, by simp only [natOf_int]; omega⟩
    · have hc : r < d * m := by
        rcases Nat.lt_or_ge r (d * m) with h | h
        · exact h
        · exfalso
          exact of_decide_eq_false hc (cmpI_le (by omega))
      simp only [go_sem, h0, h1, h5, h6]
      refine ⟨⟨a, m - 1, by omega, by omega, rfl, ?_, ha2, ?_⟩, ?_⟩
      · rw [wrapQ (by omega)]; congr 2; omega
      · rw [show m - 1 + 1 = m by omega]; exact hc
      · rw [wrapQ (by omega)]; simp only [natOf_int]; omega
  · have hge := geB hab hge
    subst hge
    simp only [go_sem, h5]
    exact cI (by rw [half ha2 hb2 hd])
end Go.Proofs.YtdlijlecpopadaaGreatDoor.Nu
end

section
set_option linter.unusedSimpArgs false
set_option linter.unusedVariables false
namespace Go.Proofs.YtdlijlecpopadaaGreatDoor.Nu
open Go.Aw Go.Aw.D Go.Proofs Ty Go.Nu
set_option maxRecDepth 100000
theorem set_row {qs : List Nat} {k v q : Nat} (h : qs[k]? = some v) : ({ numRow qs with es := (numRow qs).es.set k (setAt ((numRow qs).es.getD k []) 0 [int (q : Int)]) } : Row) = numRow (qs.set k q) := by
  simp only [numRow, getD_map h, List.map_set]
  rfl
theorem divide_c (m n : Nat) (hm : (limbs bas m).length ≤ 1048570) (hn : 0 < n) (hnl : (limbs bas n).length ≤ 1048570) : PC Tryz.prog 145 [nl m, nl n] (.tup [nl (m / n), nl (m % n)]) := by
  have om := ofL_limbs (b := bas) (by decide) m
  have lm := limbs_lim (b := bas) (by decide) m
  rw [show nl m = .sl ((limbs bas m).map encN) from rfl]
  generalize limbs bas m = l at *
  refine PC.body (c := Tryz.f145.body.getD .skip) (fun t => t == 6 || t == 23) mixed Tryz.func145 rfl (by kernel_rfl) ?_
  unfold Tryz.f145
  simp only [Option.getD_some]
  simp only [go_sem]
  refine ⟨by omega, anew_i fun j hj => ?_⟩
  simp only [go_sem]
  refine ⟨fun ρ H => ∃ (k r : Nat) (qs : List Nat), k ≤ l.length ∧ ρ 0 = .sl (l.map encN) ∧ ρ 1 = nl n ∧ ρ 6 = .os j ∧ ρ 7 = nl r ∧ ρ 8 = int ((k : Int) - 1) ∧ H j = some (numRow qs) ∧ Lim bas qs ∧ qs.length = l.length ∧ r < n ∧ ofL bas (l.drop k) = ofL bas (qs.drop k) * n + r ∧ qs.take k = List.replicate k 0, fun ρ _ => match ρ 8 with | .v (.int _ z) => (z + 1).toNat | _ => 0,
    ⟨l.length, 0, List.replicate l.length 0, Nat.le_refl _, by simp only [go_sem], by simp only [go_sem], by simp only [go_sem], ?_, ?_, ?_, Lim.zeros (by decide) _, by simp, hn, by simp [ofL], by simp⟩, ?_⟩
  · simp only [go_sem]
    exact nl_zero.symm
  · simp only [go_sem, wrapQ (show l.length ≤ 4611686018427387904 by omega)]
  · rw [updH_same]
    simp only [numRow, List.map_replicate]
    rfl
  clear hj
  rintro ρ H ⟨k, r, qs, hk, h0, h1, h6, h7, h8, Rj, hq, hql, hr, hv, hz⟩
  simp only [go_sem, h0, h1, h6, h7, h8]
  refine acond_i (fun hb => ?_) (fun hb => ?_)
  · have hk0 : 0 < k := by simp at hb; omega
    obtain ⟨k, rfl⟩ : ∃ j, k = j + 1 := ⟨k - 1, by omega⟩
    rw [show ((k + 1 : Nat) : Int) - 1 = (k : Int) by omega] at h8 ⊢
    obtain ⟨x, hx⟩ := getIn (show k < l.length by omega)
    have hxb : x < bas := lm x (List.mem_of_getElem? hx)
    have b1 := inB (show k < l.length by omega)
    have b2 := inB (show k < qs.length by omega)
    have hq0 : qs[k]? = some 0 := by
      have h1 : (qs.take (k + 1))[k]? = (List.replicate (k + 1) 0)[k]? := by rw [hz]
      rw [List.getElem?_take, if_pos (by omega)] at h1
      rw [h1]; simp
    obtain ⟨hV, hQ, hR⟩ := div_step (b := bas) (a := n) (by decide) hx hxb hr (show k < qs.length by omega) hv
    have hrl : (limbs bas r).length ≤ 1048570 := Nat.le_trans (limbs_len_mono (by decide) (Nat.le_of_lt hr)) hnl
    have hrb : x + bas * r < n * bas := by
      have : bas * (r + 1) ≤ bas * n := Nat.mul_le_mul_left _ hr
      rw [Nat.mul_add] at this
      rw [Nat.mul_comm n bas]
      omega
    have hzk : (qs.set k ((x + bas * r) / n)).take k = List.replicate k 0 := by
      rw [List.take_set_of_le (by omega)]
      have h1 : (qs.take (k + 1)).take k = (List.replicate (k + 1) 0).take k := by rw [hz]
      rw [List.take_take, Nat.min_eq_left (by omega)] at h1
      rw [h1]; simp
    have hTL : ofL bas (x :: limbs bas r) = x + bas * r := by rw [ofL, ofL_limbs (by decide)]
    have hTT : Lim bas (x :: limbs bas r) := fun y hy => by
      rcases List.mem_cons.1 hy with rfl | hy
      · exact hxb
      · exact limbs_lim (by decide) r y hy
    have hRl : (limbs bas (x + bas * r)).length ≤ 1048575 := by
      refine Nat.le_trans (limbs_len_le (b := bas) (k := (limbs bas r).length + 1) (by decide) ?_) (by omega)
      have h1 := ofL_lt (b := bas) (by decide) hTT
      rw [hTL] at h1
      simpa using h1
    generalize hR' : x + bas * r = R at *
    have hsub : R - n * (R / n) = R % n := by have := Nat.mod_add_div R n; omega
    have hnq : (limbs bas (n * (R / n))).length ≤ 1048576 := Nat.le_trans (limbs_len_mono (by decide) (Nat.mul_div_le R n)) (by omega)
    simp only [go_sem, h0, h1, h6, h7, h8, getD_map hx, b1]
    refine anew_i fun i hi => ?_
    simp only [go_sem, h0, h1, h6, h7, h8]
    have Rj1 := keep_new (r' := ⟨3, 1, [[int (x : Int)]]⟩) Rj hi
    refine wappE_i (updH_same _ _ _) ⟨rfl, rfl⟩ (allN _) (by simp only [List.length_map, List.length_cons, List.length_nil]; omega) (fun i2 hi2 => ?_)
    have Rj2 := keep_app Rj1 (ne_new Rj hi).symm hi2 (r' := ⟨3, 1, [[int (x : Int)]] ++ (limbs bas r).map encN⟩)
    have nj2 : j ≠ i2 := ne_new Rj1 hi2
    simp only [go_sem, h0, h1, h6, h7, h8]
    refine PC.useF [i2] (.cons _ _ _ _ (.row _ _ _ (by simp only [List.mem_singleton, if_true]; exact updH_same _ _ _) (ConvE.refl _)) .nil) (trimN hTT (by simp; omega) hTL) ?_
    generalize hHN : (fun k => if k ∈ [i2] then none else _) = HN
    have Rj3 : HN j = some (numRow qs) := by rw [← hHN]; simp only [List.mem_singleton, if_neg nj2]; exact Rj2
    clear hHN Rj2 Rj1 Rj
    simp only [go_sem, h0, h1, h6, h7, h8]
    refine PC.use (compare_c R n (by omega) (by omega)) ?_
    simp only [go_sem, h0, h1, h6, h7, h8]
    refine acond_i (fun hc => ?_) (fun hc => ?_)
    · have hlt : R < n := by
        rcases Nat.lt_trichotomy R n with h | h | h
        · exact h
        · rw [cmpI_eq (by omega)] at hc; cases hc
        · rw [cmpI_gt (by omega)] at hc; cases hc
      simp only [go_sem, h0, h1, h6, h7, h8, wrapQ (show k ≤ 4611686018427387904 by omega)]
      have hq1 : qs.set k (R / n) = qs := by
        rw [Nat.div_eq_of_lt hlt]
        obtain ⟨h1, h2⟩ := List.getElem?_eq_some_iff.1 hq0
        rw [← h2]; exact List.set_getElem_self h1
      rw [hq1, Nat.mod_eq_of_lt hlt] at hV
      rw [hq1] at hzk
      exact ⟨⟨k, R, qs, by omega, rfl, rfl, Rj3, hq, hql, hlt, hV, hzk⟩, by omega⟩
    simp only [go_sem, h0, h1, h6, h7, h8]
    refine acond_i (fun hc2 => ?_) (fun hc2 => ?_)
    · have heq : R = n := by
        have := cmpI_zero.1 (by simpa using hc2)
        omega
      simp only [go_sem, h0, h1, h6, h7, h8, Rj3, show (numRow qs).es.length = qs.length from List.length_map _, b2]
      refine ⟨rfl, wputE_1 so3 Rj3 (by simp only [numRow, List.length_map]; exact ⟨by simpa using b2.2, rfl, Nat.le_refl 1⟩) ?_⟩
      simp only [go_sem, h0, h1, h6, h7, h8, wrapQ (show k ≤ 4611686018427387904 by omega)]
      have hq1 : R / n = 1 := by rw [heq]; exact Nat.div_self hn
      have hm1 : R % n = 0 := by rw [heq]; exact Nat.mod_self n
      rw [hq1, hm1] at hV
      rw [hq1] at hzk
      refine ⟨⟨k, 0, qs.set k 1, by omega, nl_zero.symm, rfl, ?_, hq.set (by decide), by simp [hql], hn, hV, hzk⟩, by omega⟩
      exact congrArg some (set_row (q := 1) hq0)
    simp only [go_sem, h0, h1, h6, h7, h8, Rj3]
    refine PC.use (digit_c R n (by omega) hn (by omega) hrb) ?_
    simp only [go_sem, h0, h1, h6, h7, h8, Rj3, show (numRow qs).es.length = qs.length from List.length_map _, b2]
    refine ⟨rfl, wputE_1 so3 Rj3 (by simp only [numRow, List.length_map]; exact ⟨by simpa using b2.2, rfl, Nat.le_refl 1⟩) ?_⟩
    generalize hP : updH HN j _ = HP
    have Rj4 : HP j = some (numRow (qs.set k (R / n))) := by
      rw [← hP, updH_same]
      exact congrArg some (set_row (q := R / n) hq0)
    have hg : (qs.set k (R / n))[k]? = some (R / n) := List.getElem?_set_self (by omega)
    clear hP Rj3
    simp only [go_sem, h0, h1, h6, h7, h8, Rj4]
    have hgl : (numRow (qs.set k (R / n))).es.getD k [] = encN (R / n) := getD_map hg
    have b3 : 0 ≤ (k : Int) ∧ (k : Int) < ((numRow (qs.set k (R / n))).es.length : Nat) := by
      simp only [numRow, List.length_map, List.length_set]; exact b2
    simp only [go_sem, hgl, b3]
    refine ⟨rfl, ⟨by omega, Nat.zero_lt_one⟩, ?_⟩
    refine PC.use (times_c n (R / n) (by omega) hQ) ?_
    simp only [go_sem, h0, h1, h6, h7, h8, Rj4]
    refine PC.use (minus_c R (n * (R / n)) (by omega) (Nat.mul_div_le R n)) ?_
    simp only [go_sem, h0, h1, h6, h7, h8, wrapQ (show k ≤ 4611686018427387904 by omega), hsub]
    exact ⟨⟨k, R % n, qs.set k (R / n), by omega, rfl, rfl, Rj4, hq.set hQ, by simp [hql], hR, hV, hzk⟩, by omega⟩
  · have hk0 : k = 0 := by simp at hb; omega
    subst hk0
    simp only [go_sem, h0, h1, h6, h7, h8]
    obtain ⟨e1, e2⟩ := div_end hr hv
    rw [List.drop_zero, List.drop_zero, om] at e1
    rw [List.drop_zero, om] at e2
    refine PC.useF [j] (.cons _ _ _ _ (.row _ _ _ (by simp only [List.mem_singleton, if_true]; exact Rj) (ConvE.refl _)) .nil) (trimN hq (by omega) e1) ?_
    simp only [go_sem, h7, e2]
    exact .refl _
end Go.Proofs.YtdlijlecpopadaaGreatDoor.Nu
end
