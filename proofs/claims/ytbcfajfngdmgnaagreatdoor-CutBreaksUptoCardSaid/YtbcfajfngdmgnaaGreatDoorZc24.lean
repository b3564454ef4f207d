/- Texts joined by a program: CuC, RefA, RefF, RefI, CuAcc, CuD, CuE. -/
import Derived.Test.YtbcfajfngdmgnaaGreatDoorZc14
import Derived.Test.YtbcfajfngdmgnaaGreatDoorZc23

section
set_option linter.unusedSimpArgs false
set_option linter.unusedVariables false
namespace Go.Proofs.YtbcfajfngdmgnaaGreatDoor.Nu
open Go.Aw Go.Aw.D Go.Proofs Ty Go.Nu
set_option maxRecDepth 100000
/-- by how much a cut is broken -/
def coefsP (one : Cut) (cols : List Column) : List Int := cols.map fun c => coefP one.kind (one.set.toNat &&& c.set.toNat)
def overP (one : Cut) (s : ByteArray) : ByteArray × Int := if one.kind = 1 then subR s (zed 1) else if one.kind = 2 then subR (zed one.n) s else (dec 0, 0)
def brokenP (one : Cut) (cols : List Column) (rates : List ByteArray) : ByteArray × Int :=
  if rates.length < cols.length then (emp, 2) else
  if (timesR (coefsP one cols) (rates.take cols.length)).2 ≠ 0 then (emp, (timesR (coefsP one cols) (rates.take cols.length)).2) else
  if (overP one (timesR (coefsP one cols) (rates.take cols.length)).1).2 ≠ 0 then (emp, (overP one (timesR (coefsP one cols) (rates.take cols.length)).1).2) else
  if signR (overP one (timesR (coefsP one cols) (rates.take cols.length)).1).1 ≤ 0 then (dec 0, 0) else ((overP one (timesR (coefsP one cols) (rates.take cols.length)).1).1, 0)
/-- the reference asks for 'below zero' where the program asks for 'not above zero' -/
theorem sign_zero {s : ByteArray} (hr : rightR s = true) (h : signR s = 0) : s = dec 0 := by
  obtain ⟨x, rfl, _⟩ := right_parts hr
  unfold signR at h
  rw [if_pos hr, valR_ratS, Int.sign_eq_zero_iff_zero] at h
  rw [Rat.num_eq_zero.1 h]
  exact ratS_zero
theorem timesF_right : ∀ (l : List (Int × ByteArray)) (t : ByteArray), rightR t = true → (timesF l t).2 = 0 → rightR (timesF l t).1 = true
  | [], t, h, _ => h
  | p :: l, t, h, h0 => by
    unfold timesF at h0 ⊢
    split at h0
    · next h1 => exact absurd h0 h1
    · next h1 =>
      rw [if_neg h1]
      split at h0
      · next h2 => exact absurd h0 h2
      · next h2 =>
        rw [if_neg h2]
        exact timesF_right l _ (addR_small (by simpa using h2)) h0
theorem times_right {ns : List Int} {xs : List ByteArray} (h : (timesR ns xs).2 = 0) : rightR (timesR ns xs).1 = true := by
  unfold timesR at h ⊢
  split at h
  · cases h
  · next h1 =>
    rw [if_neg h1]
    split at h
    · cases h
    · next h2 => rw [if_neg h2]; exact timesF_right _ _ zero_right h
theorem subR_small {a b : ByteArray} (h : (subR a b).2 = 0) : rightR (subR a b).1 = true := by
  unfold subR at h ⊢
  split at h
  · rename_i hr
    rw [if_pos hr]
    obtain ⟨e, hs⟩ := sumR_small h
    rw [e]; exact rightR_ratS hs
  · cases h
theorem over_right {one : Cut} {s : ByteArray} (hs : rightR s = true) (h : (overP one s).2 = 0) : rightR (overP one s).1 = true := by
  unfold overP at h ⊢
  split at h
  · next h1 => rw [if_pos h1]; exact subR_small h
  · next h1 =>
    rw [if_neg h1]
    split at h
    · next h2 => rw [if_pos h2]; exact subR_small h
    · next h2 => rw [if_neg h2]; exact zero_right
def okCut (one : Cut) : Prop := 0 ≤ one.set ∧ one.set ≤ 9223372036854775807 ∧ -9223372036854775808 ≤ one.n ∧ one.n ≤ 9223372036854775807
theorem broken_c (one : Cut) (cols : List Column) (rates : List ByteArray) (h1 : okCut one) (h2 : ∀ c ∈ cols, 0 ≤ c.set ∧ c.set ≤ 9223372036854775807) (hl : cols.length ≤ 1048576) (hr : rates.length ≤ 1048576) (hs : ∀ s ∈ rates, s.size ≤ 1048576) :
    PC Tryz.prog 15 [.agg (encCut one), .sl (cols.map encColumn), .sl (rates.map Go.Aw.D.encStr)] (.tup [str (brokenP one cols rates).1, int (brokenP one cols rates).2]) := by
  refine PC.body (c := Tryz.f15.body.getD .skip) (fun t => t == 8) mixed Tryz.func15 rfl (by kernel_rfl) ?_
  unfold Tryz.f15
  simp only [Option.getD_some]
  simp only [go_sem]
  refine acond_i (fun hb => ?_) (fun hb => ?_)
  · have hb := ltB hb
    simp only [go_sem]
    rw [show brokenP one cols rates = (emp, 2) from if_pos hb]
    exact .refl _
  have hb : ¬ rates.length < cols.length := by simpa using hb
  unfold brokenP
  rw [if_neg hb]
  simp only [go_sem]
  refine anew_i fun j hj => ?_
  simp only [go_sem, List.length_map]
  refine ⟨fun ρ H => ∃ (k j : Nat), k ≤ cols.length ∧ ρ 1 = .sl (cols.map encColumn) ∧ ρ 2 = .sl (rates.map Go.Aw.D.encStr) ∧ ρ 3 = .rp (encCut one) 0 ∧ ρ 19 = .sl (cols.map encColumn) ∧ ρ 20 = int cols.length ∧ ρ 21 = int k ∧ ρ 8 = .os j ∧ H j = some (intRow (coefsP one (cols.take k))), fun ρ _ => cols.length - natOf (ρ 21),
    ⟨0, j, Nat.zero_le _, by simp only [go_sem], by simp only [go_sem], by simp only [go_sem], by simp only [go_sem], by simp only [go_sem, List.length_map], by simp only [go_sem]; rfl, by simp only [go_sem], updH_same _ _ _⟩, ?_⟩
  clear hj j
  rintro ρ H ⟨k, j, hk, e1, e2, e3, e19, e20, e21, e8, Rj⟩
  simp only [go_sem, e1, e2, e3, e19, e20, e21, e8]
  refine acond_i (fun hlt => ?_) (fun hge => ?_)
  · have hlt := ltB hlt
    obtain ⟨c, hc⟩ := getIn hlt
    have b1 := inB hlt
    simp only [go_sem, e1, e2, e3, e19, e20, e21, e8, getD_map hc, b1]
    have hcs := h2 c (List.mem_of_getElem? hc)
    have hcf := coef_c one.kind one.n one.set.toNat c.set.toNat (by have := h1.2.1; omega) (by omega)
    rw [Int.toNat_of_nonneg h1.1, Int.toNat_of_nonneg hcs.1] at hcf
    refine anew_i fun i hi => ?_
    have nji : j ≠ i := ne_new Rj hi
    simp only [go_sem]
    refine wputE_n (updH_same _ _ _) (by simp [encColumn]) ?_
    generalize hG : updH (updH _ i _) i _ = HG
    have Ri : HG i = some (⟨63, 7, [encColumn c]⟩ : Row) := by rw [← hG, updH_same]; rfl
    have Rj' : HG j = some (intRow (coefsP one (cols.take k))) := by rw [← hG, updH_ne _ _ _ _ nji, updH_ne _ _ _ _ nji]; exact Rj
    clear hG hi Rj
    simp only [go_sem, e1, e2, e3, e19, e20, e21, e8, Ri]
    refine PC.use hcf ?_
    simp only [go_sem, e1, e2, e3, e19, e20, e21, e8]
    refine wappE_i Rj' ⟨rfl, rfl⟩ ⟨rfl, trivial⟩ (by simp only [intRow, coefsP, List.length_map, List.length_take, List.length_cons, List.length_nil]; omega) (fun j' hj' => ?_)
    simp only [go_sem, e1, e2, e3, e19, e20, e21, e8, wrapS (show k ≤ 4611686018427387904 by omega)]
    refine ⟨⟨k + 1, j', hlt, rfl, rfl, ?_⟩, by simp only [natOf_int]; omega⟩
    rw [updH_same]
    simp only [intRow, coefsP, take_succ hc, List.map_append, List.map_cons, List.map_nil]
    rfl
  · have hge := geB hk hge
    subst hge
    rw [List.take_length] at Rj
    have htm := rTimes_c (coefsP one cols) (rates.take cols.length) (fun n hn => by
      unfold coefsP at hn
      obtain ⟨c, _, rfl⟩ := List.mem_map.1 hn
      unfold coefP
      split <;> omega) (by rw [List.length_take]; omega) (fun s hs2 => hs s (List.mem_of_mem_take hs2))
    rw [List.map_take] at htm
    simp only [go_sem, e1, e2, e3, e8, List.length_map]
    refine ⟨⟨by omega, by omega⟩, ?_⟩
    refine PC.useF [j] (.cons _ _ _ _ (.row _ _ _ (by simp only [List.mem_singleton, if_true]; exact Rj) (ConvE.refl _)) (.cons _ _ _ _ (.refl _) .nil)) htm ?_
    have hTR := times_right (ns := coefsP one cols) (xs := rates.take cols.length)
    generalize timesR (coefsP one cols) (rates.take cols.length) = T at *
    simp only [go_sem, e3]
    refine acond_i (fun hc => ?_) (fun hc => ?_)
    · have hc : T.2 ≠ 0 := by simpa using hc
      simp only [go_sem]
      rw [if_pos hc]
      exact .refl _
    have hc : T.2 = 0 := by simpa using hc
    rw [if_neg (by simp [hc])]
    simp only [go_sem, e3]
    have hTr : rightR T.1 = true := hTR hc
    have hTs := right_size' hTr
    refine acond_joinL (fun ρ _ => ρ 12 = int (overP one T.1).2 ∧ ρ 13 = str (overP one T.1).1) ?_ fun Q' hQ _ _ => acond_i (fun h => ?_) (fun h => ?_)
    · rintro ρ H ⟨f12, f13⟩
      simp only [go_sem, f12, f13]
      refine acond_i (fun hd => ?_) (fun hd => ?_)
      · simp only [go_sem, f12]
        rw [if_pos (by simpa using hd)]
        exact .refl _
      have hd : (overP one T.1).2 = 0 := by simpa using hd
      rw [if_neg (by simp [hd])]
      have ho := right_size' (over_right hTr hd)
      simp only [go_sem, f13]
      refine PC.use (rsign_c _ (by omega)) ?_
      simp only [go_sem, f13]
      refine acond_i (fun hs => ?_) (fun hs => ?_)
      · rw [if_pos (by simpa using hs)]
        simp only [go_sem]
        rw [← zero_lit]
        exact .refl _
      · rw [if_neg (by simpa using hs)]
        simp only [go_sem, f13]
        exact .refl _
    · have h : one.kind = 1 := by simpa using h
      have e : overP one T.1 = subR T.1 (zed 1) := if_pos h
      rw [e] at hQ
      simp only [go_sem]
      refine PC.use (rof_c 1 (by decide) (by decide)) ?_
      simp only [go_sem]
      refine PC.use (rSub_c T.1 (zed 1) (by omega) (by have := Go.Nu.zed_size (lt_max (n := (1 : Int).natAbs) (k := 20) (by decide) (by decide)); omega)) ?_
      simp only [go_sem]
      exact hQ _ _ ⟨rfl, rfl⟩
    · have h : one.kind ≠ 1 := by simpa using h
      simp only [go_sem]
      refine acond_i (fun h2 => ?_) (fun h2 => ?_)
      · have h2 : one.kind = 2 := by simpa using h2
        have e : overP one T.1 = subR (zed one.n) T.1 := (if_neg h).trans (if_pos h2)
        rw [e] at hQ
        have hzs := Go.Nu.zed_size (lt_max (n := one.n.natAbs) (k := 20) (by have := h1.2.2; omega) (by decide))
        simp only [go_sem, e3]
        refine PC.use (rof_c one.n h1.2.2.1 h1.2.2.2) ?_
        simp only [go_sem]
        refine PC.use (rSub_c (zed one.n) T.1 (by omega) (by omega)) ?_
        simp only [go_sem]
        exact hQ _ _ ⟨rfl, rfl⟩
      · have h2 : one.kind ≠ 2 := by simpa using h2
        have e : overP one T.1 = (dec 0, 0) := (if_neg h).trans (if_neg h2)
        rw [e] at hQ
        simp only [go_sem]
        exact hQ _ _ ⟨hc ▸ rfl, zero_lit ▸ rfl⟩
theorem broken28_c (one : Cut) (cols : List Column) (rates : List ByteArray) (h1 : okCut one) (h2 : ∀ c ∈ cols, 0 ≤ c.set ∧ c.set ≤ 9223372036854775807) (hl : cols.length ≤ 1048576) (hr : rates.length ≤ 1048576) (hs : ∀ s ∈ rates, s.size ≤ 1048576) :
    PC Tryz.prog 16 [.agg (encCut one), .sl (cols.map encColumn), .sl (rates.map Go.Aw.D.encStr)] (.tup [str (brokenP one cols rates).1, int (brokenP one cols rates).2]) := by
  refine PC.body (c := Tryz.f16.body.getD .skip) (fun t => t == 8) mixed Tryz.func16 rfl (by kernel_rfl) ?_
  unfold Tryz.f16
  simp only [Option.getD_some]
  simp only [go_sem]
  refine acond_i (fun hb => ?_) (fun hb => ?_)
  · have hb := ltB hb
    simp only [go_sem]
    rw [show brokenP one cols rates = (emp, 2) from if_pos hb]
    exact .refl _
  have hb : ¬ rates.length < cols.length := by simpa using hb
  unfold brokenP
  rw [if_neg hb]
  simp only [go_sem]
  refine anew_i fun j hj => ?_
  simp only [go_sem, List.length_map]
  refine ⟨fun ρ H => ∃ (k j : Nat), k ≤ cols.length ∧ ρ 1 = .sl (cols.map encColumn) ∧ ρ 2 = .sl (rates.map Go.Aw.D.encStr) ∧ ρ 3 = .rp (encCut one) 0 ∧ ρ 9 = int k ∧ ρ 8 = .os j ∧ H j = some (intRow (coefsP one (cols.take k))) ∧ ∀ s ∈ rates.take k, rightR s = true, fun ρ _ => cols.length - natOf (ρ 9),
    ⟨0, j, Nat.zero_le _, by simp only [go_sem], by simp only [go_sem], by simp only [go_sem], by simp only [go_sem]; rfl, by simp only [go_sem], updH_same _ _ _, by simp⟩, ?_⟩
  clear hj j
  rintro ρ H ⟨k, j, hk, e1, e2, e3, e9, e8, Rj, hz⟩
  simp only [go_sem, e1, e2, e3, e9, e8]
  refine acond_i (fun hlt => ?_) (fun hge => ?_)
  · have hlt := ltB hlt
    obtain ⟨c, hc⟩ := getIn hlt
    obtain ⟨s, hs0⟩ := getIn (l := rates) (k := k) (by omega)
    have b1 := inB hlt
    have b2 := inB (show k < rates.length by omega)
    simp only [go_sem, e1, e2, e3, e9, e8, getD_map hc, b1, getD_map hs0, b2]
    have hcs := h2 c (List.mem_of_getElem? hc)
    have hcf := coef28_c one.kind one.n one.set.toNat c.set.toNat (by have := h1.2.1; omega) (by omega)
    rw [Int.toNat_of_nonneg h1.1, Int.toNat_of_nonneg hcs.1] at hcf
    refine PC.use (right4_c s (hs s (List.mem_of_getElem? hs0))) ?_
    simp only [go_sem, e1, e2, e3, e9, e8]
    refine acond_i (fun hb => ?_) (fun hb => ?_)
    · simp only [go_sem]
      have : timesR (coefsP one cols) (rates.take cols.length) = (emp, 3) := by
        unfold timesR
        rw [if_neg (by simp [coefsP]; omega), if_pos (any_yes (q := fun x => !rightR x) (k := k) (c := s) (by rw [List.getElem?_take_of_lt hlt]; exact hs0) hb)]
      rw [if_pos (by rw [this]; decide), this]
      exact .refl _
    simp only [go_sem, e1, e2, e3, e9, e8]
    refine adraw_h (by kernel_rfl) ?_
    simp only [go_sem, e1, e2, e3, e9, e8, getD_map hc, b1]
    refine ⟨_, hcf.q rfl, ?_⟩
    simp only [go_sem, e1, e2, e3, e9, e8]
    refine wappE_i Rj ⟨rfl, rfl⟩ ⟨rfl, trivial⟩ (by simp only [intRow, coefsP, List.length_map, List.length_take, List.length_cons, List.length_nil]; omega) (fun j' hj' => ?_)
    simp only [go_sem, e1, e2, e3, e9, e8, wrapS (show k ≤ 4611686018427387904 by omega)]
    refine ⟨⟨k + 1, j', hlt, rfl, rfl, ?_, take_all' hs0 (by simpa using hb) hz⟩, by simp only [natOf_int]; omega⟩
    rw [updH_same]
    simp only [intRow, coefsP, take_succ hc, List.map_append, List.map_cons, List.map_nil]
    rfl
  · have hge := geB hk hge
    subst hge
    rw [List.take_length] at Rj
    have htm := times4_c (coefsP one cols) (rates.take cols.length) (fun n hn => by
      unfold coefsP at hn
      obtain ⟨c, _, rfl⟩ := List.mem_map.1 hn
      unfold coefP
      split <;> omega) (by rw [List.length_take]; omega) (fun s hs2 => hs s (List.mem_of_mem_take hs2))
    rw [List.map_take] at htm
    simp only [go_sem, e1, e2, e3, e8, List.length_map]
    refine ⟨⟨by omega, by omega⟩, ?_⟩
    refine PC.useF [j] (.cons _ _ _ _ (.row _ _ _ (by simp only [List.mem_singleton, if_true]; exact Rj) (ConvE.refl _)) (.cons _ _ _ _ (.refl _) .nil)) htm ?_
    have hTR := times_right (ns := coefsP one cols) (xs := rates.take cols.length)
    generalize timesR (coefsP one cols) (rates.take cols.length) = T at *
    simp only [go_sem, e3]
    refine acond_i (fun hc => ?_) (fun hc => ?_)
    · have hc : T.2 ≠ 0 := by simpa using hc
      simp only [go_sem]
      rw [if_pos hc]
      exact .refl _
    have hc : T.2 = 0 := by simpa using hc
    rw [if_neg (by simp [hc])]
    have hTr : rightR T.1 = true := hTR hc
    have hTs := right_size' hTr
    simp only [go_sem, e3]
    refine acond_join (fun ρ _ => ρ 3 = .rp (encCut one) 0 ∧ ρ 10 = str T.1 ∧ ρ 11 = int (if one.kind = 1 then overP one T.1 else (dec 0, 0)).2 ∧ ρ 12 = str (if one.kind = 1 then overP one T.1 else (dec 0, 0)).1) ?_ fun K hK => acond_i (fun h => ?_) (fun h => ?_)
    rotate_left
    · have h : one.kind = 1 := by simpa using h
      have e : overP one T.1 = subR T.1 (zed 1) := if_pos h
      rw [if_pos h, e] at hK
      simp only [go_sem]
      rw [show (⟨#[49]⟩ : ByteArray) = zed 1 from one_lit.trans (zed_nat 1).symm]
      refine PC.use (sub4_c T.1 (zed 1) (by omega) (by have := Go.Nu.zed_size (lt_max (n := (1 : Int).natAbs) (k := 20) (by decide) (by decide)); omega)) ?_
      simp only [go_sem]
      exact hK _ _ ⟨by simp only [go_sem, e3], by simp only [go_sem], by simp only [go_sem], by simp only [go_sem]⟩
    · have h : one.kind ≠ 1 := by simpa using h
      rw [if_neg h] at hK
      simp only [go_sem]
      exact hK _ _ ⟨by simp only [go_sem, e3], by simp only [go_sem], by simp only [go_sem, hc], by simp only [go_sem]; rw [zero_lit]⟩
    rintro ρ H ⟨f3, f10, f11, f12⟩
    simp only [go_sem, f3]
    refine acond_join (fun ρ _ => ρ 11 = int (overP one T.1).2 ∧ ρ 12 = str (overP one T.1).1) ?_ fun K hK => acond_i (fun h => ?_) (fun h => ?_)
    rotate_left
    · have h : one.kind = 2 := by simpa using h
      have e : overP one T.1 = subR (zed one.n) T.1 := (if_neg (by omega)).trans (if_pos h)
      have hzs := Go.Nu.zed_size (lt_max (n := one.n.natAbs) (k := 20) (by have := h1.2.2; omega) (by decide))
      rw [e] at hK
      simp only [go_sem, f3]
      refine PC.use (of4_c one.n h1.2.2.1 h1.2.2.2) ?_
      simp only [go_sem, f10]
      refine PC.use (sub4_c (zed one.n) T.1 (by omega) (by omega)) ?_
      simp only [go_sem]
      exact hK _ _ ⟨rfl, rfl⟩
    · have h : one.kind ≠ 2 := by simpa using h
      have e : (if one.kind = 1 then overP one T.1 else (dec 0, 0)) = overP one T.1 := by
        split
        · rfl
        · next h3 => exact ((if_neg h3).trans (if_neg h)).symm
      rw [e] at f11 f12
      simp only [go_sem]
      exact hK _ _ ⟨f11, f12⟩
    clear f3 f10 f11 f12
    rintro ρ H ⟨f11, f12⟩
    simp only [go_sem, f11, f12]
    refine acond_i (fun hd => ?_) (fun hd => ?_)
    · simp only [go_sem, f11]
      rw [if_pos (by simpa using hd)]
      exact .refl _
    have hd : (overP one T.1).2 = 0 := by simpa using hd
    rw [if_neg (by simp [hd])]
    have hor := over_right hTr hd
    have ho := right_size' hor
    simp only [go_sem, f12]
    refine PC.use (sign4_c _ (by omega)) ?_
    simp only [go_sem, f12]
    refine acond_i (fun hs => ?_) (fun hs => ?_)
    · rw [if_pos (by have : signR (overP one T.1).1 < 0 := by simpa using hs
                     omega)]
      simp only [go_sem]
      rw [← zero_lit]
      exact .refl _
    · have hs : ¬ signR (overP one T.1).1 < 0 := by simpa using hs
      simp only [go_sem, f12]
      split
      · next h3 => rw [sign_zero hor (by omega)]; exact .refl _
      · exact .refl _
end Go.Proofs.YtbcfajfngdmgnaaGreatDoor.Nu
end

section
set_option linter.unusedSimpArgs false
set_option linter.unusedVariables false
namespace Go.Proofs.YtbcfajfngdmgnaaGreatDoor
open Go.Aw Go.Aw.D Go.Proofs Ty
set_option maxRecDepth 100000
def inR (n lo hi : Int) : Bool := decide (n ≥ lo) && decide (n ≤ hi)
def digitR (c : Int) : Bool := decide (c ≥ 48) && decide (c ≤ 57)
theorem digit_c (c : Int) : PC Tryz.prog 256 [.v (.int .u8 c)] (boo (digitR c)) := by
  refine PC.body (c := Tryz.f256.body.getD .skip) (fun _ => false) mixed Tryz.func256 rfl (by kernel_rfl) ?_
  unfold Tryz.f256
  simp only [Option.getD_some]
  simp only [go_sem]
  exact .refl _
def letterR (c : Int) : Bool := decide (c ≥ 97) && decide (c ≤ 122) || decide (c ≥ 65) && decide (c ≤ 90) || c == 95
theorem letter_c (c : Int) : PC Tryz.prog 257 [.v (.int .u8 c)] (boo (letterR c)) := by
  refine PC.body (c := Tryz.f257.body.getD .skip) (fun _ => false) mixed Tryz.func257 rfl (by kernel_rfl) ?_
  unfold Tryz.f257
  simp only [Option.getD_some]
  simp only [go_sem]
  exact .refl _
def zeroStop (s : Stop) : Bool := s.place == -1 && s.start == 0 && s.close == 0 && s.service == 0
def badStop (s : Stop) : Bool := decide (s.place < 0) || decide (s.start < 0) || decide (s.start > s.close) || decide (s.close > 4096) || decide (s.service < 0) || decide (s.service > 4096)
def windowR (s : Stop) : Int := if zeroStop s then 0 else if badStop s then 2 else 0
def digitS (n : Int) : ByteArray := strOfNums [IntKind.u8.wrap (IntKind.i64.wrap (48 + n))]
def decN (n : Nat) : ByteArray := if n < 10 then digitS n else decN (n / 10) ++ digitS (n % 10 : Nat)
theorem wrapN {k : Nat} (h : k ≤ 4611686018427387904) : IntKind.i64.wrap (k : Int) = (k : Int) := wrap_in (by omega)
def rightL (l : List Int) (d : Int) : Bool := if (l.length : Int) = d then l.all fun n => !(decide (n < 0) || decide (n > 1000)) else false
def capR (l : List Int) (d : Int) : Bool := if (!inR l.length 1 3 || (l.length : Int) != d) = true then false else l.all fun n => inR n 0 1000
def dimsR (l : List VType) : Int := match l with | [] => 0 | t :: _ => t.cap.length
def badPoint (p : Point) : Bool := decide (p.t < 0) || decide (p.t > 4096) || decide (p.a < p.t) || decide (p.a > IntKind.i64.wrap (p.t + 4096))
def noFifo (p q : Point) : Bool := decide (p.t ≤ q.t) || decide (p.a < q.a)
def ptAt (l : List Point) (i : Nat) : Point := l.getD i ⟨0, 0⟩
def badLen (n lo hi : Int) : Bool := decide (n < lo) || decide (n > hi)
def pointFaults (l : List Point) (i : Nat) : List Fault :=
  opt (badPoint (ptAt l i)) ⟨2, decN i⟩ ++ opt (decide ((i : Int) > 0) && noFifo (ptAt l i) (ptAt l (i - 1))) ⟨13, decN i⟩
def travelR (l : List Point) : List Fault := opt (badLen l.length 1 16) ⟨4, ByteArray.empty⟩ ++ (List.range l.length).flatMap (pointFaults l)
end Go.Proofs.YtbcfajfngdmgnaaGreatDoor
end

section
set_option linter.unusedSimpArgs false
set_option linter.unusedVariables false
namespace Go.Proofs.YtbcfajfngdmgnaaGreatDoor
open Go.Aw Go.Aw.D Go.Proofs Ty
set_option maxRecDepth 100000
end Go.Proofs.YtbcfajfngdmgnaaGreatDoor
end

section
set_option linter.unusedSimpArgs false
set_option linter.unusedVariables false
namespace Go.Proofs.YtbcfajfngdmgnaaGreatDoor
open Go.Aw Go.Aw.D Go.Proofs Ty
set_option maxRecDepth 100000
/-- what is read of an instance is not too long -/
structure InB (x : Instance) : Prop where
  places : x.net.places.length ≤ 1048576
  place : ∀ s ∈ x.net.places, s.size ≤ 1048576
  arcs : x.net.arcs.length ≤ 1048576
  arc : ∀ a ∈ x.net.arcs, a.travel.length ≤ 1048576 ∧ a.slow.length ≤ 1048576
  types : x.types.length ≤ 1048576
  type : ∀ t ∈ x.types, t.name.size ≤ 1048576 ∧ t.cap.length ≤ 1048576
  orders : x.orders.length ≤ 1048576
  order : ∀ t ∈ x.orders, t.name.size ≤ 1048576 ∧ t.load.length ≤ 1048576
  apart : x.apart.length ≤ 1048576
  before : x.before.length ≤ 1048576
end Go.Proofs.YtbcfajfngdmgnaaGreatDoor
end

section
set_option linter.unusedSimpArgs false
set_option linter.unusedVariables false
namespace Go.Proofs.YtbcfajfngdmgnaaGreatDoor
open Go.Aw Go.Aw.D Go.Proofs Ty
set_option maxRecDepth 100000
structure TypeB (t : VType) (d : Int) : Prop where
  cap : capR t.cap d = true
  skills : 0 ≤ t.skills ∧ t.skills ≤ 1073741823
  start : 0 ≤ t.start ∧ t.start ≤ t.close
  close : t.close ≤ 4096
  drive : 1 ≤ t.drive ∧ t.drive ≤ 4096
  rest : 0 ≤ t.rest ∧ t.rest ≤ 4096
  count : 0 ≤ t.count ∧ t.count ≤ 10
structure OrdB (o : Order) (d : Int) : Prop where
  load : rightL o.load d = true
  pick : -1 ≤ o.pick.place
  drop : -1 ≤ o.drop.place
  both : (o.pick.place == -1 && o.drop.place == -1) = false
  wpick : windowR o.pick = 0
  wdrop : windowR o.drop = 0
  skills : 0 ≤ o.skills ∧ o.skills ≤ 1073741823
  penalty : -1 ≤ o.penalty ∧ o.penalty ≤ 1000000
structure ArcOk (a : Arc) : Prop where
  travel : travelR a.travel = []
  slow : a.slow.length ≤ 16
  pt : ∀ p ∈ a.slow, (0 ≤ p.t ∧ p.t ≤ 4096) ∧ 0 ≤ p.a ∧ p.a ≤ 4096
structure PairB (N : Int) (q : Pair) : Prop where
  a : 0 ≤ q.a ∧ q.a < N
  b : 0 ≤ q.b ∧ q.b < N
  ne : q.a ≠ q.b
structure Acc (x : Instance) : Prop where
  arcs : x.net.arcs.length ≤ 1024
  arc : ∀ a ∈ x.net.arcs, ArcOk a
  types : 1 ≤ x.types.length ∧ x.types.length ≤ 6
  type : ∀ t ∈ x.types, TypeB t (dimsR x.types)
  orders : x.orders.length ≤ 10
  order : ∀ o ∈ x.orders, OrdB o (dimsR x.types)
  apart : x.apart.length ≤ 16
  apartB : ∀ q ∈ x.apart, PairB x.orders.length q
  before : x.before.length ≤ 16
  beforeB : ∀ q ∈ x.before, PairB x.orders.length q
end Go.Proofs.YtbcfajfngdmgnaaGreatDoor
end

section
set_option linter.unusedSimpArgs false
set_option linter.unusedVariables false
namespace Go.Proofs.YtbcfajfngdmgnaaGreatDoor.Nu
open Go.Aw Go.Aw.D Go.Proofs Ty Go.Nu
set_option maxRecDepth 100000
/-! ### sets as numbers -/
def bitsN (p : Nat → Bool) : Nat → Nat
  | 0 => 0
  | k + 1 => bitsN p k + (if p k = true then 2 ^ k else 0)
theorem bitsN_lt (p : Nat → Bool) : ∀ k, bitsN p k < 2 ^ k
  | 0 => by simp [bitsN]
  | k + 1 => by have := bitsN_lt p k; rw [bitsN, Nat.pow_succ]; split <;> omega
theorem or_low {a k : Nat} (h : a < 2 ^ k) : a ||| 2 ^ k = a + 2 ^ k := by
  rw [Nat.or_comm, Nat.add_comm]; have := Nat.two_pow_add_eq_or_of_lt h 1; simpa using this.symm
theorem or_nat {a b : Nat} (ha : a < 2 ^ 63) (hb : b < 2 ^ 63) : bitV .or .i64 (a : Int) (b : Int) = ((a ||| b : Nat) : Int) := by
  have h : ((BitVec.ofInt 64 (a : Int) ||| BitVec.ofInt 64 (b : Int)).toNat : Int) = ((a ||| b : Nat) : Int) := by
    rw [BitVec.toNat_or, BitVec.toNat_ofInt, BitVec.toNat_ofInt]
    have h1 : ((a : Int) % ((2 ^ 64 : Nat) : Int)).toNat = a := by omega
    have h2 : ((b : Int) % ((2 ^ 64 : Nat) : Int)).toNat = b := by omega
    rw [h1, h2]
  refine Eq.trans (congrArg IntKind.i64.wrap h) ?_
  have := Nat.or_lt_two_pow ha hb
  exact wrap_in (by omega)
theorem shl_in {i : Nat} (h : i ≤ 62) : shV .shl .i64 1 (i : Int) = ((2 ^ i : Nat) : Int) := by
  show IntKind.i64.wrap (1 * 2 ^ min ((i : Int)).toNat 64) = _
  have : min ((i : Int)).toNat 64 = i := by omega
  rw [this, Int.one_mul]
  have h2 : (2 : Nat) ^ i ≤ 2 ^ 62 := Nat.pow_le_pow_right (by decide) h
  have h3 : ((2 : Int) ^ i) = ((2 ^ i : Nat) : Int) := by norm_cast
  rw [h3]
  generalize 2 ^ i = m at h2
  exact wrap_in (by omega)
theorem hasR_nat {s : Nat} {i : Nat} (h1 : i ≤ 62) : hasR (s : Int) (i : Int) = s.testBit i := by
  rw [Nat.testBit_eq_decide_div_mod_eq]
  unfold hasR
  have h3 : ((2 : Int) ^ i) = ((2 ^ i : Nat) : Int) := by norm_cast
  rw [Int.toNat_natCast, h3]
  have : ((s : Int) / ((2 ^ i : Nat) : Int)) = ((s / 2 ^ i : Nat) : Int) := rfl
  rw [this]
  generalize s / 2 ^ i = m
  rw [Bool.eq_iff_iff]
  simp only [beq_iff_eq, decide_eq_true_eq, Bool.and_eq_true]
  omega
/-- a set within another one: no bit of its own -/
theorem within_nat {a b : Nat} (ha : a < 2 ^ 63) (hb : b < 2 ^ 63) : (bitV .andNot .i64 (a : Int) (b : Int) == 0) = decide (a &&& b = a) := by
  have e : bitV .andNot .i64 (a : Int) (b : Int) = ((a - (a &&& b) : Nat) : Int) := by
    have h1 : ((a : Int) % ((2 ^ 64 : Nat) : Int)).toNat = a := by omega
    have h2 : ((b : Int) % ((2 ^ 64 : Nat) : Int)).toNat = b := by omega
    have h : ((BitVec.ofInt 64 (a : Int) &&& ~~~(BitVec.ofInt 64 (b : Int))).toNat : Int) = ((a - (a &&& b) : Nat) : Int) := by
      have hle : a &&& b ≤ a := Nat.and_le_left
      have hx : BitVec.ofInt 64 (a : Int) &&& ~~~(BitVec.ofInt 64 (b : Int)) = BitVec.ofNat 64 (a - (a &&& b)) := by
        have h3 : BitVec.ofInt 64 (a : Int) = BitVec.ofNat 64 a := by apply BitVec.eq_of_toNat_eq; rw [BitVec.toNat_ofInt, BitVec.toNat_ofNat, h1, Nat.mod_eq_of_lt (by omega)]
        have h4 : BitVec.ofInt 64 (b : Int) = BitVec.ofNat 64 b := by apply BitVec.eq_of_toNat_eq; rw [BitVec.toNat_ofInt, BitVec.toNat_ofNat, h2, Nat.mod_eq_of_lt (by omega)]
        rw [h3, h4]
        have h5 : (BitVec.ofNat 64 a &&& ~~~BitVec.ofNat 64 b) &&& BitVec.ofNat 64 (a &&& b) = 0#64 := by
          apply BitVec.eq_of_getLsbD_eq
          intro i hi
          simp only [BitVec.getLsbD_and, BitVec.getLsbD_not, BitVec.getLsbD_ofNat, Nat.testBit_and, hi, decide_true, Bool.true_and, BitVec.getLsbD_zero]
          cases a.testBit i <;> cases b.testBit i <;> simp
        have h6 : (BitVec.ofNat 64 a &&& ~~~BitVec.ofNat 64 b) ||| BitVec.ofNat 64 (a &&& b) = BitVec.ofNat 64 a := by
          apply BitVec.eq_of_getLsbD_eq
          intro i hi
          simp only [BitVec.getLsbD_or, BitVec.getLsbD_and, BitVec.getLsbD_not, BitVec.getLsbD_ofNat, Nat.testBit_and, hi, decide_true, Bool.true_and]
          cases a.testBit i <;> cases b.testBit i <;> rfl
        have h7 := congrArg BitVec.toNat ((BitVec.add_eq_or_of_and_eq_zero _ _ h5).trans h6)
        rw [BitVec.toNat_add, BitVec.toNat_ofNat, BitVec.toNat_ofNat, Nat.mod_eq_of_lt (by omega : a < 2 ^ 64), Nat.mod_eq_of_lt (by omega : a &&& b < 2 ^ 64)] at h7
        apply BitVec.eq_of_toNat_eq
        rw [BitVec.toNat_ofNat, Nat.mod_eq_of_lt (by omega)]
        have hl := (BitVec.ofNat 64 a &&& ~~~BitVec.ofNat 64 b).isLt
        have hle2 : (BitVec.ofNat 64 a &&& ~~~BitVec.ofNat 64 b).toNat ≤ a := by
          rw [BitVec.toNat_and, BitVec.toNat_ofNat, Nat.mod_eq_of_lt (by omega : a < 2 ^ 64)]
          exact Nat.and_le_left
        omega
      rw [hx, BitVec.toNat_ofNat, Nat.mod_eq_of_lt (by omega)]
    refine Eq.trans (congrArg IntKind.i64.wrap h) ?_
    exact wrap_in (by omega)
  rw [e, Bool.eq_iff_iff]
  have hle : a &&& b ≤ a := Nat.and_le_left
  simp only [beq_iff_eq, decide_eq_true_eq]
  omega
theorem swithin_c (a b : Nat) (ha : a < 2 ^ 63) (hb : b < 2 ^ 63) : PC Tryz.prog 83 [int a, int b] (boo (decide (a &&& b = a))) := by
  refine PC.body (c := Tryz.f83.body.getD .skip) (fun _ => false) mixed Tryz.func83 rfl (by kernel_rfl) ?_
  unfold Tryz.f83
  simp only [Option.getD_some]
  simp only [go_sem]
  exact cB (within_nat ha hb)
/-! ### sets of orders -/
def suchB (q : Order → Bool) (l : List Order) (i : Nat) : Bool := match l[i]? with | some o => !o.off && q o | none => false
theorem suchB_at {q : Order → Bool} {l : List Order} {i : Nat} {o : Order} (h : l[i]? = some o) : suchB q l i = (!o.off && q o) := by unfold suchB; rw [h]
def suchN (q : Order → Bool) (l : List Order) : Nat := bitsN (suchB q l) l.length
theorem such_c {g : Nat} {q : Order → Bool} (x : Instance) (hx : x.orders.length ≤ 62) (hok : callOk Tryz.prog g = true) (hg : ∀ o ∈ x.orders, PC Tryz.prog g [.agg (encOrder o)] (boo (q o))) :
    PC Tryz.prog 151 [.agg (encInstance x), .v (.func (.func g) #[] #[])] (int (suchN q x.orders : Nat)) := by
  refine PC.body (c := Tryz.f151.body.getD .skip) (fun _ => false) mixed Tryz.func151 rfl (by kernel_rfl) ?_
  unfold Tryz.f151
  simp only [Option.getD_some]
  simp only [go_sem]
  unfold suchN
  generalize hp : suchB q x.orders = p
  refine ⟨fun ρ H => ∃ (k : Nat), k ≤ x.orders.length ∧ ρ 1 = .v (.func (.func g) #[] #[]) ∧ ρ 9 = .sl (x.orders.map encOrder) ∧ ρ 10 = int (x.orders.length : Nat) ∧ ρ 11 = int k ∧ ρ 5 = int (bitsN p k : Nat), fun ρ _ => x.orders.length - natOf (ρ 11), ⟨0, Nat.zero_le _, by simp only [go_sem], by simp only [go_sem], by simp only [go_sem, List.length_map], (by simp only [go_sem]; rfl), by simp only [go_sem]; rfl⟩, ?_⟩
  rintro ρ H ⟨k, hk, e1, e9, e10, e11, e5⟩
  simp only [go_sem, e1, e9, e10, e11, e5]
  refine acond_i (fun hlt => ?_) (fun hge => ?_)
  · have hlt := ltB hlt
    obtain ⟨o, ho⟩ := getIn hlt
    have b1 := inB hlt
    have hpk : p k = (!o.off && q o) := by rw [← hp]; exact suchB_at ho
    have hbl := bitsN_lt p k
    have hk2 : 2 ^ k ≤ 2 ^ 62 := Nat.pow_le_pow_right (by decide) (by omega)
    simp only [go_sem, e1, e9, e10, e11, e5, getD_map ho, b1]
    refine anew_i fun j hj => ?_
    simp only [go_sem, e1, e9, e10, e11, e5, getD_map ho, b1]
    refine wputE_n (updH_same _ _ _) (by simp [encOrder]) ?_
    simp only [go_sem, e1, e9, e10, e11, e5, getD_map ho, b1, hok]
    refine ⟨_, fun _ => (hg o (List.mem_of_getElem? ho)).q rfl, ?_⟩
    simp only [go_sem, e1, e9, e10, e11, e5]
    refine acond_i (fun hb => ?_) (fun hb => ?_)
    · have q1 := shl_in (i := k) (by omega)
      have q2 := or_nat (a := bitsN p k) (b := 2 ^ k) (by omega) (by omega)
      simp only [go_sem, e1, e9, e10, e11, e5, q1, q2, wrapS (show k ≤ 4611686018427387904 by omega)]
      refine ⟨by omega, ⟨k + 1, hlt, rfl, ?_⟩, by simp only [natOf_int]; omega⟩
      rw [or_low hbl, bitsN, hpk, if_pos hb]
    · simp only [go_sem, e1, e9, e10, e11, e5, wrapS (show k ≤ 4611686018427387904 by omega)]
      refine ⟨⟨k + 1, hlt, rfl, ?_⟩, by simp only [natOf_int]; omega⟩
      rw [bitsN, hpk, if_neg (by rw [hb]; simp), Nat.add_zero]
  · have hge := geB hk hge
    subst hge
    simp only [go_sem, e1, e9, e10, e11, e5]
    exact .refl _
def allO (x : Instance) : Nat := suchN (fun _ => true) x.orders
def mustO (x : Instance) : Nat := suchN (fun o => o.penalty == -1) x.orders
theorem all1_c (o : Order) : PC Tryz.prog 165 [.agg (encOrder o)] (boo true) := by
  refine PC.body (c := Tryz.f165.body.getD .skip) (fun _ => false) mixed Tryz.func165 rfl (by kernel_rfl) ?_
  unfold Tryz.f165
  simp only [Option.getD_some]
  simp only [go_sem]
  exact .refl _
theorem must1_c (o : Order) : PC Tryz.prog 152 [.agg (encOrder o)] (boo (o.penalty == -1)) := by
  refine PC.body (c := Tryz.f152.body.getD .skip) (fun _ => false) mixed Tryz.func152 rfl (by kernel_rfl) ?_
  unfold Tryz.f152
  simp only [Option.getD_some]
  simp only [go_sem]
  exact .refl _
theorem all_c (x : Instance) (hx : x.orders.length ≤ 62) : PC Tryz.prog 99 [.agg (encInstance x)] (int (allO x : Nat)) := by
  refine PC.body (c := Tryz.f99.body.getD .skip) (fun _ => false) mixed Tryz.func99 rfl (by kernel_rfl) ?_
  unfold Tryz.f99
  simp only [Option.getD_some]
  simp only [go_sem]
  refine PC.use (such_c x hx (by kernel_rfl) fun o _ => all1_c o) ?_
  simp only [go_sem]
  exact .refl _
theorem must_c (x : Instance) (hx : x.orders.length ≤ 62) : PC Tryz.prog 84 [.agg (encInstance x)] (int (mustO x : Nat)) := by
  refine PC.body (c := Tryz.f84.body.getD .skip) (fun _ => false) mixed Tryz.func84 rfl (by kernel_rfl) ?_
  unfold Tryz.f84
  simp only [Option.getD_some]
  simp only [go_sem]
  refine PC.use (such_c x hx (by kernel_rfl) fun o _ => must1_c o) ?_
  simp only [go_sem]
  exact .refl _
def existP (n : Nat) (set : Int) : Bool := decide (set ≥ 0) && (set / 2 ^ n == 0)
theorem exist_c (x : Instance) (set : Int) (hx : x.orders.length ≤ 62) : PC Tryz.prog 78 [.agg (encInstance x), int set] (boo (existP x.orders.length set)) := by
  refine PC.body (c := Tryz.f78.body.getD .skip) (fun _ => false) mixed Tryz.func78 rfl (by kernel_rfl) ?_
  unfold Tryz.f78
  simp only [Option.getD_some]
  simp only [go_sem]
  refine ⟨by omega, ?_⟩
  refine cB ?_
  rw [shr_in hx]
  rfl
end Go.Proofs.YtbcfajfngdmgnaaGreatDoor.Nu
end

section
set_option linter.unusedSimpArgs false
set_option linter.unusedVariables false
namespace Go.Proofs.YtbcfajfngdmgnaaGreatDoor.Nu
open Go.Aw Go.Aw.D Go.Proofs Ty Go.Nu
set_option maxRecDepth 100000
theorem indexFuncI_c {g : Nat} {cap : List AV} {p : Int → Bool} (l : List Int) (hl : l.length ≤ 1048576) (hok : callOk Tryz.prog g = true) (hg : ∀ v ∈ l, PC Tryz.prog g (int v :: cap) (boo (p v))) :
    ∃ n : Int, decide (n ≥ 0) = l.any p ∧ PC Tryz.prog 225 [.sl (l.map encInt), .fn g cap] (int n) := by
  refine ⟨match l.findIdx? p with | some i => (i : Int) | none => -1, ?_, ?_⟩
  · cases h : l.findIdx? p with
    | none =>
      have := List.findIdx?_eq_none_iff.1 h
      simp only
      rw [List.any_eq_false.2 (fun x hx => by rw [this x hx]; simp)]
      rfl
    | some i =>
      obtain ⟨hi, hp, _⟩ := List.findIdx?_eq_some_iff_getElem.1 h
      simp only
      rw [List.any_eq_true.2 ⟨l[i], List.getElem_mem hi, hp⟩]
      simp
  ·
    refine PC.body (c := Tryz.f225.body.getD .skip) (fun _ => false) mixed Tryz.func225 rfl (by kernel_rfl) ?_
    unfold Tryz.f225
    simp only [Option.getD_some]
    simp only [go_sem]
    refine ⟨fun ρ H => ∃ (k : Nat), k ≤ l.length ∧ ρ 0 = .sl (l.map encInt) ∧ ρ 1 = .fn g cap ∧ ρ 7 = int (l.length : Nat) ∧ ρ 8 = int k ∧ ∀ u ∈ l.take k, p u = false, fun ρ _ => l.length - natOf (ρ 8), ⟨0, Nat.zero_le _, by simp only [go_sem], by simp only [go_sem], by simp only [go_sem, List.length_map], (by simp only [go_sem]; rfl), by simp⟩, ?_⟩
    rintro ρ H ⟨k, hk, e0, e1, e7, e8, hz⟩
    simp only [go_sem, e0, e1, e7, e8]
    refine acond_i (fun hlt => ?_) (fun hge => ?_)
    · have hlt := ltB hlt
      obtain ⟨u, hu⟩ := getIn hlt
      have b1 := inB hlt
      simp only [go_sem, e0, e1, e7, e8, getD_map hu, b1, hok]
      refine PC.use (hg u (List.mem_of_getElem? hu)) ?_
      simp only [go_sem, e0, e1, e7, e8]
      refine acond_i (fun hb => ?_) (fun hb => ?_)
      · simp only [go_sem, e0, e1, e7, e8]
        have : l.findIdx? p = some k := by
          have hk' : k < l.length := hlt
          refine List.findIdx?_eq_some_iff_getElem.2 ⟨hk', ?_, fun j hj => ?_⟩
          · have := (List.getElem?_eq_some_iff.1 hu).2; rw [this]; exact hb
          · have := hz l[j] (List.mem_take_iff_getElem.2 ⟨j, by omega, rfl⟩); rw [this]; simp
        rw [this]
        exact .refl _
      · simp only [go_sem, e0, e1, e7, e8, wrapS (show k ≤ 4611686018427387904 by omega)]
        exact ⟨⟨k + 1, hlt, rfl, take_all' (p := fun u => p u = false) hu hb hz⟩, by simp only [natOf_int]; omega⟩
    · have hge := geB hk hge
      subst hge
      rw [List.take_length] at hz
      simp only [go_sem]
      rw [List.findIdx?_eq_none_iff.2 hz]
      exact .refl _
theorem containsFuncI_c {g : Nat} {cap : List AV} {p : Int → Bool} (l : List Int) (hl : l.length ≤ 1048576) (hok : callOk Tryz.prog g = true) (hg : ∀ v ∈ l, PC Tryz.prog g (int v :: cap) (boo (p v))) :
    PC Tryz.prog 155 [.sl (l.map encInt), .fn g cap] (boo (l.any p)) := by
  obtain ⟨n, hn, hc⟩ := indexFuncI_c l hl hok hg
  refine PC.body (c := Tryz.f155.body.getD .skip) (fun _ => false) mixed Tryz.func155 rfl (by kernel_rfl) ?_
  unfold Tryz.f155
  simp only [Option.getD_some]
  simp only [go_sem]
  refine PC.use hc ?_
  simp only [go_sem]
  exact cB hn
/-! ### do the loads lie on board together? -/
def orderAt (l : List Order) (i : Int) : Order := l.getD i.toNat ⟨ByteArray.empty, [], ⟨0, 0, 0, 0⟩, ⟨0, 0, 0, 0⟩, 0, 0, 0, 0, 0, false⟩
theorem orderAt_get {l : List Order} {i : Nat} {o : Order} (h : l[i]? = some o) : orderAt l (i : Int) = o := by simp [orderAt, List.getD, h]
def Memb (l : List Order) (ms : List Int) : Prop := ∀ i ∈ ms, 0 ≤ i ∧ i < (l.length : Int)
theorem together11_c (x : Instance) (g : Nat) (q : Order → Int) (i : Int) (hi : 0 ≤ i ∧ i < (x.orders.length : Int)) (hok : callOk Tryz.prog g = true) (hg : ∀ o, PC Tryz.prog g [.agg (encOrder o)] (int (q o))) :
    PC Tryz.prog 156 [int i, .rp [.v (.func (.func g) #[] #[])] 0, .rp (encInstance x) 0] (boo (decide (q (orderAt x.orders i) ≥ 0))) := by
  obtain ⟨n, rfl⟩ := Int.eq_ofNat_of_zero_le hi.1
  have hlt : n < x.orders.length := by omega
  obtain ⟨o, ho⟩ := getIn hlt
  have b1 := inB hlt
  rw [orderAt_get ho]
  refine PC.body (c := Tryz.f156.body.getD .skip) (fun _ => false) mixed Tryz.func156 rfl (by kernel_rfl) ?_
  unfold Tryz.f156
  simp only [Option.getD_some]
  simp only [go_sem]
  refine adraw_q (by rfl) (by kernel_rfl) ?_
  simp only [go_sem, getD_map ho, b1, hok]
  refine ⟨_, (hg o).q rfl, ?_⟩
  simp only [go_sem]
  exact .refl _
theorem togetherP_c (o : Order) : PC Tryz.prog 157 [.agg (encOrder o)] (int o.pick.place) := by
  refine PC.body (c := Tryz.f157.body.getD .skip) (fun _ => false) mixed Tryz.func157 rfl (by kernel_rfl) ?_
  unfold Tryz.f157
  simp only [Option.getD_some]
  simp only [go_sem]
  exact .refl _
theorem togetherD_c (o : Order) : PC Tryz.prog 158 [.agg (encOrder o)] (int o.drop.place) := by
  refine PC.body (c := Tryz.f158.body.getD .skip) (fun _ => false) mixed Tryz.func158 rfl (by kernel_rfl) ?_
  unfold Tryz.f158
  simp only [Option.getD_some]
  simp only [go_sem]
  exact .refl _
theorem together1_c (x : Instance) (g : Nat) (q : Order → Int) (ms : List Int) (hm : Memb x.orders ms) (hl : ms.length ≤ 1048576) (hok : callOk Tryz.prog g = true) (hg : ∀ o, PC Tryz.prog g [.agg (encOrder o)] (int (q o))) :
    PC Tryz.prog 154 [.v (.func (.func g) #[] #[]), .rp [.sl (ms.map encInt)] 0, .rp (encInstance x) 0] (boo (!(ms.any fun i => decide (q (orderAt x.orders i) ≥ 0)))) := by
  refine PC.body (c := Tryz.f154.body.getD .skip) (fun _ => false) mixed Tryz.func154 rfl (by kernel_rfl) ?_
  unfold Tryz.f154
  simp only [Option.getD_some]
  simp only [go_sem]
  refine PC.use (containsFuncI_c (p := fun i => decide (q (orderAt x.orders i) ≥ 0)) ms hl (by kernel_rfl) (fun i hi => together11_c x g q i (hm i hi) hok hg)) ?_
  simp only [go_sem]
  exact .refl _
def togP (x : Instance) (ms : List Int) : Bool := !(ms.any fun i => decide ((orderAt x.orders i).pick.place ≥ 0)) || !(ms.any fun i => decide ((orderAt x.orders i).drop.place ≥ 0))
theorem together_c (x : Instance) (ms : List Int) (hm : Memb x.orders ms) (hl : ms.length ≤ 1048576) : PC Tryz.prog 86 [.agg (encInstance x), .sl (ms.map encInt)] (boo (togP x ms)) := by
  refine PC.body (c := Tryz.f86.body.getD .skip) (fun _ => false) mixed Tryz.func86 rfl (by kernel_rfl) ?_
  unfold Tryz.f86
  simp only [Option.getD_some]
  simp only [go_sem]
  refine PC.use (together1_c x _ (fun o => o.pick.place) ms hm hl (by kernel_rfl) togetherP_c) ?_
  simp only [go_sem]
  refine ⟨_, fun _ => (together1_c x _ (fun o => o.drop.place) ms hm hl (by kernel_rfl) togetherD_c).q rfl, ?_⟩
  simp only [go_sem]
  exact .refl _
end Go.Proofs.YtbcfajfngdmgnaaGreatDoor.Nu
end
