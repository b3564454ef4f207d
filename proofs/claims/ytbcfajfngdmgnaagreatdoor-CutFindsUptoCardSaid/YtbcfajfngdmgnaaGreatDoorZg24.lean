/- Texts joined by a program: CuC. -/
import Derived.Test.YtbcfajfngdmgnaaGreatDoorZg14
import Derived.Test.YtbcfajfngdmgnaaGreatDoorZg23

set_option linter.unusedSimpArgs false
set_option linter.unusedVariables false
namespace Go.Proofs.YtbcfajfngdmgnaaGreatDoor.Nu
open Go.Aw Go.Aw.D Go.Proofs Ty Go.Nu
set_option maxRecDepth 100000
def coefsP (one : Cut) (cols : List Column) : List Int := cols.map fun c => coefP one.kind (one.set.toNat &&& c.set.toNat)
def overP (one : Cut) (s : ByteArray) : ByteArray × Int := if one.kind = 1 then subR s (zed 1) else if one.kind = 2 then subR (zed one.n) s else (dec 0, 0)
def brokenP (one : Cut) (cols : List Column) (rates : List ByteArray) : ByteArray × Int :=
  if rates.length < cols.length then (emp, 2) else
  if (timesR (coefsP one cols) (rates.take cols.length)).2 ≠ 0 then (emp, (timesR (coefsP one cols) (rates.take cols.length)).2) else
  if (overP one (timesR (coefsP one cols) (rates.take cols.length)).1).2 ≠ 0 then (emp, (overP one (timesR (coefsP one cols) (rates.take cols.length)).1).2) else
  if signR (overP one (timesR (coefsP one cols) (rates.take cols.length)).1).1 ≤ 0 then (dec 0, 0) else ((overP one (timesR (coefsP one cols) (rates.take cols.length)).1).1, 0)
theorem sign_zero {s : ByteArray} (hr : rightR s = true) (h : signR s = 0) : s = dec 0 := by
  obtain ⟨x, rfl, _⟩ := right_parts hr
  unfold signR at h
  rw [if_pos hr, valR_ratS, Int.sign_eq_zero_iff_zero] at h
  rw [Rat.num_eq_zero.1 h]
  exact ratS_zero
theorem timesF_right : ∀ (l : List (Int × ByteArray)) (t : ByteArray), rightR t = true → (timesF l t).2 = 0 → rightR (timesF l t).1 = true
  | [], t, h, _ => h
  | p :: l, t, h, h0 => by
    unfold timesF at h0 ⊢
    split at h0
    · next h1 => exact absurd h0 h1
    · next h1 =>
      rw [if_neg h1]
      split at h0
      · next h2 => exact absurd h0 h2
      · next h2 =>
        rw [if_neg h2]
        exact timesF_right l _ (addR_small (by simpa using h2)) h0
theorem times_right {ns : List Int} {xs : List ByteArray} (h : (timesR ns xs).2 = 0) : rightR (timesR ns xs).1 = true := by
  unfold timesR at h ⊢
  split at h
  · cases h
  · next h1 =>
    rw [if_neg h1]
    split at h
    · cases h
    · next h2 => rw [if_neg h2]; exact timesF_right _ _ zero_right h
theorem subR_small {a b : ByteArray} (h : (subR a b).2 = 0) : rightR (subR a b).1 = true := by
  unfold subR at h ⊢
  split at h
  · rename_i hr
    rw [if_pos hr]
    obtain ⟨e, hs⟩ := sumR_small h
    rw [e]; exact rightR_ratS hs
  · cases h
theorem over_right {one : Cut} {s : ByteArray} (hs : rightR s = true) (h : (overP one s).2 = 0) : rightR (overP one s).1 = true := by
  unfold overP at h ⊢
  split at h
  · next h1 => rw [if_pos h1]; exact subR_small h
  · next h1 =>
    rw [if_neg h1]
    split at h
    · next h2 => rw [if_pos h2]; exact subR_small h
    · next h2 => rw [if_neg h2]; exact zero_right
def okCut (one : Cut) : Prop := 0 ≤ one.set ∧ one.set ≤ 9223372036854775807 ∧ -9223372036854775808 ≤ one.n ∧ one.n ≤ 9223372036854775807
theorem broken_c (one : Cut) (cols : List Column) (rates : List ByteArray) (h1 : okCut one) (h2 : ∀ c ∈ cols, 0 ≤ c.set ∧ c.set ≤ 9223372036854775807) (hl : cols.length ≤ 1048576) (hr : rates.length ≤ 1048576) (hs : ∀ s ∈ rates, s.size ≤ 1048576) :
    PC Tryz.prog 15 [.agg (encCut one), .sl (cols.map encColumn), .sl (rates.map Go.Aw.D.encStr)] (.tup [str (brokenP one cols rates).1, int (brokenP one cols rates).2]) := by
  refine PC.body (c := Tryz.f15.body.getD .skip) (fun t => t == 8) mixed Tryz.func15 rfl (by kernel_rfl) ?_
  unfold Tryz.f15
  simp only [Option.getD_some]
  simp only [go_sem]
  refine acond_i (fun hb => ?_) (fun hb => ?_)
  · have hb := ltB hb
    simp only [go_sem]
    rw [show brokenP one cols rates = (emp, 2) from if_pos hb]
    exact .refl _
  have hb : ¬ rates.length < cols.length := by simpa using hb
  unfold brokenP
  rw [if_neg hb]
  simp only [go_sem]
  refine anew_i fun j hj => ?_
  simp only [go_sem, List.length_map]
  refine ⟨fun ρ H => ∃ (k j : Nat), k ≤ cols.length ∧ ρ 1 = .sl (cols.map encColumn) ∧ ρ 2 = .sl (rates.map Go.Aw.D.encStr) ∧ ρ 3 = .rp (encCut one) 0 ∧ ρ 19 = .sl (cols.map encColumn) ∧ ρ 20 = int cols.length ∧ ρ 21 = int k ∧ ρ 8 = .os j ∧ H j = some (intRow (coefsP one (cols.take k))), fun ρ _ => cols.length - natOf (ρ 21),
    ⟨0, j, Nat.zero_le _, by simp only [go_sem], by simp only [go_sem], by simp only [go_sem], by simp only [go_sem], by simp only [go_sem, List.length_map], by simp only [go_sem]; rfl, by simp only [go_sem], updH_same _ _ _⟩, ?_⟩
  clear hj j
  rintro ρ H ⟨k, j, hk, e1, e2, e3, e19, e20, e21, e8, Rj⟩
  simp only [go_sem, e1, e2, e3, e19, e20, e21, e8]
  refine acond_i (fun hlt => ?_) (fun hge => ?_)
  · have hlt := ltB hlt
    obtain ⟨c, hc⟩ := getIn hlt
    have b1 := inB hlt
    simp only [go_sem, e1, e2, e3, e19, e20, e21, e8, getD_map hc, b1]
    have hcs := h2 c (List.mem_of_getElem? hc)
    have hcf := coef_c one.kind one.n one.set.toNat c.set.toNat (by have := h1.2.1; omega) (by omega)
    rw [Int.toNat_of_nonneg h1.1, Int.toNat_of_nonneg hcs.1] at hcf
    refine anew_i fun i hi => ?_
    have nji : j ≠ i := ne_new Rj hi
    simp only [go_sem]
    refine wputE_n (updH_same _ _ _) (by simp [encColumn]) ?_
    generalize hG : updH (updH _ i _) i _ = HG
    have Ri : HG i = some (⟨63, 7, [encColumn c]⟩ : Row) := by rw [← hG, updH_same]; rfl
    have Rj' : HG j = some (intRow (coefsP one (cols.take k))) := by rw [← hG, updH_ne _ _ _ _ nji, updH_ne _ _ _ _ nji]; exact Rj
    clear hG hi Rj
    simp only [go_sem, e1, e2, e3, e19, e20, e21, e8, Ri]
    refine PC.use hcf ?_
    simp only [go_sem, e1, e2, e3, e19, e20, e21, e8]
    refine wappE_i Rj' ⟨rfl, rfl⟩ ⟨rfl, trivial⟩ (by simp only [intRow, coefsP, List.length_map, List.length_take, List.length_cons, List.length_nil]; omega) (fun j' hj' => ?_)
    simp only [go_sem, e1, e2, e3, e19, e20, e21, e8, wrapS (show k ≤ 4611686018427387904 by omega)]
    refine ⟨⟨k + 1, j', hlt, rfl, rfl, ?_⟩, by simp only [natOf_int]; omega⟩
    rw [updH_same]
    simp only [intRow, coefsP, take_succ hc, List.map_append, List.map_cons, List.map_nil]
    rfl
  · have hge := geB hk hge
    subst hge
    rw [List.take_length] at Rj
    have htm := rTimes_c (coefsP one cols) (rates.take cols.length) (fun n hn => by
      unfold coefsP at hn
      obtain ⟨c, _, rfl⟩ := List.mem_map.1 hn
      unfold coefP
      split <;> omega) (by rw [List.length_take]; omega) (fun s hs2 => hs s (List.mem_of_mem_take hs2))
    rw [List.map_take] at htm
    simp only [go_sem, e1, e2, e3, e8, List.length_map]
    refine ⟨⟨by omega, by omega⟩, ?_⟩
    refine PC.useF [j] (.cons _ _ _ _ (.row _ _ _ (by simp only [List.mem_singleton, if_true]; exact Rj) (ConvE.refl _)) (.cons _ _ _ _ (.refl _) .nil)) htm ?_
    have hTR := times_right (ns := coefsP one cols) (xs := rates.take cols.length)
    generalize timesR (coefsP one cols) (rates.take cols.length) = T at *
    simp only [go_sem, e3]
    refine acond_i (fun hc => ?_) (fun hc => ?_)
    · have hc : T.2 ≠ 0 := by simpa using hc
      simp only [go_sem]
      rw [if_pos hc]
      exact .refl _
    have hc : T.2 = 0 := by simpa using hc
    rw [if_neg (by simp [hc])]
    simp only [go_sem, e3]
    have hTr : rightR T.1 = true := hTR hc
    have hTs := right_size' hTr
    refine acond_joinL (fun ρ _ => ρ 12 = int (overP one T.1).2 ∧ ρ 13 = str (overP one T.1).1) ?_ fun Q' hQ _ _ => acond_i (fun h => ?_) (fun h => ?_)
    · rintro ρ H ⟨f12, f13⟩
      simp only [go_sem, f12, f13]
      refine acond_i (fun hd => ?_) (fun hd => ?_)
      · simp only [go_sem, f12]
        rw [if_pos (by simpa using hd)]
        exact .refl _
      have hd : (overP one T.1).2 = 0 := by simpa using hd
      rw [if_neg (by simp [hd])]
      have ho := right_size' (over_right hTr hd)
      simp only [go_sem, f13]
      refine PC.use (rsign_c _ (by omega)) ?_
      simp only [go_sem, f13]
      refine acond_i (fun hs => ?_) (fun hs => ?_)
      · rw [if_pos (by simpa using hs)]
        simp only [go_sem]
        rw [← zero_lit]
        exact .refl _
      · rw [if_neg (by simpa using hs)]
        simp only [go_sem, f13]
        exact .refl _
    · have h : one.kind = 1 := by simpa using h
      have e : overP one T.1 = subR T.1 (zed 1) := if_pos h
      rw [e] at hQ
      simp only [go_sem]
      refine PC.use (rof_c 1 (by decide) (by decide)) ?_
      simp only [go_sem]
      refine PC.use (rSub_c T.1 (zed 1) (by omega) (by have := Go.Nu.zed_size (lt_max (n := (1 : Int).natAbs) (k := 20) (by decide) (by decide)); omega)) ?_
      simp only [go_sem]
      exact hQ _ _ ⟨rfl, rfl⟩
    · have h : one.kind ≠ 1 := by simpa using h
      simp only [go_sem]
      refine acond_i (fun h2 => ?_) (fun h2 => ?_)
      · have h2 : one.kind = 2 := by simpa using h2
        have e : overP one T.1 = subR (zed one.n) T.1 := (if_neg h).trans (if_pos h2)
        rw [e] at hQ
        have hzs := Go.Nu.zed_size (lt_max (n := one.n.natAbs) (k := 20) (by have := h1.2.2; omega) (by decide))
        simp only [go_sem, e3]
        refine PC.use (rof_c one.n h1.2.2.1 h1.2.2.2) ?_
        simp only [go_sem]
        refine PC.use (rSub_c (zed one.n) T.1 (by omega) (by omega)) ?_
        simp only [go_sem]
        exact hQ _ _ ⟨rfl, rfl⟩
      · have h2 : one.kind ≠ 2 := by simpa using h2
        have e : overP one T.1 = (dec 0, 0) := (if_neg h).trans (if_neg h2)
        rw [e] at hQ
        simp only [go_sem]
        exact hQ _ _ ⟨hc ▸ rfl, zero_lit ▸ rfl⟩
theorem broken28_c (one : Cut) (cols : List Column) (rates : List ByteArray) (h1 : okCut one) (h2 : ∀ c ∈ cols, 0 ≤ c.set ∧ c.set ≤ 9223372036854775807) (hl : cols.length ≤ 1048576) (hr : rates.length ≤ 1048576) (hs : ∀ s ∈ rates, s.size ≤ 1048576) :
    PC Tryz.prog 16 [.agg (encCut one), .sl (cols.map encColumn), .sl (rates.map Go.Aw.D.encStr)] (.tup [str (brokenP one cols rates).1, int (brokenP one cols rates).2]) := by
  refine PC.body (c := Tryz.f16.body.getD .skip) (fun t => t == 8) mixed Tryz.func16 rfl (by kernel_rfl) ?_
  unfold Tryz.f16
  simp only [Option.getD_some]
  simp only [go_sem]
  refine acond_i (fun hb => ?_) (fun hb => ?_)
  · have hb := ltB hb
    simp only [go_sem]
    rw [show brokenP one cols rates = (emp, 2) from if_pos hb]
    exact .refl _
  have hb : ¬ rates.length < cols.length := by simpa using hb
  unfold brokenP
  rw [if_neg hb]
  simp only [go_sem]
  refine anew_i fun j hj => ?_
  simp only [go_sem, List.length_map]
  refine ⟨fun ρ H => ∃ (k j : Nat), k ≤ cols.length ∧ ρ 1 = .sl (cols.map encColumn) ∧ ρ 2 = .sl (rates.map Go.Aw.D.encStr) ∧ ρ 3 = .rp (encCut one) 0 ∧ ρ 9 = int k ∧ ρ 8 = .os j ∧ H j = some (intRow (coefsP one (cols.take k))) ∧ ∀ s ∈ rates.take k, rightR s = true, fun ρ _ => cols.length - natOf (ρ 9),
    ⟨0, j, Nat.zero_le _, by simp only [go_sem], by simp only [go_sem], by simp only [go_sem], by simp only [go_sem]; rfl, by simp only [go_sem], updH_same _ _ _, by simp⟩, ?_⟩
  clear hj j
  rintro ρ H ⟨k, j, hk, e1, e2, e3, e9, e8, Rj, hz⟩
  simp only [go_sem, e1, e2, e3, e9, e8]
  refine acond_i (fun hlt => ?_) (fun hge => ?_)
  · have hlt := ltB hlt
    obtain ⟨c, hc⟩ := getIn hlt
    obtain ⟨s, hs0⟩ := getIn (l := rates) (k := k) (by omega)
    have b1 := inB hlt
    have b2 := inB (show k < rates.length by omega)
    simp only [go_sem, e1, e2, e3, e9, e8, getD_map hc, b1, getD_map hs0, b2]
    have hcs := h2 c (List.mem_of_getElem? hc)
    have hcf := coef28_c one.kind one.n one.set.toNat c.set.toNat (by have := h1.2.1; omega) (by omega)
    rw [Int.toNat_of_nonneg h1.1, Int.toNat_of_nonneg hcs.1] at hcf
    refine PC.use (right4_c s (hs s (List.mem_of_getElem? hs0))) ?_
    simp only [go_sem, e1, e2, e3, e9, e8]
    refine acond_i (fun hb => ?_) (fun hb => ?_)
    · simp only [go_sem]
      have : timesR (coefsP one cols) (rates.take cols.length) = (emp, 3) := by
        unfold timesR
        rw [if_neg (by simp [coefsP]; omega), if_pos (any_yes (q := fun x => !rightR x) (k := k) (c := s) (by rw [List.getElem?_take_of_lt hlt]; exact hs0) hb)]
      rw [if_pos (by rw [this]; decide), this]
      exact .refl _
    simp only [go_sem, e1, e2, e3, e9, e8]
    refine adraw_h (by kernel_rfl) ?_
    simp only [go_sem, e1, e2, e3, e9, e8, getD_map hc, b1]
    refine ⟨_, hcf.q rfl, ?_⟩
    simp only [go_sem, e1, e2, e3, e9, e8]
    refine wappE_i Rj ⟨rfl, rfl⟩ ⟨rfl, trivial⟩ (by simp only [intRow, coefsP, List.length_map, List.length_take, List.length_cons, List.length_nil]; omega) (fun j' hj' => ?_)
    simp only [go_sem, e1, e2, e3, e9, e8, wrapS (show k ≤ 4611686018427387904 by omega)]
    refine ⟨⟨k + 1, j', hlt, rfl, rfl, ?_, take_all' hs0 (by simpa using hb) hz⟩, by simp only [natOf_int]; omega⟩
    rw [updH_same]
    simp only [intRow, coefsP, take_succ hc, List.map_append, List.map_cons, List.map_nil]
    rfl
  · have hge := geB hk hge
    subst hge
    rw [List.take_length] at Rj
    have htm := times4_c (coefsP one cols) (rates.take cols.length) (fun n hn => by
      unfold coefsP at hn
      obtain ⟨c, _, rfl⟩ := List.mem_map.1 hn
      unfold coefP
      split <;> omega) (by rw [List.length_take]; omega) (fun s hs2 => hs s (List.mem_of_mem_take hs2))
    rw [List.map_take] at htm
    simp only [go_sem, e1, e2, e3, e8, List.length_map]
    refine ⟨⟨by omega, by omega⟩, ?_⟩
    refine PC.useF [j] (.cons _ _ _ _ (.row _ _ _ (by simp only [List.mem_singleton, if_true]; exact Rj) (ConvE.refl _)) (.cons _ _ _ _ (.refl _) .nil)) htm ?_
    have hTR := times_right (ns := coefsP one cols) (xs := rates.take cols.length)
    generalize timesR (coefsP one cols) (rates.take cols.length) = T at *
    simp only [go_sem, e3]
    refine acond_i (fun hc => ?_) (fun hc => ?_)
    · have hc : T.2 ≠ 0 := by simpa using hc
      simp only [go_sem]
      rw [if_pos hc]
      exact .refl _
    have hc : T.2 = 0 := by simpa using hc
    rw [if_neg (by simp [hc])]
    have hTr : rightR T.1 = true := hTR hc
    have hTs := right_size' hTr
    simp only [go_sem, e3]
    refine acond_join (fun ρ _ => ρ 3 = .rp (encCut one) 0 ∧ ρ 10 = str T.1 ∧ ρ 11 = int (if one.kind = 1 then overP one T.1 else (dec 0, 0)).2 ∧ ρ 12 = str (if one.kind = 1 then overP one T.1 else (dec 0, 0)).1) ?_ fun K hK => acond_i (fun h => ?_) (fun h => ?_)
    rotate_left
    · have h : one.kind = 1 := by simpa using h
      have e : overP one T.1 = subR T.1 (zed 1) := if_pos h
      rw [if_pos h, e] at hK
      simp only [go_sem]
      rw [show (⟨#[49]⟩ : ByteArray) = zed 1 from one_lit.trans (zed_nat 1).symm]
      refine PC.use (sub4_c T.1 (zed 1) (by omega) (by have := Go.Nu.zed_size (lt_max (n := (1 : Int).natAbs) (k := 20) (by decide) (by decide)); omega)) ?_
      simp only [go_sem]
      exact hK _ _ ⟨by simp only [go_sem, e3], by simp only [go_sem], by simp only [go_sem], by simp only [go_sem]⟩
    · have h : one.kind ≠ 1 := by simpa using h
      rw [if_neg h] at hK
      simp only [go_sem]
      exact hK _ _ ⟨by simp only [go_sem, e3], by simp only [go_sem], by simp only [go_sem, hc], by simp only [go_sem]; rw [zero_lit]⟩
    rintro ρ H ⟨f3, f10, f11, f12⟩
    simp only [go_sem, f3]
    refine acond_join (fun ρ _ => ρ 11 = int (overP one T.1).2 ∧ ρ 12 = str (overP one T.1).1) ?_ fun K hK => acond_i (fun h => ?_) (fun h => ?_)
    rotate_left
    · have h : one.kind = 2 := by simpa using h
      have e : overP one T.1 = subR (zed one.n) T.1 := (if_neg (by omega)).trans (if_pos h)
      have hzs := Go.Nu.zed_size (lt_max (n := one.n.natAbs) (k := 20) (by have := h1.2.2; omega) (by decide))
      rw [e] at hK
      simp only [go_sem, f3]
      refine PC.use (of4_c one.n h1.2.2.1 h1.2.2.2) ?_
      simp only [go_sem, f10]
      refine PC.use (sub4_c (zed one.n) T.1 (by omega) (by omega)) ?_
      simp only [go_sem]
      exact hK _ _ ⟨rfl, rfl⟩
    · have h : one.kind ≠ 2 := by simpa using h
      have e : (if one.kind = 1 then overP one T.1 else (dec 0, 0)) = overP one T.1 := by
        split
        · rfl
        · next h3 => exact ((if_neg h3).trans (if_neg h)).symm
      rw [e] at f11 f12
      simp only [go_sem]
      exact hK _ _ ⟨f11, f12⟩
    clear f3 f10 f11 f12
    rintro ρ H ⟨f11, f12⟩
    simp only [go_sem, f11, f12]
    refine acond_i (fun hd => ?_) (fun hd => ?_)
    · simp only [go_sem, f11]
      rw [if_pos (by simpa using hd)]
      exact .refl _
    have hd : (overP one T.1).2 = 0 := by simpa using hd
    rw [if_neg (by simp [hd])]
    have hor := over_right hTr hd
    have ho := right_size' hor
    simp only [go_sem, f12]
    refine PC.use (sign4_c _ (by omega)) ?_
    simp only [go_sem, f12]
    refine acond_i (fun hs => ?_) (fun hs => ?_)
    · rw [if_pos (by have : signR (overP one T.1).1 < 0 := by simpa using hs
                     omega)]
      simp only [go_sem]
      rw [← zero_lit]
      exact .refl _
    · have hs : ¬ signR (overP one T.1).1 < 0 := by simpa using hs
      simp only [go_sem, f12]
      split
      · next h3 => rw [sign_zero hor (by omega)]; exact .refl _
      · exact .refl _
end Go.Proofs.YtbcfajfngdmgnaaGreatDoor.Nu
