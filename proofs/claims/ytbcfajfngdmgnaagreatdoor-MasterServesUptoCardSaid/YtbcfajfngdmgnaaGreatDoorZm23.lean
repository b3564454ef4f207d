/- Texts joined by a program: NuZd. -/
import Derived.Test.YtbcfajfngdmgnaaGreatDoorZm22

set_option linter.unusedSimpArgs false
set_option linter.unusedVariables false
namespace Go.Proofs.YtbcfajfngdmgnaaGreatDoor.Nu
open Go.Aw Go.Aw.D Go.Proofs Ty Go.Nu
set_option maxRecDepth 100000
theorem times4_c (ns : List Int) (xs : List ByteArray) (hn : ∀ n ∈ ns, -9223372036854775808 ≤ n ∧ n ≤ 9223372036854775807) (hl : xs.length ≤ 1048576) (hs : ∀ s ∈ xs, s.size ≤ 1048576) :
    PC Tryz.prog 61 [.sl (ns.map encInt), .sl (xs.map Go.Aw.D.encStr)] (.tup [str (timesR ns xs).1, int (timesR ns xs).2]) := by
  refine PC.body (c := Tryz.f61.body.getD .skip) (fun _ => false) mixed Tryz.func61 rfl (by kernel_rfl) ?_
  unfold Tryz.f61
  simp only [Option.getD_some]
  simp only [go_sem]
  refine acond_i (fun hne => ?_) (fun heq => ?_)
  · have hne : ns.length ≠ xs.length := neN hne
    simp only [go_sem]
    rw [show timesR ns xs = (emp, 2) from if_pos hne]
    exact .refl _
  have heq : ns.length = xs.length := eqN heq
  have e0 : timesR ns xs = if xs.any (fun x => !rightR x) = true then (emp, 3) else timesF (ns.zip xs) (dec 0) := if_neg (by simp [heq])
  rw [e0]
  simp only [go_sem, List.length_map]
  refine ⟨fun ρ H => ∃ (k : Nat), k ≤ xs.length ∧ ρ 0 = .sl (ns.map encInt) ∧ ρ 1 = .sl (xs.map Go.Aw.D.encStr) ∧ ρ 6 = int k ∧ ∀ s ∈ xs.take k, rightR s = true, fun ρ _ => xs.length - natOf (ρ 6),
    ⟨0, Nat.zero_le _, by simp only [go_sem], by simp only [go_sem], by simp only [go_sem]; rfl, by simp⟩, ?_⟩
  rintro ρ H ⟨k, hk, h0, h1, h6, hz⟩
  simp only [go_sem, h0, h1, h6, List.length_map]
  refine acond_i (fun hlt => ?_) (fun hge => ?_)
  · have hlt := ltB hlt
    obtain ⟨s, hs0⟩ := getIn hlt
    have b1 := inB hlt
    simp only [go_sem, h0, h1, h6, getD_map hs0, b1]
    refine PC.use (right4_c s (hs s (List.mem_of_getElem? hs0))) ?_
    simp only [go_sem, h0, h1, h6]
    refine acond_i (fun hb => ?_) (fun hb => ?_)
    · simp only [go_sem]
      rw [if_pos (any_yes hs0 hb)]
      exact .refl _
    · simp only [go_sem, h0, h1, h6, wrapS (show k ≤ 4611686018427387904 by omega)]
      exact ⟨⟨k + 1, hlt, rfl, take_all' hs0 (by simpa using hb) hz⟩, by simp only [natOf_int]; omega⟩
  have hge := geB hk hge
  subst hge
  rw [List.take_length] at hz
  have hR : xs.any (fun s => !rightR s) = false := any_none fun s hs => by rw [hz s hs]; rfl
  rw [hR]
  simp only [go_sem, h0, h1, List.length_map]
  refine ⟨fun ρ H => ∃ (k : Nat) (t : ByteArray), k ≤ xs.length ∧ ρ 0 = .sl (ns.map encInt) ∧ ρ 1 = .sl (xs.map Go.Aw.D.encStr) ∧ ρ 7 = str t ∧ ρ 8 = int k ∧ t.size ≤ 1048576 ∧ timesF (ns.zip xs) (dec 0) = timesF ((ns.zip xs).drop k) t, fun ρ _ => xs.length - natOf (ρ 8),
    ⟨0, dec 0, Nat.zero_le _, by simp only [go_sem, h0], by simp only [go_sem, h1], by simp only [go_sem]; rw [zero_lit], by simp only [go_sem]; rfl, by rw [← zero_lit]; decide, rfl⟩, ?_⟩
  clear h0 h1 h6
  rintro ρ H ⟨k, t, hk, h0, h1, h7, h8, ht, hinv⟩
  rw [hinv]
  have hzl : (ns.zip xs).length = xs.length := by rw [List.length_zip]; omega
  simp only [go_sem, h0, h1, h7, h8, List.length_map, heq]
  refine acond_i (fun hlt => ?_) (fun hge => ?_)
  · have hlt := ltB hlt
    obtain ⟨s, hs0⟩ := getIn hlt
    obtain ⟨n, hn0⟩ := getIn (l := ns) (k := k) (by omega)
    have b1 := inB hlt
    have b2 := inB (show k < ns.length by omega)
    have hss := hs s (List.mem_of_getElem? hs0)
    have hnn := hn n (List.mem_of_getElem? hn0)
    have hz0 : (ns.zip xs)[k]? = some (n, s) := by rw [List.getElem?_zip_eq_some]; exact ⟨hn0, hs0⟩
    have hnm : n.natAbs < maxN := lt_max (k := 20) (by omega) (by decide)
    have hzs := Go.Nu.zed_size hnm
    rw [drop_at hz0, timesF]
    simp only [go_sem, h0, h1, h7, h8]
    refine adraw_q (by rfl) (by kernel_rfl) ?_
    simp only [go_sem, h0, h1, h7, h8, getD_map hs0, getD_map hn0, b1, b2, List.length_map]
    refine ⟨_, (of4_c n hnn.1 hnn.2).q rfl, ?_⟩
    simp only [go_sem, h0, h1, h7, h8, getD_map hs0, getD_map hn0, b1, b2, List.length_map]
    refine ⟨_, (mul4_c (zed n) s (by omega) hss).q rfl, ?_⟩
    simp only [go_sem, h0, h1, h7, h8]
    refine acond_i (fun hb => ?_) (fun hb => ?_)
    · have hb : (mulR (zed n) s).2 ≠ 0 := by simpa using hb
      simp only [go_sem]
      rw [if_pos hb]
      exact .refl _
    have hb : (mulR (zed n) s).2 = 0 := by simpa using hb
    have hm := right_size' (mulR_small hb)
    rw [if_neg (by simp [hb])]
    generalize (mulR (zed n) s).1 = m at *
    simp only [go_sem, h0, h1, h7, h8]
    refine PC.use (add4_c t m ht (by omega)) ?_
    simp only [go_sem, h0, h1, h7, h8]
    refine acond_i (fun hb2 => ?_) (fun hb2 => ?_)
    · have hb2 : (addR t m).2 ≠ 0 := by simpa using hb2
      simp only [go_sem]
      rw [if_pos hb2]
      exact .refl _
    have hb2 : (addR t m).2 = 0 := by simpa using hb2
    have ha := right_size' (addR_small hb2)
    rw [if_neg (by simp [hb2])]
    simp only [go_sem, h0, h1, h7, h8, wrapS (show k ≤ 4611686018427387904 by omega)]
    exact ⟨⟨k + 1, _, hlt, rfl, rfl, by omega, rfl⟩, by simp only [natOf_int]; omega⟩
  · have hge := geB hk hge
    subst hge
    rw [List.drop_of_length_le (by omega)]
    simp only [go_sem, h7]
    exact .refl _
end Go.Proofs.YtbcfajfngdmgnaaGreatDoor.Nu
