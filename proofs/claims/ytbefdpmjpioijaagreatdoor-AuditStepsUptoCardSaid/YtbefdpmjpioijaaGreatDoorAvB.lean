/- lorryref55.step; audit.Steps; lorryref55.Steps; lorrylaw55.AuditSteps -/
import Derived.Test.YtbefdpmjpioijaaGreatDoorAuZ
import Derived.Test.YtbefdpmjpioijaaGreatDoorAvP
import Derived.Test.YtbefdpmjpioijaaGreatDoorAuT
set_option linter.unusedSimpArgs false
set_option linter.unusedVariables false
namespace Go.Proofs.YtbefdpmjpioijaaGreatDoor.Sq
open Go.Aw Go.Aw.D Go.Proofs Ty
open Mv (convI convB convA NC.pc take_allP)
set_option maxRecDepth 100000

theorem step55_c (a b : StepT) (ha : StepB a) (hb : StepB b) : PC Tryz.prog 25 [.agg (encStepT a), .agg (encStepT b)] (int (followP a b)) := by
  have hL := pref_L ha b.now
  have har := ha.routes
  have hbr := hb.routes
  refine PC.body (c := Tryz.f25.body.getD .skip) (fun _ => false) mixed Tryz.func25 rfl (by kernel_rfl) ?_
  unfold Tryz.f25
  simp only [Option.getD_some]
  simp only [go_sem]
  refine acond_i (fun h => ?_) (fun h => ?_)
  · simp only [go_sem]
    exact convI (by unfold followP; rw [if_pos h])
  simp only [go_sem]
  refine PC.use (rprefixes_c a.inst a.plan b.now ha.acc (by omega) fun r hr => by have := (ha.visits r hr).1; omega) ?_
  simp only [go_sem]
  refine acond_i (fun h2 => ?_) (fun h2 => ?_)
  · simp only [go_sem]
    exact convI (by unfold followP; rw [if_neg (by rw [h]; simp), if_pos h2])
  simp only [go_sem]
  refine PC.use (rkeeps_c b.plan _ (by omega) hL.1 (fun r hr => ⟨by have := (hb.visits r hr).1; omega, by have := (hb.visits r hr).2; omega⟩) hL.2) ?_
  simp only [go_sem]
  exact convI (by unfold followP; rw [if_neg (by rw [h]; simp), if_neg (by rw [h2]; simp)])

def sSteps : ByteArray := ⟨#[115,116,101,112,115]⟩
def stepF (l : List StepT) (i : Nat) : List Fault := match l[i]?, l[i + 1]? with
  | some a, some b => errF sSteps (i + 1) (followP a b)
  | _, _ => []
def stepsF (l : List StepT) (k : Nat) : List Fault := (List.range k).flatMap (stepF l)
theorem stepsF_succ {l : List StepT} {k : Nat} {a b : StepT} (ha : l[k]? = some a) (hb : l[k + 1]? = some b) : stepsF l (k + 1) = stepsF l k ++ errF sSteps (k + 1) (followP a b) := by
  unfold stepsF
  rw [List.range_succ, List.flatMap_append]
  simp [stepF, ha, hb]
theorem stepsF_len (l : List StepT) (k : Nat) : (stepsF l k).length ≤ k := by
  have := flat_le (f := stepF l) (c := 1) (List.range k) fun i _ => by
    unfold stepF
    split
    · exact errF_len _ _ _
    · simp
  simp only [List.length_range] at this
  unfold stepsF; omega
theorem asteps_c (l : List StepT) (hl : l.length ≤ 4) (h : ∀ s ∈ l, StepB s) : PC Tryz.prog 12 [.sl (l.map encStepT)] (.sl ((stepsF l (l.length - 1)).map encFault)) := by
  refine PC.body (c := Tryz.f12.body.getD .skip) (fun t => t == 3) mixed Tryz.func12 rfl (by kernel_rfl) ?_
  unfold Tryz.f12
  simp only [Option.getD_some]
  simp only [go_sem]
  refine anew_i fun j hj => ?_
  refine anew_i fun i3 hi3 => ?_
  have nj3 : j ≠ i3 := fun e => by rw [← e, updH_same] at hi3; cases hi3
  generalize hG : updH (updH noRows j _) i3 _ = H0
  have R3 : H0 i3 = some (repRow j) := by rw [← hG, updH_same]
  have Rj : H0 j = some (faultRow []) := by rw [← hG, updH_ne _ _ _ _ nj3, updH_same]; rfl
  clear hG hj hi3 nj3
  simp only [go_sem]
  refine ⟨fun ρ H => ∃ (k j : Nat), k ≤ l.length - 1 ∧ ρ 0 = .sl (l.map encStepT) ∧ ρ 3 = .op i3 0 0 ∧ ρ 4 = int (k + 1 : Nat) ∧ H i3 = some (repRow j) ∧ H j = some (faultRow (stepsF l k)), fun ρ _ => l.length - natOf (ρ 4), ⟨0, j, Nat.zero_le _, by simp only [go_sem], by simp only [go_sem], by simp only [go_sem]; rfl, R3, Rj⟩, ?_⟩
  clear R3 Rj j
  rintro ρ H ⟨k, j, hk, h0, h3, h4, R3, Rj⟩
  simp only [go_sem, h0, h3, h4]
  refine acond_i (fun hlt => ?_) (fun hge => ?_)
  · have hlt : k + 1 < l.length := by simp at hlt; omega
    obtain ⟨a, ha⟩ := getIn (show k < l.length by omega)
    obtain ⟨b, hb⟩ := getIn hlt
    have b1 := inB (show k < l.length by omega)
    have b2 := inB hlt
    have hw : IntKind.i64.wrap (((k + 1 : Nat) : Int) - 1) = (k : Int) := by rw [wrap_in (by omega)]; omega
    simp only [go_sem, h0, h3, h4]
    refine adraw_m [(0, true), (1, true), (2, true), (3, true), (4, true), (5, true), (6, true), (7, true), (8, true), (9, true), (10, false), (11, false)] (by kernel_rfl) ?_
    simp only [go_sem, h0, h3, h4, hw, getD_map ha, getD_map hb, b1, b2]
    have hlen := stepsF_len l k
    refine PC.use (follows_c a b (h a (List.mem_of_getElem? ha)) (h b (List.mem_of_getElem? hb))) ?_
    simp only [go_sem, h0, h3, h4]
    refine add_c i3 j _ sSteps (k + 1) (followP a b) _ _ R3 Rj (by omega) (by decide) (by omega) fun r' j' H' R3' Rj' keep => ?_
    rw [← stepsF_succ ha hb] at Rj'
    have hw2 : IntKind.i64.wrap (((k + 1 : Nat) : Int) + 1) = ((k + 1 + 1 : Nat) : Int) := by rw [wrap_in (by omega)]; omega
    simp only [go_sem, h0, h3, h4, hw2]
    exact ⟨⟨k + 1, j', by omega, rfl, R3', Rj'⟩, by simp only [natOf_int]; omega⟩
  · have hge : k = l.length - 1 := by simp at hge; omega
    subst hge
    simp only [go_sem, h3, R3]
    exact .row _ _ _ Rj (ConvE.refl _)

theorem rsteps_c (l : List StepT) (hl : l.length ≤ 4) (h : ∀ s ∈ l, StepB s) : PC Tryz.prog 13 [.sl (l.map encStepT)] (.sl ((stepsF l (l.length - 1)).map encFault)) := by
  refine PC.body (c := Tryz.f13.body.getD .skip) (fun t => t == 3) mixed Tryz.func13 rfl (by kernel_rfl) ?_
  unfold Tryz.f13
  simp only [Option.getD_some]
  simp only [go_sem]
  refine anew_i fun j hj => ?_
  simp only [go_sem]
  refine ⟨fun ρ H => ∃ (k j : Nat), k ≤ l.length - 1 ∧ ρ 0 = .sl (l.map encStepT) ∧ ρ 3 = .os j ∧ ρ 4 = int (k + 1 : Nat) ∧ H j = some (faultRow (stepsF l k)), fun ρ _ => l.length - natOf (ρ 4), ⟨0, j, Nat.zero_le _, by simp only [go_sem], by simp only [go_sem], by simp only [go_sem]; rfl, updH_same _ _ _⟩, ?_⟩
  clear hj j
  rintro ρ H ⟨k, j, hk, h0, h3, h4, Rj⟩
  simp only [go_sem, h0, h3, h4]
  refine acond_i (fun hlt => ?_) (fun hge => ?_)
  · have hlt : k + 1 < l.length := by simp at hlt; omega
    obtain ⟨a, ha⟩ := getIn (show k < l.length by omega)
    obtain ⟨b, hb⟩ := getIn hlt
    have b1 := inB (show k < l.length by omega)
    have b2 := inB hlt
    have hw : IntKind.i64.wrap (((k + 1 : Nat) : Int) - 1) = (k : Int) := by rw [wrap_in (by omega)]; omega
    have hw2 : IntKind.i64.wrap (((k + 1 : Nat) : Int) + 1) = ((k + 1 + 1 : Nat) : Int) := by rw [wrap_in (by omega)]; omega
    have hlen := stepsF_len l k
    simp only [go_sem, h0, h3, h4]
    refine adraw_m [(0, true), (1, true), (2, true), (3, true), (4, true), (5, true), (6, true), (7, true), (8, true), (9, false), (10, false)] (by kernel_rfl) ?_
    simp only [go_sem, h0, h3, h4, hw, getD_map ha, getD_map hb, b1, b2]
    refine PC.use (step55_c a b (h a (List.mem_of_getElem? ha)) (h b (List.mem_of_getElem? hb))) ?_
    simp only [go_sem, h0, h3, h4]
    refine acond_i (fun hb2 => ?_) (fun hb2 => ?_)
    · simp only [go_sem, h0, h3, h4]
      refine PC.use (rindex_c sSteps (k + 1) (by decide) (by omega)) ?_
      simp only [go_sem, h0, h3, h4]
      refine wappE_i Rj ⟨rfl, rfl⟩ ⟨rfl, trivial⟩ (by simp only [List.length_map, List.length_cons, List.length_nil]; omega) (fun j' hj' => ?_)
      simp only [go_sem, h0, h3, h4, hw2]
      refine ⟨⟨k + 1, j', by omega, rfl, rfl, ?_⟩, by simp only [natOf_int]; omega⟩
      rw [stepsF_succ ha hb, errF_t hb2]
      exact row_app (l' := [⟨followP a b, atF sSteps (k + 1)⟩]) rfl
    · simp only [go_sem, h0, h3, h4, hw2]
      refine ⟨⟨k + 1, j, by omega, rfl, rfl, ?_⟩, by simp only [natOf_int]; omega⟩
      rw [stepsF_succ ha hb, errF_f hb2, List.append_nil]
      exact Rj
  · have hge : k = l.length - 1 := by simp at hge; omega
    subst hge
    simp only [go_sem, h3]
    exact .row _ _ _ Rj (ConvE.refl _)

theorem fits_up {x : Instance} (h : fitsB x 3 = true) : fitsB x 4 = true := by
  unfold fitsB at h ⊢
  simp only [Bool.and_eq_true, decide_eq_true_eq] at h ⊢
  obtain ⟨⟨⟨⟨⟨⟨f1, f2⟩, f3⟩, f4⟩, f5⟩, f6⟩, f7⟩ := h
  exact ⟨⟨⟨⟨⟨⟨by omega, f2⟩, f3⟩, f4⟩, f5⟩, f6⟩, f7⟩
theorem stepB_of {s : StepT} (hf : fitsB s.inst 3 = true) (hp : plainP s.plan = true) : StepB s ∧ PlanB s.plan := by
  obtain ⟨hA, hS, hT, hB⟩ := small_of (fits_up hf) hp
  unfold plainP at hp
  split at hp
  · cases hp
  rename_i hn
  simp only [Bool.or_eq_true, decide_eq_true_eq] at hn
  refine ⟨⟨hA, by omega, fun r hr => ?_⟩, hB⟩
  have := List.all_eq_true.1 hp r hr
  simp only [bigR, Bool.not_eq_true', Bool.or_eq_false_iff, decide_eq_false_iff_not] at this
  omega
theorem steps_all (l : List StepT) : allLen 9 (l.map encStepT) := allLen_map encStepT_len l
def stepRow (l : List StepT) : Row := ⟨48, 9, l.map encStepT⟩
theorem audit55s_c (l : List StepT) (h : ∀ s ∈ l, InB s.inst) : PC Tryz.prog 4 [.sl (l.map encStepT)] (boo true) := by
  refine PC.body (c := Tryz.f4.body.getD .skip) (fun t => t == 3 || t == 53) mixed Tryz.func4 rfl (by kernel_rfl) ?_
  unfold Tryz.f4
  simp only [Option.getD_some]
  simp only [go_sem]
  refine acond_i (fun hb => ?_) (fun hb => ?_)
  · simp only [go_sem]
    refine PC.use ex55_c ?_
    simp only [go_sem]
    exact .refl _
  have hl : l.length ≤ 4 := by simp at hb; omega
  simp only [go_sem]
  refine anew_i fun j hj => ?_
  simp only [go_sem]
  refine ⟨fun ρ H => ∃ (k j : Nat), k ≤ l.length ∧ ρ 0 = .sl (l.map encStepT) ∧ ρ 3 = .os j ∧ ρ 4 = int k ∧ H j = some (stepRow (l.take k)) ∧ ∀ s ∈ l.take k, StepB s, fun ρ _ => l.length - natOf (ρ 4), ⟨0, j, Nat.zero_le _, by simp only [go_sem], by simp only [go_sem], by simp only [go_sem]; rfl, updH_same _ _ _, by simp⟩, ?_⟩
  clear hj j
  rintro ρ H ⟨k, j, hk, h0, h3, h4, Rj, hz⟩
  simp only [go_sem, h0, h3, h4]
  refine acond_i (fun hlt => ?_) (fun hge => ?_)
  · have hlt := le_of_lt_b hlt
    obtain ⟨s, hs⟩ := getIn hlt
    have b1 := inB hlt
    have hI := h s (List.mem_of_getElem? hs)
    simp only [go_sem, h0, h3, h4]
    refine adraw_q (by rfl) (by kernel_rfl) ?_
    simp only [go_sem, h0, h3, h4, getD_map hs, b1]
    refine ⟨_, (fits34_c s.inst 3 hI).q rfl, ?_⟩
    simp only [go_sem, h0, h3, h4, getD_map hs, b1]
    refine ⟨_, fun _ => (plain55_c s.plan).q rfl, ?_⟩
    simp only [go_sem, h0, h3, h4, getD_map hs, b1]
    have hgood : (!fitsB s.inst 3 || !plainP s.plan) = false → StepB s ∧ PlanB s.plan := fun hg => by
      obtain ⟨g1, g2⟩ := Bool.or_eq_false_iff.1 hg
      exact stepB_of (not_f g1) (not_f g2)
    refine ⟨_, fun hg => (check23_c s.inst s.plan (hgood hg).1.acc.insB (hgood hg).2).q rfl, ?_⟩
    simp only [go_sem, h0, h3, h4, getD_map hs, b1]
    refine acond_i (fun hb2 => ?_) (fun hb2 => ?_)
    · simp only [go_sem]
      refine PC.use ex55_c ?_
      simp only [go_sem]
      exact .refl _
    have hs' : StepB s := (hgood (Bool.or_eq_false_iff.1 hb2).1).1
    simp only [go_sem, h0, h3, h4, getD_map hs, b1]
    refine wappE_i Rj ⟨rfl, rfl⟩ ⟨encStepT_len s, trivial⟩ (by simp only [stepRow, List.length_map, List.length_take, List.length_cons, List.length_nil]; omega) (fun j' hj' => ?_)
    simp only [go_sem, h0, h3, h4, wrapS (show k ≤ 4611686018427387904 by omega)]
    refine ⟨⟨k + 1, j', hlt, rfl, rfl, ?_, take_allP (p := fun s => StepB s) hs hs' hz⟩, by simp only [natOf_int]; omega⟩
    rw [updH_same]
    simp only [stepRow, take_succ hs, List.map_append, List.map_cons, List.map_nil]
  · have hge := eq_of_ge_b hk hge
    subst hge
    rw [List.take_length] at Rj hz
    simp only [go_sem, h0, h3]
    refine afreeze_i (by simp only [go_sem, h3]) Rj fun Hr hr0 hr => ?_
    simp only [go_sem, h0, h3, stepRow]
    refine PC.use (asteps_c l hl hz) ?_
    simp only [go_sem, h0]
    refine PC.use (rsteps_c l hl hz) ?_
    have hF := stepsF_len l (l.length - 1)
    generalize stepsF l (l.length - 1) = fl at hF ⊢
    simp only [go_sem, h0]
    refine PC.use (faults_c fl (by omega)) ?_
    simp only [go_sem]
    refine ⟨_, ex55_c.q rfl, ?_⟩
    simp only [go_sem]
    exact .refl _
end Go.Proofs.YtbefdpmjpioijaaGreatDoor.Sq
