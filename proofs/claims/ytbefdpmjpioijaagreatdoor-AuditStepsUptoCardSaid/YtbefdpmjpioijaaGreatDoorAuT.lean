/- lorrylaw34.Fits, lorrylaw55.{plain, faults, exampleHolds, AuditPlans} -/
import Derived.Test.YtbefdpmjpioijaaGreatDoorAuN
set_option linter.unusedSimpArgs false
set_option linter.unusedVariables false
namespace Go.Proofs.YtbefdpmjpioijaaGreatDoor.Sq
open Go.Aw Go.Aw.D Go.Proofs Ty
open Mv (convI convB convA NC.pc take_allP)
set_option maxRecDepth 100000

def fitsB (x : Instance) (n : Int) : Bool := (((((decide ((x.orders.length : Int) ≤ n) && decide ((x.types.length : Int) ≤ 2)) && decide ((x.net.places.length : Int) ≤ 6)) && decide ((x.net.arcs.length : Int) ≤ 40)) && decide ((x.apart.length : Int) ≤ 4)) && decide ((x.before.length : Int) ≤ 4)) && (((checkR x).length : Int) == 0)
theorem fits34_c (x : Instance) (n : Int) (h : InB x) : PC Tryz.prog 5 [.agg (encInstance x), int n] (boo (fitsB x n)) := by
  refine PC.body (c := Tryz.f5.body.getD .skip) (fun _ => false) mixed Tryz.func5 rfl (by kernel_rfl) ?_
  unfold Tryz.f5
  simp only [Option.getD_some]
  simp only [go_sem]
  refine ⟨_, fun _ => (NC.pc (check_c x h)).qn, ?_⟩
  simp only [go_sem, List.length_map]
  exact .refl _
def bigR (r : Route) : Bool := decide ((r.visits.length : Int) > 8) || decide ((r.rests.length : Int) > 9)
def plainP (p : Plan) : Bool := if (decide ((p.routes.length : Int) > 5) || decide ((p.unserved.length : Int) > 8)) = true then false else p.routes.all fun r => !bigR r
theorem plain55_c (p : Plan) : PC Tryz.prog 6 [.agg (encPlan p)] (boo (plainP p)) := by
  refine PC.body (c := Tryz.f6.body.getD .skip) (fun _ => false) mixed Tryz.func6 rfl (by kernel_rfl) ?_
  unfold Tryz.f6
  simp only [Option.getD_some]
  simp only [go_sem]
  refine acond_i (fun hb => ?_) (fun hb => ?_)
  · simp only [go_sem]
    exact convB (by unfold plainP; rw [if_pos hb])
  have hb' := hb
  simp only [Bool.or_eq_false_iff, decide_eq_false_iff_not] at hb'
  simp only [go_sem]
  refine ⟨fun ρ _ => ∃ k : Nat, k ≤ p.routes.length ∧ ρ 1 = .rp (encPlan p) 0 ∧ ρ 3 = int k ∧ ∀ r ∈ p.routes.take k, bigR r = false, fun ρ _ => p.routes.length - natOf (ρ 3), ⟨0, Nat.zero_le _, rfl, rfl, by simp⟩, ?_⟩
  rintro ρ H ⟨k, hk, h1, h3, hz⟩
  simp only [go_sem, h1, h3]
  refine acond_i (fun hlt => ?_) (fun hge => ?_)
  · have hlt := le_of_lt_b hlt
    obtain ⟨r, hr⟩ := getIn hlt
    have b1 := inB hlt
    simp only [go_sem, h1, h3, getD_map hr, b1]
    refine acond_i (fun hb2 => ?_) (fun hb2 => ?_)
    · simp only [go_sem]
      refine convB ?_
      unfold plainP
      rw [if_neg (by rw [hb]; simp)]
      exact (all_hit hr (by rw [show bigR r = true from hb2]; rfl)).symm
    · simp only [go_sem, h1, h3, wrapS (show k ≤ 4611686018427387904 by omega)]
      exact ⟨⟨k + 1, hlt, rfl, take_allP (p := fun r => bigR r = false) hr (show bigR r = false from hb2) hz⟩, by simp only [natOf_int]; omega⟩
  · have hge := eq_of_ge_b hk hge
    subst hge
    simp only [go_sem]
    refine convB ?_
    unfold plainP
    rw [if_neg (by rw [hb]; simp)]
    exact (all_none fun r hr => by rw [hz r hr]; rfl).symm
theorem faults_c (l : List Fault) (hl : l.length ≤ 4611686018427387904) : PC Tryz.prog 9 [.sl (l.map encFault), .sl (l.map encFault)] (boo true) := by
  refine PC.body (c := Tryz.f9.body.getD .skip) (fun _ => false) mixed Tryz.func9 rfl (by kernel_rfl) ?_
  unfold Tryz.f9
  simp only [Option.getD_some]
  simp only [go_sem]
  refine acond_i (fun hb => ?_) (fun hb => ?_)
  · simp at hb
  simp only [go_sem]
  refine ⟨fun ρ _ => ∃ k : Nat, k ≤ l.length ∧ ρ 0 = .sl (l.map encFault) ∧ ρ 1 = .sl (l.map encFault) ∧ ρ 5 = int k, fun ρ _ => l.length - natOf (ρ 5), ⟨0, Nat.zero_le _, rfl, rfl, rfl⟩, ?_⟩
  rintro ρ H ⟨k, hk, h0, h1, h5⟩
  simp only [go_sem, h0, h1, h5]
  refine acond_i (fun hlt => ?_) (fun hge => ?_)
  · have hlt := le_of_lt_b hlt
    obtain ⟨f, hf⟩ := getIn hlt
    have b1 := inB hlt
    simp only [go_sem, h0, h1, h5, getD_map hf, b1]
    refine adraw_q (by rfl) (by kernel_rfl) ?_
    simp only [go_sem, h0, h1, h5, getD_map hf, b1]
    rw [show eqCells [0, 1] (encFault f) (encFault f) = some true by simp [encFault, eqCells, eqCell, andO]]
    simp only [go_sem]
    refine acond_i (fun hb2 => ?_) (fun hb2 => ?_)
    · simp at hb2
    · simp only [go_sem, h0, h1, h5, wrapS (show k ≤ 4611686018427387904 by omega)]
      exact ⟨⟨k + 1, hlt, rfl⟩, by simp only [natOf_int]; omega⟩
  · simp only [go_sem]
    exact .refl _
def exN : VType := ⟨⟨#[97]⟩, 1, 0, 0, [5], 0, 0, 0, 100, 50, 0, 0, 0, 0⟩
def exO : Order := ⟨⟨#[111]⟩, [1], ⟨-1, 0, 0, 0⟩, ⟨0, 0, 90, 0⟩, 0, -1, 1, -1, -1, false⟩
def exI : Instance := ⟨⟨[⟨#[72, 117, 98]⟩], []⟩, [exN], [exO], [], []⟩
def exP : Plan := ⟨[], [0, 5]⟩
theorem exE : EvalB exI := ⟨⟨by decide, by simp [exI], by simp [exI]⟩, ⟨by decide, by simp [exI, exO, dims17, exN], by decide⟩, by decide, by decide⟩
theorem exS' : PlanS exI exP := ⟨by decide, by decide, by decide, by decide, by simp [exP]⟩
def exL : List Fault := [⟨23, ⟨#[111,114,100,101,114,115,46,48]⟩⟩, ⟨7, ⟨#[117,110,115,101,114,118,101,100,46,49]⟩⟩]
theorem exF : planF (evR exI) exI exP = exL := by kernel_rfl
theorem ex55_c : PC Tryz.prog 7 [] (boo true) := by
  refine PC.body (c := Tryz.f7.body.getD .skip) (fun _ => false) mixed Tryz.func7 rfl (by kernel_rfl) ?_
  unfold Tryz.f7
  simp only [Option.getD_some]
  simp only [go_sem]
  refine anew_i fun j1 hj => ?_
  have R1 := updH_same noRows j1 (some ⟨30, 6, [[.sl [], .sl [], .sl [], .sl [], .sl [], .sl []]]⟩)
  generalize updH noRows j1 _ = H1 at R1 ⊢
  clear hj
  simp only [go_sem]
  refine wputE_n R1 (by simp) ?_
  simp only [go_sem]
  generalize hG : updH H1 j1 _ = H2
  have R2 : H2 j1 = some ⟨30, 6, [encInstance { exI with orders := [] }]⟩ := by rw [← hG, updH_same]; rfl
  clear hG R1
  refine wputE_1 so27 R2 ⟨by simp, rfl, by simp⟩ ?_
  generalize hG : updH H2 j1 _ = H3
  have R3 : H3 j1 = some ⟨30, 6, [encInstance exI]⟩ := by rw [← hG, updH_same]; rfl
  clear hG R2
  simp only [go_sem, R3]
  refine PC.use (aplan_c exI exP exE exS') ?_
  rw [exF]
  simp only [go_sem]
  refine ⟨fun _ => ⟨by decide, rfl⟩, fun _ => by decide, ?_⟩
  rw [show eqCells [0, 1] (List.take 2 ((List.map encFault exL).getD 0 [])) [.v (.int .i64 23), .v (.string ⟨#[111, 114, 100, 101, 114, 115, 46, 48]⟩)] = some true by decide +kernel]
  simp only [go_sem]
  refine ⟨fun _ => ⟨by decide, rfl⟩, fun _ => by decide, ?_⟩
  rw [show eqCells [0, 1] (List.take 2 ((List.map encFault exL).getD 1 [])) [.v (.int .i64 7), .v (.string ⟨#[117, 110, 115, 101, 114, 118, 101, 100, 46, 49]⟩)] = some true by decide +kernel]
  simp only [go_sem]
  exact convB (by decide)
theorem small_of {x : Instance} {p : Plan} (hf : fitsB x 4 = true) (hp : plainP p = true) : Acc x ∧ PlanS x p ∧ PlanT x p ∧ PlanB p := by
  unfold fitsB at hf
  simp only [Bool.and_eq_true, decide_eq_true_eq, beq_iff_eq] at hf
  obtain ⟨⟨⟨⟨⟨⟨f1, f2⟩, f3⟩, f4⟩, f5⟩, f6⟩, f7⟩ := hf
  have f7 : checkR x = [] := List.eq_nil_of_length_eq_zero (by omega)
  unfold plainP at hp
  split at hp
  · cases hp
  rename_i hn
  simp only [Bool.or_eq_true, decide_eq_true_eq] at hn
  have hv : ∀ r ∈ p.routes, r.visits.length ≤ 8 := fun r hr => by
    have := List.all_eq_true.1 hp r hr
    simp only [bigR, Bool.not_eq_true', Bool.or_eq_false_iff, decide_eq_false_iff_not] at this
    omega
  exact ⟨acc_of f7, ⟨by omega, by omega, by omega, by omega, fun r hr => by have := hv r hr; omega⟩, ⟨by omega, by omega, by omega, by omega, fun r hr => by have := hv r hr; omega⟩, ⟨by omega, fun r hr => by have := hv r hr; omega, by omega⟩⟩
theorem planF_len (ev : Route → Int) {x : Instance} {p : Plan} (h : PlanS x p) : (planF ev x p).length ≤ 1000 := by
  have h1 := routesF_len ev p.routes p.routes.length
  have h2 := ordersF_len x p x.orders.length
  have h3 := unservedF_len x p p.unserved.length
  have h4 := typesF_len x p x.types.length
  have := h.routes; have := h.unserved; have := h.orders; have := h.types
  unfold planF
  split
  · simp
  · simp only [List.length_append]; omega
theorem audit55_c (x : Instance) (p : Plan) (h : InB x) : PC Tryz.prog 3 [.agg (encInstance x), .agg (encPlan p)] (boo true) := by
  refine PC.body (c := Tryz.f3.body.getD .skip) (fun _ => false) mixed Tryz.func3 rfl (by kernel_rfl) ?_
  unfold Tryz.f3
  simp only [Option.getD_some]
  simp only [go_sem]
  refine PC.use (fits34_c x 4 h) ?_
  simp only [go_sem]
  refine ⟨_, fun _ => (plain55_c p).q rfl, ?_⟩
  simp only [go_sem]
  refine acond_i (fun hb => ?_) (fun hb => ?_)
  · simp only [go_sem]
    refine PC.use ex55_c ?_
    simp only [go_sem]
    exact .refl _
  obtain ⟨hf, hp⟩ := Bool.or_eq_false_iff.1 hb
  have hf : fitsB x 4 = true := not_f hf
  have hp : plainP p = true := not_f hp
  obtain ⟨hA, hS, hT, hB⟩ := small_of hf hp
  have hF := plan_nil hA (p := p) (by have := hS.routes; omega) (by have := hS.unserved; omega)
  have hl := planF_len (evE x) hS
  simp only [go_sem]
  refine PC.use (aplan_c x p hA.evalB hS) ?_
  rw [hA.evs]
  simp only [go_sem]
  refine PC.use (rplan_c x p hA.insB hT) ?_
  generalize planF (evE x) x p = l at hF hl ⊢
  simp only [go_sem]
  refine PC.use (faults_c l (by omega)) ?_
  simp only [go_sem]
  refine ⟨_, fun _ => (check23_c x p hA.insB hB).q rfl, ?_⟩
  simp only [go_sem, List.length_map]
  refine acond_i (fun hb2 => ?_) (fun hb2 => ?_)
  · exfalso
    have e : ((l.length : Int) == 0) = (check23 x p == 0) := by
      rw [Bool.eq_iff_iff, beq_iff_eq, beq_iff_eq, ← hF, ← List.length_eq_zero_iff]
      omega
    rw [e] at hb2
    simp at hb2
  simp only [go_sem]
  refine PC.use ex55_c ?_
  simp only [go_sem]
  exact .refl _
end Go.Proofs.YtbefdpmjpioijaaGreatDoor.Sq
