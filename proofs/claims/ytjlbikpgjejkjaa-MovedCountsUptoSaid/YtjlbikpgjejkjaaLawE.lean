/- DecideRoutes: decisions that a plan fulfils allow the columns of its routes. -/
import Derived.Test.YtjlbikpgjejkjaaLawD
set_option linter.unusedSimpArgs false
set_option linter.unusedVariables false
namespace Go.Proofs.Ytjlbikpgjejkjaa.Dec
open Go.Aw Go.Aw.D Go.Proofs Ty
set_option maxRecDepth 100000

theorem uwrap_in {n : Int} (h : 0 ≤ n ∧ n < 18446744073709551616) : IntKind.u64.wrap n = n := by
  have e : IntKind.u64.wrap n = n % 18446744073709551616 := rfl
  rw [e]; omega
theorem holds_allows {x : Instance} {l : List Decision} {p : Plan} (hs : ∀ r ∈ p.routes, smallV r) (h : HoldsR x l p = true) {r : Route} (hr : r ∈ p.routes) : (l.all fun d => allowsR d (setN r.visits : Nat)) = true := by
  rw [List.all_eq_true]
  intro d hd
  have h1 := List.all_eq_true.1 h d hd
  simp only [holdsR, Bool.and_eq_true] at h1
  have h2 := List.all_eq_true.1 h1.1
  rw [sets_eq hs] at h2
  exact h2 _ (List.mem_map_of_mem hr)
theorem routesLaw_c (x : Instance) (l : List Decision) (p : Plan) (hx : bInstance 1048576 x) (hl : bL bDecision 1048576 l) (hp : bPlan 1048576 p) :
    PC Try.prog 11 [.agg (encInstance x), .sl (l.map encDecision), .agg (encPlan p)] (.v (.bool true)) := by
  have hpb := planB hp
  refine PC.body (c := Try.f11.body.getD .skip) (fun _ => false) mixed Try.func11 rfl (by kernel_rfl) ?_
  unfold Try.f11
  simp only [Option.getD_some]
  simp only [go_sem]
  refine PC.use (right_c x l (inB_of hx) hl.1) ?_
  simp only [go_sem]
  refine ⟨_, fun _ => (plain_c x p hpb.1 hpb.2).q rfl, ?_⟩
  simp only [go_sem]
  refine ⟨_, fun _ => (Holds_c x l p (bI_types hx) hl.1 hpb.1 hpb.2).q rfl, ?_⟩
  simp only [go_sem]
  refine acond_i (fun hb => ?_) (fun hb => ?_)
  · simp only [go_sem]
    refine PC.use examples_c ?_
    simp only [go_sem]
    exact .refl _
  have hb2 := hb
  simp only [Bool.or_eq_false_iff, Bool.not_eq_false'] at hb2
  obtain ⟨⟨h1, h2⟩, h3⟩ := hb2
  obtain ⟨_, _, ho, _⟩ := right_spec h1
  have hpl := plain_spec h2
  have hsm : ∀ r ∈ p.routes, smallV r := fun r hr => hpl.small ho hr
  simp only [go_sem]
  refine ⟨fun ρ _ => ∃ k : Nat, k ≤ p.routes.length ∧ ρ 1 = .sl (l.map encDecision) ∧ ρ 31 = .sl (p.routes.map encRoute) ∧ ρ 32 = int p.routes.length ∧ ρ 33 = int k, fun ρ _ => p.routes.length - natOf (ρ 33), ⟨0, Nat.zero_le _, rfl, rfl, rfl, rfl⟩, ?_⟩
  rintro ρ H ⟨k, hk, h1, h31, h32, h33⟩
  simp only [go_sem, h1, h31, h32, h33]
  refine acond_i (fun hlt => ?_) (fun hge => ?_)
  · have hlt := le_of_lt_b hlt
    obtain ⟨r, hr⟩ := getIn hlt
    have b1 := inB hlt
    have hrm := List.mem_of_getElem? hr
    have hvr := hsm r hrm
    simp only [go_sem, h1, h31, h32, h33, getD_map hr, b1]
    refine anew_i fun j hj => ?_
    simp only [go_sem, h1, h31, h32, h33, getD_map hr, b1]
    refine wputE_n (updH_same _ _ _) (by simp [encRoute_len]) ?_
    simp only [go_sem, h1, h31, h32, h33, getD_map hr, b1]
    refine ⟨fun ρ H => ∃ i : Nat, i ≤ r.visits.length ∧ ρ 1 = .sl (l.map encDecision) ∧ ρ 8 = .op j 0 0 ∧ ρ 31 = .sl (p.routes.map encRoute) ∧ ρ 32 = int p.routes.length ∧ ρ 33 = int k ∧ ρ 38 = .sl (r.visits.map encVisit) ∧ ρ 39 = int r.visits.length ∧ ρ 40 = int i ∧ ρ 9 = int (setN (r.visits.take i) : Nat) ∧ H j = some ⟨64, 4, [encRoute r]⟩, fun ρ _ => r.visits.length - natOf (ρ 40), ⟨0, Nat.zero_le _, by simp only [go_sem, h1], by simp only [go_sem], by simp only [go_sem, h31], by simp only [go_sem, h32], by simp only [go_sem, h33], by simp only [go_sem], by simp only [go_sem], by simp only [go_sem]; rfl, by simp only [go_sem]; rfl, updH_same _ _ _⟩, ?_⟩
    clear h1 h31 h32 h33 hj
    rintro ρ H ⟨i, hi, h1, h8, h31, h32, h33, h38, h39, h40, h9, hj⟩
    simp only [go_sem, h1, h8, h31, h32, h33, h38, h39, h40, h9]
    refine acond_i (fun hlt2 => ?_) (fun hge2 => ?_)
    · have hlt2 := le_of_lt_b hlt2
      obtain ⟨v, hvk⟩ := getIn hlt2
      have b2 := inB hlt2
      have hv2 := hvr.2 v (List.mem_of_getElem? hvk)
      have hs : setN (r.visits.take i) < 2 ^ 62 := setN_lt _ fun v hm => by have := hvr.2 v (List.mem_of_mem_take hm); omega
      have e1 := shl_in (i := v.order.toNat) (by omega)
      rw [Int.toNat_of_nonneg hv2.1] at e1
      have ew : IntKind.u64.wrap v.order = v.order := uwrap_in (by omega)
      have e2 := or_nat (a := setN (r.visits.take i)) (b := 2 ^ v.order.toNat) (by omega) (Nat.pow_lt_pow_right (by decide) (by omega))
      simp only [go_sem, h1, h8, h31, h32, h33, h38, h39, h40, h9, getD_map hvk, b2]
      refine anew_i fun i2 hi2 => ?_
      have hne : j ≠ i2 := ne_new hj hi2
      simp only [go_sem, h1, h8, h31, h32, h33, h38, h39, h40, h9, getD_map hvk, b2]
      refine wputE_n (updH_same _ _ _) (by simp [encVisit_len]) ?_
      simp only [go_sem, h1, h8, h31, h32, h33, h38, h39, h40, h9, getD_map hvk, b2, ew, e1, e2, wrapS (show i ≤ 4611686018427387904 by have := hvr.1; omega)]
      refine ⟨hv2.1, ⟨i + 1, hlt2, rfl, ?_, by rw [updH_ne _ _ _ _ hne, updH_ne _ _ _ _ hne]; exact hj⟩, by simp only [natOf_int]; omega⟩
      rw [take_succ hvk, setN_app]
    · have hge2 := eq_of_ge_b hi hge2
      subst hge2
      simp only [go_sem, h1, h8, h31, h32, h33, h9, hj]
      rw [List.take_length]
      refine PC.use (Allows_c l ⟨r.type, (setN r.visits : Nat), 0, ⟨0, 0, [], []⟩⟩ hl.1) ?_
      simp only [go_sem, h1, h8, h31, h32, h33]
      rw [holds_allows hsm h3 hrm]
      refine acond_i (fun hb => by simp at hb) (fun _ => ?_)
      simp only [go_sem, h1, h8, h31, h32, h33, wrapS (show k ≤ 4611686018427387904 by omega)]
      exact ⟨⟨k + 1, hlt, rfl⟩, by simp only [natOf_int]; omega⟩
  · simp only [go_sem]
    refine PC.use examples_c ?_
    simp only [go_sem]
    exact .refl _
end Go.Proofs.Ytjlbikpgjejkjaa.Dec
