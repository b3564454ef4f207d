/- lorryref46.Count -/
import Derived.Test.YtjlbikpgjejkjaaRefO
set_option linter.unusedSimpArgs false
set_option linter.unusedVariables false
namespace Go.Proofs.Ytjlbikpgjejkjaa
open Go.Aw Go.Aw.D Go.Proofs Ty
set_option maxRecDepth 100000

def diffsR (la lb : List Int) : Nat := (List.range la.length).countP fun i => la.getD i 0 != lb.getD i 0
structure PlanB (p : Plan) : Prop where
  routes : p.routes.length ≤ 1048576
  visits : ∀ r ∈ p.routes, r.visits.length ≤ 1048576
def countR (x : Instance) (a b : Plan) : Int × Int := if (wrongR x a != 0) = true then (0, wrongR x a) else if (wrongR x b != 0) = true then (0, wrongR x b) else (((diffsR (kindsR x a) (kindsR x b) : Nat) : Int), 0)
theorem kindsR_len {x : Instance} {p : Plan} (h : (wrongR x p != 0) = false) : (kindsR x p).length = x.orders.length := by
  have h0 : (wrongR x p == 0) = true := by simpa using h
  unfold kindsR
  rw [h0]
  simp
theorem count_c (x : Instance) (a b : Plan) (ho : x.orders.length ≤ 1048576) (ha : PlanB a) (hb : PlanB b) :
    PC Try.prog 16 [.agg (encInstance x), .agg (encPlan a), .agg (encPlan b)] (.tup [int (countR x a b).1, int (countR x a b).2]) := by
  refine PC.body (c := Try.f16.body.getD .skip) (fun _ => false) mixed Try.func16 rfl (by kernel_rfl) ?_
  unfold Try.f16
  simp only [Option.getD_some]
  simp only [go_sem]
  refine PC.use (kinds_c x a ho ha.routes ha.visits) ?_
  simp only [go_sem]
  refine acond_i (fun h1 => ?_) (fun h1 => ?_)
  · simp only [go_sem]
    have : countR x a b = (0, wrongR x a) := if_pos h1
    rw [this]; exact .refl _
  · simp only [go_sem]
    refine PC.use (kinds_c x b ho hb.routes hb.visits) ?_
    simp only [go_sem]
    refine acond_i (fun h2 => ?_) (fun h2 => ?_)
    · simp only [go_sem]
      have : countR x a b = (0, wrongR x b) := by unfold countR; rw [if_neg (by rw [h1]; simp), if_pos h2]
      rw [this]; exact .refl _
    · have hc : countR x a b = (((diffsR (kindsR x a) (kindsR x b) : Nat) : Int), 0) := by unfold countR; rw [if_neg (by rw [h1]; simp), if_neg (by rw [h2]; simp)]
      have e1 := kindsR_len h1
      have e2 := kindsR_len h2
      rw [hc]
      generalize kindsR x a = la at e1
      generalize kindsR x b = lb at e2
      simp only [go_sem]
      refine ⟨fun ρ _ => ∃ k : Nat, k ≤ la.length ∧ ρ 8 = .sl (la.map encInt) ∧ ρ 10 = .sl (lb.map encInt) ∧ ρ 13 = int k ∧ ρ 12 = int ((List.range k).countP fun i => la.getD i 0 != lb.getD i 0 : Nat), fun ρ _ => la.length - natOf (ρ 13), ⟨0, Nat.zero_le _, rfl, rfl, rfl, rfl⟩, ?_⟩
      rintro ρ H ⟨k, hk, h8, h10, h13, h12⟩
      simp only [go_sem, h8, h10, h13, h12]
      refine acond_i (fun hlt => ?_) (fun hge => ?_)
      · have hlt := le_of_lt_b hlt
        obtain ⟨u, hu⟩ := getIn hlt
        obtain ⟨v, hv⟩ := getIn (show k < lb.length by omega)
        have b1 := inB hlt
        have b2 := inB (show k < lb.length by omega)
        have hcl : (List.range k).countP (fun i => la.getD i 0 != lb.getD i 0) ≤ k := Nat.le_trans List.countP_le_length (by simp)
        have hs : (List.range (k + 1)).countP (fun i => la.getD i 0 != lb.getD i 0) = (List.range k).countP (fun i => la.getD i 0 != lb.getD i 0) + (if (u != v) = true then 1 else 0) := by
          rw [List.range_succ, List.countP_append, List.countP_singleton]; simp [List.getD, hu, hv]
        generalize (List.range k).countP (fun i => la.getD i 0 != lb.getD i 0) = c at hs hcl h12
        simp only [go_sem]
        refine adraw_q (by rfl) (by kernel_rfl) ?_
        simp only [go_sem, h8, h10, h13, b1, b2, getD_map hu, getD_map hv]
        refine acond_joinL (fun ρ' _ => ρ' 8 = .sl (la.map encInt) ∧ ρ' 10 = .sl (lb.map encInt) ∧ ρ' 13 = int k ∧ ρ' 12 = int ((c + (if (u != v) = true then 1 else 0) : Nat) : Int)) ?_ fun K hK _ _ => acond_i (fun hb => ?_) (fun hb => ?_)
        · clear h8 h10 h13 h12
          rintro ρ H ⟨h8, h10, h13, h12⟩
          simp only [go_sem, h8, h10, h13, h12, wrapS (show k ≤ 4611686018427387904 by omega)]
          exact ⟨⟨k + 1, hlt, rfl, by rw [hs]⟩, by simp only [natOf_int]; omega⟩
        · simp only [go_sem, h12, wrapS (show c ≤ 4611686018427387904 by omega)]
          refine hK _ _ ⟨by simp only [go_sem, h8], by simp only [go_sem, h10], by simp only [go_sem, h13], ?_⟩
          simp only [go_sem]
          rw [if_pos hb]
        · simp only [go_sem]
          refine hK _ _ ⟨by simp only [go_sem, h8], by simp only [go_sem, h10], by simp only [go_sem, h13], ?_⟩
          simp only [go_sem, h12]
          rw [if_neg (by rw [hb]; simp), Nat.add_zero]
      · have hge := eq_of_ge_b hk hge
        subst hge
        simp only [go_sem, h12]
        exact .refl _
end Go.Proofs.Ytjlbikpgjejkjaa
