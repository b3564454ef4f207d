/- lorryref46.Kinds -/
import Derived.Test.YtjlbikpgjejkjaaRefN
import Derived.Test.YtjlbikpgjejkjaaRefE
set_option linter.unusedSimpArgs false
set_option linter.unusedVariables false
namespace Go.Proofs.Ytjlbikpgjejkjaa
open Go.Aw Go.Aw.D Go.Proofs Ty
set_option maxRecDepth 100000

abbrev intRow (l : List Int) : Row := ⟨3, 1, l.map encInt⟩
def kindsR (x : Instance) (p : Plan) : List Int := match wrongR x p == 0 with
  | true => (List.range x.orders.length).map fun i : Nat => kindR p.routes i
  | false => []
theorem range_map_succ {β : Type} (f : Nat → β) (k : Nat) : (List.range (k + 1)).map f = (List.range k).map f ++ [f k] := by rw [List.range_succ, List.map_append]; rfl
theorem kinds_c (x : Instance) (p : Plan) (ho : x.orders.length ≤ 1048576) (hp : p.routes.length ≤ 1048576) (hv : ∀ r ∈ p.routes, r.visits.length ≤ 1048576) :
    PC Try.prog 18 [.agg (encInstance x), .agg (encPlan p)] (.tup [.sl ((kindsR x p).map encInt), int (wrongR x p)]) := by
  refine PC.body (c := Try.f18.body.getD .skip) (fun t => t == 7) mixed Try.func18 rfl (by kernel_rfl) ?_
  unfold Try.f18
  simp only [Option.getD_some]
  simp only [go_sem]
  refine PC.use (wrong_c x p ho hp hv) ?_
  simp only [go_sem]
  refine acond_i (fun hb => ?_) (fun hb => ?_)
  · simp only [go_sem]
    have : kindsR x p = [] := by
      unfold kindsR
      rw [show (wrongR x p == 0) = false by simpa using hb]
    rw [this]; exact .refl _
  · have h0 : (wrongR x p == 0) = true := by simpa using hb
    have hw : wrongR x p = 0 := by simpa using h0
    have hk : kindsR x p = (List.range x.orders.length).map fun i : Nat => kindR p.routes i := by unfold kindsR; rw [h0]
    rw [hw, hk]
    simp only [go_sem]
    refine anew_i fun j hj => ?_
    simp only [go_sem]
    refine ⟨fun ρ H => ∃ k : Nat, k ≤ x.orders.length ∧ ρ 2 = .rp (encInstance x) 0 ∧ ρ 3 = .rp (encPlan p) 0 ∧ ρ 8 = int k ∧ ∃ j, ρ 7 = .os j ∧ H j = some (intRow ((List.range k).map fun i : Nat => kindR p.routes i)), fun ρ _ => x.orders.length - natOf (ρ 8), ⟨0, Nat.zero_le _, rfl, rfl, rfl, j, rfl, updH_same _ _ _⟩, ?_⟩
    clear hj
    rintro ρ H ⟨k, hk, h2, h3, h8, j, h7, hH⟩
    simp only [go_sem, h2, h3, h7, h8]
    refine acond_i (fun hlt => ?_) (fun hge => ?_)
    · have hlt := le_of_lt_b hlt
      simp only [go_sem, h2, h3, h7, h8]
      refine PC.use (kind_c p k hp hv) ?_
      simp only [go_sem, h2, h3, h7, h8]
      refine wappE_i hH ⟨rfl, rfl⟩ (by simp only [go_sem]) (by simp only [List.length_map, List.length_range, List.length_cons, List.length_nil]; omega) (fun j' hj' => ?_)
      simp only [go_sem, h2, h3, h8, wrapS (show k ≤ 4611686018427387904 by omega)]
      refine ⟨⟨k + 1, hlt, rfl, j', rfl, ?_⟩, by simp only [natOf_int]; omega⟩
      rw [range_map_succ]
      exact row_appI (l' := [kindR p.routes k]) rfl
    · have hge := eq_of_ge_b hk hge
      subst hge
      simp only [go_sem, h7]
      exact .tup _ _ (.cons _ _ _ _ (.row _ _ _ hH (ConvE.refl _)) (ConvL.refl _))
end Go.Proofs.Ytjlbikpgjejkjaa
