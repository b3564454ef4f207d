/- lorryref46: which type serves an order. -/
import Derived.Test.YtjlbikpgjejkjaaTypes
import Derived.Test.YtjlbikpgjejkjaaData
import Derived.Test.YtjlbikpgjejkjaaTools
set_option linter.unusedSimpArgs false
set_option linter.unusedVariables false
namespace Go.Proofs.Ytjlbikpgjejkjaa
open Go.Aw Go.Aw.D Go.Proofs Ty

def servesR (r : Route) (o : Int) : Bool := r.visits.any fun v => v.order == o
def kindR (l : List Route) (o : Int) : Int := match l.find? (servesR · o) with | some r => r.type | none => -1


theorem kindR_hit {l : List Route} {k : Nat} {r : Route} {o : Int} (h : ∀ r ∈ l.take k, servesR r o = false) (hr : l[k]? = some r) (hs : servesR r o = true) : kindR l o = r.type := by
  have hk : k < l.length := by
    rcases Nat.lt_or_ge k l.length with h | h
    · exact h
    · rw [List.getElem?_eq_none h] at hr; simp at hr
  have e : l = l.take k ++ r :: l.drop (k + 1) := by
    have h1 : l[k] = r := by rw [List.getElem?_eq_getElem hk] at hr; injection hr
    rw [← h1, List.getElem_cons_drop, List.take_append_drop]
  unfold kindR
  rw [e, List.find?_append, List.find?_eq_none.2 (fun x hx => by simpa using h x hx)]
  simp [List.find?, hs]
theorem kindR_miss {l : List Route} {o : Int} (h : ∀ r ∈ l, servesR r o = false) : kindR l o = -1 := by
  unfold kindR
  rw [List.find?_eq_none.2 (fun x hx => by simpa using h x hx)]

set_option maxRecDepth 100000 in
theorem kind_c (p : Plan) (o : Int) (hp : p.routes.length ≤ 1048576) (hv : ∀ r ∈ p.routes, r.visits.length ≤ 1048576) :
    PC Try.prog 49 [.agg (encPlan p), .v (.int .i64 o)] (.v (.int .i64 (kindR p.routes o))) := by
  refine PC.body (c := Try.f49.body.getD .skip) (fun _ => false) mixed Try.func49 rfl (by kernel_rfl) ?_
  unfold Try.f49
  simp only [Option.getD_some]
  simp only [go_sem]
  refine ⟨fun ρ _ => ∃ k : Nat, k ≤ p.routes.length ∧ ρ 2 = .rp (encPlan p) 0 ∧ ρ 1 = .v (.int .i64 o) ∧ ρ 5 = .v (.int .i64 k) ∧ ∀ r ∈ p.routes.take k, servesR r o = false,
    fun ρ _ => p.routes.length - natOf (ρ 5), ⟨0, Nat.zero_le _, rfl, rfl, rfl, by simp⟩, ?_⟩
  rintro ρ H ⟨k, hk, h2, h1, h5, hn⟩
  simp only [go_sem, h2, h1, h5]
  refine acond_i (fun hlt => ?_) (fun hge => ?_)
  · simp only [go_sem, h2, h1, h5]
    have hlt : k < p.routes.length := by simpa using hlt
    obtain ⟨r, hr⟩ := getIn hlt
    have hvr := hv r (List.mem_of_getElem? hr)
    have b1 := inB hlt
    refine ⟨fun ρ _ => ∃ j : Nat, j ≤ r.visits.length ∧ ρ 2 = .rp (encPlan p) 0 ∧ ρ 1 = .v (.int .i64 o) ∧ ρ 5 = .v (.int .i64 k) ∧ ρ 6 = .v (.int .i64 j) ∧ ∀ v ∈ r.visits.take j, (v.order == o) = false,
      fun ρ _ => r.visits.length - natOf (ρ 6), ⟨0, Nat.zero_le _, by simp only [go_sem, h2], by simp only [go_sem, h1], by simp only [go_sem, h5], by simp only [go_sem]; rfl, by simp⟩, ?_⟩
    rintro ρ H ⟨j, hj, h2, h1, h5, h6, hn2⟩
    simp only [go_sem, h2, h1, h5, h6, getD_map hr, b1]
    refine acond_i (fun hlt2 => ?_) (fun hge2 => ?_)
    · have hlt2 : j < r.visits.length := by simpa using hlt2
      obtain ⟨v, hv2⟩ := getIn hlt2
      have b2 := inB hlt2
      simp only [go_sem, h2, h1, h5, h6, getD_map hr, getD_map hv2, b1, b2]
      refine acond_i (fun he => ?_) (fun he => ?_)
      · simp only [go_sem, h2, h1, h5, h6, getD_map hr, getD_map hv2, b1, b2]
        rw [kindR_hit hn hr (List.any_eq_true.2 ⟨v, List.mem_of_getElem? hv2, he⟩)]
        exact .refl _
      · simp only [go_sem, h2, h1, h5, h6, wrapS (show j ≤ 4611686018427387904 by omega)]
        refine ⟨⟨j + 1, hlt2, rfl, ?_⟩, by simp only [natOf_int]; omega⟩
        rw [take_succ hv2]
        intro x hx
        rcases List.mem_append.1 hx with hx | hx
        · exact hn2 x hx
        · simp at hx; subst hx; exact he
    · have hge2 : j = r.visits.length := by have : ¬ j < r.visits.length := by simpa using hge2
                                            omega
      subst hge2
      simp only [go_sem, h2, h1, h5, h6, wrapS (show k ≤ 4611686018427387904 by omega)]
      refine ⟨⟨k + 1, hlt, rfl, ?_⟩, by simp only [natOf_int]; omega⟩
      rw [take_succ hr]
      intro x hx
      rcases List.mem_append.1 hx with hx | hx
      · exact hn x hx
      · simp at hx; subst hx
        unfold servesR
        rw [List.any_eq_false]
        intro v hv; rw [List.take_length] at hn2; simpa using hn2 v hv
  · have hge : k = p.routes.length := by have : ¬ k < p.routes.length := by simpa using hge
                                         omega
    subst hge
    simp only [go_sem]
    rw [kindR_miss (by simpa using hn)]
    exact .refl _
end Go.Proofs.Ytjlbikpgjejkjaa
