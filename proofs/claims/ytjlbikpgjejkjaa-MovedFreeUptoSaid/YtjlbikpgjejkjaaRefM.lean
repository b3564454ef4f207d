/- lorrylaw23.Few -/
import Derived.Test.YtjlbikpgjejkjaaRefB
set_option linter.unusedSimpArgs false
set_option linter.unusedVariables false
namespace Go.Proofs.Ytjlbikpgjejkjaa
open Go.Aw Go.Aw.D Go.Proofs Ty
set_option maxRecDepth 100000

def longR (r : Route) : Bool := decide ((r.visits.length : Int) > 24) || decide ((r.rests.length : Int) > 24)
def fewR (p : Plan) : Bool := match decide ((p.routes.length : Int) > 12) || decide ((p.unserved.length : Int) > 24) with
  | true => false
  | false => p.routes.all fun r => !longR r
theorem few_c (p : Plan) (hl : p.routes.length ≤ 1048576) : PC Try.prog 13 [.agg (encPlan p)] (boo (fewR p)) := by
  refine PC.body (c := Try.f13.body.getD .skip) (fun _ => false) mixed Try.func13 rfl (by kernel_rfl) ?_
  unfold Try.f13
  simp only [Option.getD_some]
  simp only [go_sem]
  refine acond_i (fun hd => ?_) (fun hd => ?_)
  · simp only [go_sem]
    have : fewR p = false := by unfold fewR; rw [hd]
    rw [this]; exact .refl _
  · simp only [go_sem]
    refine ⟨fun ρ _ => ∃ k : Nat, k ≤ p.routes.length ∧ ρ 1 = .rp (encPlan p) 0 ∧ ρ 3 = int k ∧ ∀ r ∈ p.routes.take k, longR r = false, fun ρ _ => p.routes.length - natOf (ρ 3), ⟨0, Nat.zero_le _, rfl, rfl, by simp⟩, ?_⟩
    rintro ρ H ⟨k, hk, h1, h3, hn⟩
    simp only [go_sem, h1, h3]
    refine acond_i (fun hlt => ?_) (fun hge => ?_)
    · have hlt := le_of_lt_b hlt
      obtain ⟨r, hr⟩ := getIn hlt
      have b1 := inB hlt
      simp only [go_sem, h1, h3, b1, getD_map hr]
      refine acond_i (fun hb => ?_) (fun hb => ?_)
      · simp only [go_sem]
        have : fewR p = false := by unfold fewR; rw [hd]; exact all_miss (mem_of_get hr) (by show (!longR r) = false; rw [show longR r = true from hb]; rfl)
        rw [this]; exact .refl _
      · simp only [go_sem, h1, h3, wrapS (show k ≤ 4611686018427387904 by omega)]
        exact ⟨⟨k + 1, hlt, rfl, take_all hr hn hb⟩, by simp only [natOf_int]; omega⟩
    · have hge := eq_of_ge_b hk hge
      subst hge
      simp only [go_sem]
      have : fewR p = true := by unfold fewR; rw [hd]; exact all_take fun r h => by rw [hn r (by simpa using h)]; rfl
      rw [this]; exact .refl _
end Go.Proofs.Ytjlbikpgjejkjaa
