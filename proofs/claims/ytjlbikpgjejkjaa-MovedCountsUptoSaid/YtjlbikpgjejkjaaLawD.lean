/- DecideOpposes, DecideRoutes, DecideClashes: the laws' functions answer true. -/
import Derived.Test.YtjlbikpgjejkjaaLawC
set_option linter.unusedSimpArgs false
set_option linter.unusedVariables false
namespace Go.Proofs.Ytjlbikpgjejkjaa.Dec
open Go.Aw Go.Aw.D Go.Proofs Ty
set_option maxRecDepth 100000

theorem right_one {x : Instance} {d : Decision} (h : rightR x [d] = true) : x.orders.length ≤ 10 ∧ knownR x d = 0 := by
  obtain ⟨_, _, ho, hk⟩ := right_spec h
  exact ⟨ho, hk d (by simp)⟩
theorem otherR_eq (d : Decision) (v : Bool) : otherR d v = if (d.kind == 3 && d.n == 10) = true then true
  else if (d.kind == 3 && decide (d.n < 10) || d.kind == 4 && decide (d.n > 0)) = true then v
  else d.kind != 4 && d.kind != 3 && v := by
  unfold otherR
  have : decide (d.n = 10) = (d.n == 10) := by rw [Bool.eq_iff_iff]; simp
  rw [this]
theorem opposesLaw_c (x : Instance) (d : Decision) (p : Plan) (hx : bInstance 1048576 x) (hd : bDecision 1048576 d) (hp : bPlan 1048576 p) :
    PC Try.prog 9 [.agg (encInstance x), .agg (encDecision d), .agg (encPlan p)] (.v (.bool true)) := by
  have hpb := planB hp
  have hR := right_c x [d] (inB_of hx) (by simp)
  simp only [List.map_cons, List.map_nil] at hR
  have hD := Holds_c x [d] p (bI_types hx) (by simp) hpb.1 hpb.2
  have hO := Holds_c x [oppR d] p (bI_types hx) (by simp) hpb.1 hpb.2
  simp only [List.map_cons, List.map_nil] at hD hO
  refine PC.body (c := Try.f9.body.getD .skip) (fun _ => false) mixed Try.func9 rfl (by kernel_rfl) ?_
  unfold Try.f9
  simp only [Option.getD_some]
  simp only [go_sem]
  refine PC.use hR ?_
  simp only [go_sem]
  refine ⟨_, fun _ => (plain_c x p hpb.1 hpb.2).q rfl, ?_⟩
  simp only [go_sem]
  refine ⟨_, fun hg => (single_c p hpb.1 (fun r hr => by
    have hg2 : (!rightR x [d] || !plainR x p) = false := by simpa using hg
    simp only [Bool.or_eq_false_iff, Bool.not_eq_false'] at hg2
    exact (plain_spec hg2.2).small (right_one hg2.1).1 hr)).q rfl, ?_⟩
  simp only [go_sem]
  refine acond_i (fun hb => ?_) (fun hb => ?_)
  · simp only [go_sem]
    refine PC.use examples_c ?_
    simp only [go_sem]
    exact .refl _
  have hb2 := hb
  simp only [Bool.or_eq_false_iff, Bool.not_eq_false'] at hb2
  obtain ⟨⟨h1, h2⟩, h3⟩ := hb2
  obtain ⟨ho, hk⟩ := right_one h1
  have hpl := plain_spec h2
  have law := opposes ho hk hpl h3
  have oo := opp_opp hk
  simp only [go_sem]
  refine PC.use (opp_c d) ?_
  simp only [go_sem]
  refine anew_i fun j hj => ?_
  simp only [go_sem]
  refine wputE_n (updH_same _ _ _) (by simp [encDecision_len]) ?_
  simp only [go_sem, encDecision_len]
  refine ⟨_, fun _ => hO.q rfl, ?_⟩
  simp only [go_sem]
  refine acond_i (fun c1 => ?_) (fun c1 => ?_)
  · simp only [go_sem, encDecision_len]
    refine PC.use hO ?_
    simp only [go_sem]
    refine acond_i (fun c2 => ?_) (fun c2 => ?_)
    · skip
      simp only [go_sem]
      refine adraw_m [(0, false), (1, false), (2, true), (5, true), (3, false), (4, false), (6, false), (7, false), (8, false), (11, true), (9, false), (10, false), (12, false), (13, false), (14, false), (15, false), (16, false), (17, false)] (by kernel_rfl) ?_
      simp only [go_sem, encDecision_len]
      refine ⟨boo false, ?_⟩
      simp only [go_sem]
      refine ⟨_, (opp_c (oppR d)).q rfl, ?_⟩
      simp only [go_sem, oo, eqDec]
      refine ⟨_, examples_c.q rfl, ?_⟩
      simp only [go_sem]
      refine convB ?_
      simp [otherR, c1, c2] at law ⊢
    · skip
      simp only [go_sem]
      refine adraw_m [(0, false), (1, false), (2, true), (5, true), (3, false), (4, false), (6, false), (7, false), (8, false), (11, true), (9, false), (10, false), (12, false), (13, false), (14, false), (15, false), (16, false), (17, false)] (by kernel_rfl) ?_
      simp only [go_sem, encDecision_len]
      refine ⟨_, fun _ => hD.q rfl, ?_⟩
      simp only [go_sem]
      refine ⟨_, fun _ => (opp_c (oppR d)).q rfl, ?_⟩
      simp only [go_sem, oo, eqDec]
      refine ⟨_, fun _ => examples_c.q rfl, ?_⟩
      simp only [go_sem]
      refine convB ?_
      rw [otherR_eq, if_neg (by rw [c2]; simp)] at law
      simp [c1] at law ⊢; simpa using law
  · simp only [go_sem]
    refine acond_i (fun c2 => ?_) (fun c2 => ?_)
    · skip
      simp only [go_sem]
      refine adraw_m [(0, false), (1, false), (2, true), (5, true), (3, false), (4, false), (6, false), (7, false), (8, false), (11, true), (9, false), (10, false), (12, false), (13, false), (14, false), (15, false), (16, false), (17, false)] (by kernel_rfl) ?_
      simp only [go_sem, encDecision_len]
      refine ⟨boo false, ?_⟩
      simp only [go_sem]
      refine ⟨_, (opp_c (oppR d)).q rfl, ?_⟩
      simp only [go_sem, oo, eqDec]
      refine ⟨_, examples_c.q rfl, ?_⟩
      simp only [go_sem]
      refine convB ?_
      simp [otherR, c1, c2] at law ⊢
    · skip
      simp only [go_sem]
      refine adraw_m [(0, false), (1, false), (2, true), (5, true), (3, false), (4, false), (6, false), (7, false), (8, false), (11, true), (9, false), (10, false), (12, false), (13, false), (14, false), (15, false), (16, false), (17, false)] (by kernel_rfl) ?_
      simp only [go_sem, encDecision_len]
      refine ⟨_, fun _ => hD.q rfl, ?_⟩
      simp only [go_sem]
      refine ⟨_, fun _ => (opp_c (oppR d)).q rfl, ?_⟩
      simp only [go_sem, oo, eqDec]
      refine ⟨_, fun _ => examples_c.q rfl, ?_⟩
      simp only [go_sem]
      refine convB ?_
      rw [otherR_eq, if_neg (by rw [c2]; simp)] at law
      simp [c1] at law ⊢; simpa using law
end Go.Proofs.Ytjlbikpgjejkjaa.Dec
