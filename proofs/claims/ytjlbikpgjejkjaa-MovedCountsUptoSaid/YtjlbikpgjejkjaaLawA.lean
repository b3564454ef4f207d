/- DecideChecks, DecideAllows: Check, Opposite, Allows answer as the reference does. -/
import Derived.Test.YtjlbikpgjejkjaaDecG
import Derived.Test.YtjlbikpgjejkjaaBridge
set_option linter.unusedSimpArgs false
set_option linter.unusedVariables false
namespace Go.Proofs.Ytjlbikpgjejkjaa.Dec
open Go.Aw Go.Aw.D Go.Proofs Ty
set_option maxRecDepth 100000

theorem inB_of {x : Instance} (h : bInstance 1048576 x) : InB x := by
  obtain ⟨⟨hpl, har⟩, hty, hor, hap, hbe⟩ := h
  exact ⟨hpl.1, hpl.2, har.1, fun a ha => ⟨(har.2 a ha).2.2.2.2.1.1, (har.2 a ha).2.2.2.2.2.1⟩, hty.1, fun t ht => ⟨(hty.2 t ht).1, (hty.2 t ht).2.2.2.2.1.1⟩, hor.1, fun t ht => ⟨(hor.2 t ht).1, (hor.2 t ht).2.1.1⟩, hap.1, hbe.1⟩
theorem eqDec (d : Decision) : eqCells [0, 0, 0, 0] (encDecision d) (encDecision d) = some true := by simp [encDecision, eqCells, eqCell, andO]
theorem checks_c (x : Instance) (l : List Decision) (c : Decision) (hx : bInstance 1048576 x) (hl : bL bDecision 1048576 l) (hc : bDecision 1048576 c) :
    PC Try.prog 6 [.agg (encInstance x), .sl (l.map encDecision), .agg (encDecision c)] (.v (.bool true)) := by
  have hI := NC.pc (check_c x (inB_of hx))
  refine PC.body (c := Try.f6.body.getD .skip) (fun _ => false) mixed Try.func6 rfl (by kernel_rfl) ?_
  unfold Try.f6
  simp only [Option.getD_some]
  simp only [go_sem]
  refine adraw_m [(0, false), (1, false), (2, false), (3, false), (4, false), (5, true), (6, true), (7, true), (8, true), (9, false), (10, false), (11, false), (12, false)] (by kernel_rfl) ?_
  simp only [go_sem]
  refine PC.use hI ?_
  simp only [go_sem]
  refine ⟨_, fun _ => (chk_c x l hl.1).q rfl, ?_⟩
  simp only [go_sem]
  refine ⟨_, fun _ => (chk29_c x l hl.1).q rfl, ?_⟩
  simp only [go_sem]
  refine acond_i (fun hb => ?_) (fun hb => ?_)
  · simp only [go_sem]
    refine PC.use hI ?_
    simp only [go_sem]
    refine ⟨_, fun _ => examples_c.q rfl, ?_⟩
    simp only [go_sem]
    refine convB ?_
    simpa using hb
  · simp only [go_sem]
    refine acond_i (fun hb2 => ?_) (fun hb2 => ?_)
    · simp only [go_sem]
      refine PC.use examples_c ?_
      simp only [go_sem]
      exact .refl _
    · simp only [go_sem]
      refine adraw_q (by rfl) (by kernel_rfl) ?_
      simp only [go_sem]
      refine ⟨_, (opp_c c).q rfl, ?_⟩
      simp only [go_sem]
      refine ⟨_, (opp29_c c).q rfl, ?_⟩
      simp only [go_sem, eqDec]
      refine ⟨_, examples_c.q rfl, ?_⟩
      simp only [go_sem]
      exact .refl _
end Go.Proofs.Ytjlbikpgjejkjaa.Dec
