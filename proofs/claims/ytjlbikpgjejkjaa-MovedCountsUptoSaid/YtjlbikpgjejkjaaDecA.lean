/- decide: what a decision may be; its opposite. -/
import Derived.Test.YtjlbikpgjejkjaaRefE
set_option linter.unusedSimpArgs false
set_option linter.unusedVariables false
namespace Go.Proofs.Ytjlbikpgjejkjaa.Dec
open Go.Aw Go.Aw.D Go.Proofs Ty
set_option maxRecDepth 100000

theorem convI {H : Heap} {k : IntKind} {a b : Int} (h : a = b) : Conv H (.v (.int k a)) (.v (.int k b)) := h ▸ .refl _
theorem convB {H : Heap} {a b : Bool} (h : a = b) : Conv H (.v (.bool a)) (.v (.bool b)) := h ▸ .refl _
theorem convA {H : Heap} {a b : List AV} (h : a = b) : Conv H (.agg a) (.agg b) := h ▸ .refl _
def orderR (x : Instance) (n : Int) : Bool := decide (n ≥ 0) && decide (n < (x.orders.length : Int))
theorem order_c (x : Instance) (n : Int) : PC Try.prog 92 [.agg (encInstance x), int n] (boo (orderR x n)) := by
  refine PC.body (c := Try.f92.body.getD .skip) (fun _ => false) mixed Try.func92 rfl (by kernel_rfl) ?_
  unfold Try.f92
  simp only [Option.getD_some]
  simp only [go_sem]
  exact .refl _
theorem known1_c (x : Instance) (n : Int) : PC Try.prog 91 [int n, .rp (encInstance x) 0] (boo (orderR x n)) := by
  refine PC.body (c := Try.f91.body.getD .skip) (fun _ => false) mixed Try.func91 rfl (by kernel_rfl) ?_
  unfold Try.f91
  simp only [Option.getD_some]
  simp only [go_sem]
  exact .refl _
def knownR (x : Instance) (d : Decision) : Int :=
  if d.kind = 1 ∨ d.kind = 2 then (if orderR x d.a && orderR x d.b && d.a != d.b then 0 else 2)
  else if d.kind = 5 ∨ d.kind = 6 then (if orderR x d.a then 0 else 2)
  else if d.kind = 3 ∨ d.kind = 4 then (if decide (d.a ≥ 0) && decide (d.a < (x.types.length : Int)) && decide (d.n ≥ 0) && decide (d.n ≤ 10) then 0 else 2)
  else 8
theorem known_c (x : Instance) (d : Decision) : PC Try.prog 62 [.agg (encInstance x), .agg (encDecision d)] (int (knownR x d)) := by
  refine PC.body (c := Try.f62.body.getD .skip) (fun _ => false) mixed Try.func62 rfl (by kernel_rfl) ?_
  unfold Try.f62
  simp only [Option.getD_some]
  simp only [go_sem]
  repeat' (first | (refine PC.use (known1_c _ _) ?_) | (refine ⟨_, fun _ => PC.q (known1_c _ _) rfl, ?_⟩) | (refine ⟨_, PC.q (known1_c _ _) rfl, ?_⟩) | (refine acond_i (fun hb => ?_) (fun hb => ?_)) | (simp only [go_sem]))
  all_goals (refine convI ?_; (try unfold knownR); generalize orderR x d.a = p at *; generalize orderR x d.b = q at *; cases p <;> cases q <;> simp_all <;> (try omega))
theorem one_c (x : Instance) (d : Decision) : PC Try.prog 63 [.agg (encInstance x), .agg (encDecision d)] (int (knownR x d)) := by
  refine PC.body (c := Try.f63.body.getD .skip) (fun _ => false) mixed Try.func63 rfl (by kernel_rfl) ?_
  unfold Try.f63
  simp only [Option.getD_some]
  simp only [go_sem]
  repeat' (first | (refine PC.use (order_c _ _) ?_) | (refine ⟨_, fun _ => PC.q (order_c _ _) rfl, ?_⟩) | (refine ⟨_, PC.q (order_c _ _) rfl, ?_⟩) | (refine acond_i (fun hb => ?_) (fun hb => ?_)) | (simp only [go_sem]))
  all_goals (refine convI ?_; (try unfold knownR); generalize orderR x d.a = p at *; generalize orderR x d.b = q at *; cases p <;> cases q <;> simp_all <;> (try omega))
def oppR (d : Decision) : Decision :=
  if d.kind = 1 then { d with kind := 2 } else if d.kind = 2 then { d with kind := 1 }
  else if d.kind = 3 then { d with kind := 4, n := IntKind.i64.wrap (d.n + 1) } else if d.kind = 4 then { d with kind := 3, n := IntKind.i64.wrap (d.n - 1) }
  else if d.kind = 5 then { d with kind := 6 } else if d.kind = 6 then { d with kind := 5 } else d
theorem opp_c (d : Decision) : PC Try.prog 29 [.agg (encDecision d)] (.agg (encDecision (oppR d))) := by
  refine PC.body (c := Try.f29.body.getD .skip) (fun t => t == 1) mixed Try.func29 rfl (by kernel_rfl) ?_
  unfold Try.f29
  simp only [Option.getD_some]
  simp only [go_sem]
  simp only [encDecision]
  refine anew_i fun j hj => ?_
  simp only [go_sem]
  refine anew_i fun i hi => ?_
  have hne : j ≠ i := fun e => by subst e; rw [updH_same] at hi; simp at hi
  have hne' : i ≠ j := hne.symm
  simp only [go_sem, updH_ne _ _ _ _ hne]
  repeat' (first | (refine acond_i (fun hb => ?_) (fun hb => ?_)) | (refine wputE_1 so3 (by first | exact updH_same _ _ _ | exact (updH_ne _ _ _ _ hne).trans (updH_same _ _ _)) (by simp) ?_) | (refine wputE_n (by first | exact updH_same _ _ _ | exact (updH_ne _ _ _ _ hne').trans (updH_same _ _ _) | exact (updH_ne _ _ _ _ hne').trans ((updH_ne _ _ _ _ hne').trans (updH_same _ _ _))) (by simp) ?_) | (simp only [go_sem, updH_ne _ _ _ _ hne, updH_ne _ _ _ _ hne']))
  all_goals (refine convA ?_; simp_all [oppR, encDecision])
theorem opp29_c (d : Decision) : PC Try.prog 30 [.agg (encDecision d)] (.agg (encDecision (oppR d))) := by
  refine PC.body (c := Try.f30.body.getD .skip) (fun t => t == 1) mixed Try.func30 rfl (by kernel_rfl) ?_
  unfold Try.f30
  simp only [Option.getD_some]
  simp only [go_sem]
  simp only [encDecision]
  refine anew_i fun j hj => ?_
  simp only [go_sem]
  refine anew_i fun i hi => ?_
  have hne : j ≠ i := fun e => by subst e; rw [updH_same] at hi; simp at hi
  have hne' : i ≠ j := hne.symm
  simp only [go_sem, updH_ne _ _ _ _ hne]
  repeat' (first | (refine acond_i (fun hb => ?_) (fun hb => ?_)) | (refine wputE_1 so3 (by first | exact updH_same _ _ _ | exact (updH_ne _ _ _ _ hne).trans (updH_same _ _ _)) (by simp) ?_) | (refine wputE_n (by first | exact updH_same _ _ _ | exact (updH_ne _ _ _ _ hne').trans (updH_same _ _ _) | exact (updH_ne _ _ _ _ hne').trans ((updH_ne _ _ _ _ hne').trans (updH_same _ _ _))) (by simp) ?_) | (simp only [go_sem, updH_ne _ _ _ _ hne, updH_ne _ _ _ _ hne']))
  all_goals (refine convA ?_; simp_all [oppR, encDecision])
/-- the first error of a list -/
def firstErr : List Int → Int
  | [] => 0
  | e :: r => if e != 0 then e else firstErr r
theorem firstErr_hit {l : List Int} {k : Nat} {e : Int} (h : ∀ e ∈ l.take k, e = 0) (hk : l[k]? = some e) (he : (e != 0) = true) : firstErr l = e := by
  induction l generalizing k with
  | nil => simp at hk
  | cons a r ih =>
    cases k with
    | zero => simp at hk; subst hk; simp only [firstErr]; rw [if_pos he]
    | succ k =>
      have h0 := h a (by simp)
      subst h0
      simp only [firstErr]
      exact ih (k := k) (fun e he' => h e (by simp [he'])) (by simpa using hk)
theorem firstErr_none {l : List Int} (h : ∀ e ∈ l, e = 0) : firstErr l = 0 := by
  induction l with
  | nil => rfl
  | cons a r ih => have h0 := h a (by simp); subst h0; simp only [firstErr]; exact ih fun e he => h e (by simp [he])
theorem firstErr_zero {l : List Int} (h : firstErr l = 0) : ∀ e ∈ l, e = 0 := by
  induction l with
  | nil => simp
  | cons a r ih =>
    simp only [firstErr] at h
    split at h
    · rename_i hb; simp at hb; exact absurd h hb
    · rename_i hb; simp at hb; intro e he; rcases List.mem_cons.1 he with rfl | he; exact hb; exact ih h e he
def chkR (x : Instance) (l : List Decision) : Int := if decide ((l.length : Int) > 1024) then 4 else firstErr (l.map (knownR x))
theorem chk_c (x : Instance) (l : List Decision) (hl : l.length ≤ 1048576) : PC Try.prog 26 [.agg (encInstance x), .sl (l.map encDecision)] (int (chkR x l)) := by
  refine PC.body (c := Try.f26.body.getD .skip) (fun _ => false) mixed Try.func26 rfl (by kernel_rfl) ?_
  unfold Try.f26
  simp only [Option.getD_some]
  simp only [go_sem]
  refine acond_i (fun hb => ?_) (fun hb => ?_)
  · simp only [go_sem]
    exact convI (by unfold chkR; rw [if_pos hb])
  · have hc : chkR x l = firstErr (l.map (knownR x)) := by unfold chkR; rw [if_neg (by rw [hb]; simp)]
    rw [hc]
    simp only [go_sem]
    refine ⟨fun ρ _ => ∃ k : Nat, k ≤ l.length ∧ ρ 2 = .rp (encInstance x) 0 ∧ ρ 11 = .sl (l.map encDecision) ∧ ρ 12 = int l.length ∧ ρ 13 = int k ∧ ∀ e ∈ (l.map (knownR x)).take k, e = 0, fun ρ _ => l.length - natOf (ρ 13), ⟨0, Nat.zero_le _, rfl, rfl, rfl, rfl, by simp⟩, ?_⟩
    rintro ρ H ⟨k, hk, h2, h11, h12, h13, hz⟩
    simp only [go_sem, h2, h11, h12, h13]
    refine acond_i (fun hlt => ?_) (fun hge => ?_)
    · have hlt := le_of_lt_b hlt
      obtain ⟨d, hd⟩ := getIn hlt
      have b1 := inB hlt
      simp only [go_sem, h2, h11, h12, h13, getD_map hd, b1]
      refine anew_i fun j hj => ?_
      simp only [go_sem, h2, h11, h12, h13, getD_map hd, b1]
      refine wputE_n (updH_same _ _ _) (by simp [encDecision_len]) ?_
      simp only [go_sem, h2, h11, h12, h13, getD_map hd, b1]
      refine PC.use (known_c x d) ?_
      simp only [go_sem, h2, h11, h12, h13]
      refine acond_i (fun hb => ?_) (fun hb => ?_)
      · simp only [go_sem]
        exact convI (firstErr_hit hz (by simp [hd]) hb).symm
      · simp only [go_sem, h2, h11, h12, h13, wrapS (show k ≤ 4611686018427387904 by omega)]
        refine ⟨⟨k + 1, hlt, rfl, ?_⟩, by simp only [natOf_int]; omega⟩
        rw [take_succ (x := knownR x d) (by simp [hd])]
        intro e he
        rcases List.mem_append.1 he with he | he
        · exact hz e he
        · simp at he; subst he; simpa using hb
    · have hge := eq_of_ge_b hk hge
      subst hge
      simp only [go_sem]
      exact convI (firstErr_none (by rw [List.take_of_length_le (by simp)] at hz; exact hz)).symm
theorem chk29_c (x : Instance) (l : List Decision) (hl : l.length ≤ 1048576) : PC Try.prog 27 [.agg (encInstance x), .sl (l.map encDecision)] (int (chkR x l)) := by
  refine PC.body (c := Try.f27.body.getD .skip) (fun _ => false) mixed Try.func27 rfl (by kernel_rfl) ?_
  unfold Try.f27
  simp only [Option.getD_some]
  simp only [go_sem]
  refine acond_i (fun hb => ?_) (fun hb => ?_)
  · simp only [go_sem]
    exact convI (by unfold chkR; rw [if_pos hb])
  · have hc : chkR x l = firstErr (l.map (knownR x)) := by unfold chkR; rw [if_neg (by rw [hb]; simp)]
    rw [hc]
    simp only [go_sem]
    refine ⟨fun ρ _ => ∃ k : Nat, k ≤ l.length ∧ ρ 2 = .rp (encInstance x) 0 ∧ ρ 1 = .sl (l.map encDecision) ∧ ρ 5 = int k ∧ ∀ e ∈ (l.map (knownR x)).take k, e = 0, fun ρ _ => l.length - natOf (ρ 5), ⟨0, Nat.zero_le _, rfl, rfl, rfl, by simp⟩, ?_⟩
    rintro ρ H ⟨k, hk, h2, h1, h5, hz⟩
    simp only [go_sem, h2, h1, h5]
    refine acond_i (fun hlt => ?_) (fun hge => ?_)
    · have hlt := le_of_lt_b hlt
      obtain ⟨d, hd⟩ := getIn hlt
      have b1 := inB hlt
      simp only [go_sem]
      refine adraw_q (by rfl) (by kernel_rfl) ?_
      simp only [go_sem, h2, h1, h5, getD_map hd, b1]
      refine ⟨_, (one_c x d).q rfl, ?_⟩
      simp only [go_sem, h2, h1, h5]
      refine acond_i (fun hb => ?_) (fun hb => ?_)
      · simp only [go_sem]
        exact convI (firstErr_hit hz (by simp [hd]) hb).symm
      · simp only [go_sem, h2, h1, h5, wrapS (show k ≤ 4611686018427387904 by omega)]
        refine ⟨⟨k + 1, hlt, rfl, ?_⟩, by simp only [natOf_int]; omega⟩
        rw [take_succ (x := knownR x d) (by simp [hd])]
        intro e he
        rcases List.mem_append.1 he with he | he
        · exact hz e he
        · simp at he; subst he; simpa using hb
    · have hge := eq_of_ge_b hk hge
      subst hge
      simp only [go_sem]
      exact convI (firstErr_none (by rw [List.take_of_length_le (by simp)] at hz; exact hz)).symm
end Go.Proofs.Ytjlbikpgjejkjaa.Dec
