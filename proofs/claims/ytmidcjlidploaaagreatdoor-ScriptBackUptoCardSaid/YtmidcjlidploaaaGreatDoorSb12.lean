/- Texts joined by a program: AwDraw. -/
import Derived.StillTail
import Derived.Deep.Quiet
import Derived.Test.YtmidcjlidploaaaGreatDoorSb11

set_option linter.unusedSimpArgs false
set_option linter.unusedVariables false
namespace Go.Aw
open Go.RowKit
section
variable {P : Program} {ops : Array Oper} {md : Region.Mode} {C : World → Prop} {R : World → World → Prop} {Q' : Exit → Act → World → Prop}
def goes (P : Program) (K : Value → World → Prop) : Result Next → Prop
  | .ok (.value v) w' => K v w'
  | .ok .skip w' => K undef w'
  | .ok (.enter f args) w' => Calls P f args w' fun e w'' => ∃ v, e = .returned v ∧ K v w''
  | .ok (.row row args) w' => Rows P row args w' K
  | _ => False
def gAt (P : Program) (o : Oper) (a : Act) (w : World) (K : Value → World → Prop) : Prop := goes P K ((execOp a.eval o).run P w)
def gOp (P : Program) (ops : Array Oper) (i : Nat) (K : Act → World → Prop) (a : Act) (w : World) : Prop :=
  match ops[i]? with
  | none => False
  | some o => if Region.wanted o (yielded ops a.tmps) = true then gAt P o a w (fun v w' => K (a.put o.dst v) w') else K (a.put o.dst undef) w
theorem goes_mono {K K' : Value → World → Prop} (h : ∀ v w, K v w → K' v w) {r : Result Next} (hh : goes P K r) : goes P K' r := by
  cases r with
  | ok n w' =>
    cases n <;> simp only [goes] at hh ⊢
    case value u => exact h _ _ hh
    case skip => exact h _ _ hh
    case enter f args => exact hh.mono fun e w'' ⟨v, he, hk⟩ => ⟨v, he, h _ _ hk⟩
    case row row args => exact hh.mono h
  | halt x w' => simp only [goes] at hh
theorem gOp_mono {i : Nat} {a : Act} {w : World} {K K' : Act → World → Prop} (h : ∀ a w, K a w → K' a w) (hh : gOp P ops i K a w) : gOp P ops i K' a w := by
  unfold gOp at *
  split
  · rename_i ho; simp only [ho] at hh
  · rename_i o ho
    simp only [ho] at hh
    split
    · rename_i hw; rw [if_pos hw] at hh; exact goes_mono (fun v w' hk => h _ _ hk) hh
    · rename_i hw; rw [if_neg hw] at hh; exact h _ _ hh
theorem wp_of_gAt {o : Oper} {a : Act} {w : World} {K : Act → World → Prop} (h : gAt P o a w (fun v w' => K (a.put o.dst v) w')) : o.wp P a w K Q' := by
  unfold Oper.wp
  unfold gAt at h
  generalize (execOp a.eval o).run P w = r at *
  cases r with
  | ok n w' =>
    cases n <;> simp only [goes] at h <;> simp only [Oper.upon]
    case value u => exact h
    case skip => exact h
    case enter f args => exact h.mono fun e w'' ⟨v, he, hk⟩ => by subst he; exact hk
    case row row args => exact h
  | halt x w' => simp only [goes] at h
theorem wpOp_of_gOp {i : Nat} {a : Act} {w : World} {K : Act → World → Prop} (h : gOp P ops i K a w) : wpOp P ops Q' i K a w := by
  unfold gOp at h
  unfold wpOp
  split
  · rename_i ho; simp only [ho] at h
  · rename_i o ho
    simp only [ho] at h
    split
    · rename_i hw; rw [if_pos hw] at h; exact .inl (wp_of_gAt h)
    · rename_i hw; rw [if_neg hw] at h; exact h
theorem gAt_of_quiet {o : Oper} {a : Act} {w : World} {v : Value} {D : World → Prop} (hD : D w) (h : o.quietAt P a D w v) : gAt P o a w (fun u w' => u = v ∧ D w') := by
  unfold Oper.quietAt at h
  unfold gAt
  generalize (execOp a.eval o).run P w = r at *
  cases r with
  | ok n w' =>
    cases n <;> simp only [Oper.quietUpon] at h <;> simp only [goes]
    case value u => obtain ⟨e1, e2⟩ := h; rw [e1]; exact ⟨e2, hD⟩
    case skip => obtain ⟨e1, e2⟩ := h; rw [e1]; exact ⟨e2.symm, hD⟩
    case enter f args => obtain ⟨e1, hc⟩ := h; rw [e1]; exact hc.mono fun e w'' ⟨he, hw⟩ => ⟨v, he, rfl, hw⟩
  | halt x w' => simp only [Oper.quietUpon] at h
def wpAnyG (P : Program) (md : Region.Mode) (ops : Array Oper) (C : World → Prop) (R : World → World → Prop) (Q' : Exit → Act → World → Prop) : Nat → Array Bool → Act → World → Prop
  | 0, listed, a, w => Region.ready md ops listed = [] ∧ Q' .normal a w
  | f + 1, listed, a, w => Region.ready md ops listed ≠ [] ∧
    ∀ i ∈ Region.ready md ops listed, gOp P ops i (fun a' w' => C w' ∧ ∀ w2, R w' w2 → wpAnyG P md ops C R Q' f (listed.setIfInBounds i true) a' w2) a w
theorem wpAny_of_G (hR : ∀ w, R w w) : ∀ (f : Nat) (listed : Array Bool) (a : Act) (w : World), wpAnyG P md ops C R Q' f listed a w → wpAny P md ops Q' f listed a w
  | 0, _, _, _, h => h
  | f + 1, _, _, _, h => ⟨fun h0 => absurd h0 h.1, fun i hi => wpOp_of_gOp (gOp_mono (fun a' w' hk => wpAny_of_G hR f _ _ _ (hk.2 w' (hR w'))) (h.2 i hi))⟩
def YQ (P : Program) (ops : Array Oper) (C : World → Prop) (R : World → World → Prop) (o : Oper) (v : Value) (a : Act) : Prop :=
  (Region.wanted o (yielded ops a.tmps) = true ∧ ∀ w, C w → o.quietAt P a (R w) w v) ∨ (Region.wanted o (yielded ops a.tmps) = false ∧ v = undef)
theorem YQ.of_same {o : Oper} {v : Value} {a a' : Act} (hy : YQ P ops C R o v a) (he : execOp a'.eval o = execOp a.eval o)
    (hw : Region.wanted o (yielded ops a'.tmps) = Region.wanted o (yielded ops a.tmps)) : YQ P ops C R o v a' := by
  unfold YQ Oper.quietAt at *
  rw [he, hw]
  exact hy
theorem gOp_put {j : Nat} {oi oj : Oper} {v : Value} (hj : ops[j]? = some oj) (hap : oi.apart ops oj = true)
    (hsi : ∀ cs b, oi.op ≠ .select cs b) (hsj : ∀ cs b, oj.op ≠ .select cs b) {K : Act → World → Prop} {a : Act} {w : World}
    (hy : YQ P ops C R oi v a) (h : gOp P ops j K (a.put oi.dst v) w) :
    gOp P ops j (fun a' w' => YQ P ops C R oi v a' ∧ K (a'.put oi.dst v) w') a w := by
  obtain ⟨h1, h2, h3⟩ := Oper.apart_spec hap
  have keep : ∀ u, YQ P ops C R oi v (a.put oj.dst u) := fun u =>
    hy.of_same (execOp_put oi hsi a oj.dst u h3) (wanted_put oi a oj.dst u h3)
  unfold gOp at *
  simp only [hj] at *
  rw [wanted_put oj a oi.dst v h1] at h
  split
  · rename_i hw
    rw [if_pos hw] at h
    unfold gAt at *
    rw [execOp_put oj hsj a oi.dst v h1] at h
    exact goes_mono (fun u w' hk => ⟨keep u, by rw [← Act.put_comm a v u h2]; exact hk⟩) h
  · rename_i hw
    rw [if_neg hw] at h
    exact ⟨keep _, by rw [← Act.put_comm a v undef h2]; exact h⟩
theorem gOp_quiet {i : Nat} {oi : Oper} {v : Value} {a : Act} {w : World} (hi : ops[i]? = some oi) (hC : C w) (hR : ∀ w, R w w) (hy : YQ P ops C R oi v a) {K : Act → World → Prop} (h : ∀ w', R w w' → K (a.put oi.dst v) w') :
    gOp P ops i K a w := by
  unfold gOp
  simp only [hi]
  rcases hy with ⟨hw, hv⟩ | ⟨hw, rfl⟩
  · rw [if_pos hw]
    exact goes_mono (fun u w' ⟨e, hr⟩ => by subst e; exact h w' hr) (gAt_of_quiet (hR w) (hv w hC))
  · rw [if_neg (by simp [hw])]
    exact h w (hR w)
theorem wpAnyG_first {i : Nat} {oi : Oper} {v : Value} (hi : ops[i]? = some oi) (hsel : ∀ (j : Nat) (o : Oper) cs b, ops[j]? = some o → o.op ≠ .select cs b)
    (hR : ∀ w, R w w) (hT : ∀ w w' w'', R w w' → R w' w'' → R w w'') (hCR : ∀ w w', C w → R w w' → C w') :
    ∀ (f : Nat) (listed : Array Bool) (a : Act) (w : World), C w →
      (∀ j oj, ops[j]? = some oj → j ≠ i → listed.getD j true = false → (∀ e ∈ oj.after, Region.binds md e = true → e.on ≠ i) → oi.apart ops oj = true) →
      i ∈ Region.ready md ops listed → YQ P ops C R oi v a →
      (∀ w2, R w w2 → wpAnyG P md ops C R Q' f (listed.setIfInBounds i true) (a.put oi.dst v) w2) → wpAnyG P md ops C R Q' (f + 1) listed a w := by
  intro f
  induction f with
  | zero =>
    intro listed a w hC _ hr hy H
    refine ⟨fun h => (by rw [h] at hr; cases hr), fun j hj => ?_⟩
    by_cases hji : j = i
    · subst hji; exact gOp_quiet hi hC hR hy fun w' hw' => ⟨hCR _ _ hC hw', fun w2 h2 => H w2 (hT _ _ _ hw' h2)⟩
    · have := ready_mono hj hji
      rw [(H w (hR w)).1] at this
      cases this
  | succ f ih =>
    intro listed a w hC hfree hr hy H
    refine ⟨fun h => (by rw [h] at hr; cases hr), fun j hj => ?_⟩
    by_cases hji : j = i
    · subst hji; exact gOp_quiet hi hC hR hy fun w' hw' => ⟨hCR _ _ hC hw', fun w2 h2 => H w2 (hT _ _ _ hw' h2)⟩
    · have h1 := (H w (hR w)).2 j (ready_mono hj hji)
      obtain ⟨hjun, oj, hoj, hall⟩ := mem_ready.1 hj
      have hnot : ∀ e ∈ oj.after, Region.binds md e = true → e.on ≠ i := fun e he hb heq => by
        have h1 := hall e he hb
        have h0 := (mem_ready.1 hr).1
        rw [heq] at h1
        rcases Nat.lt_or_ge i listed.size with h' | h'
        · simp [h'] at h0 h1; rw [h0] at h1; cases h1
        · simp [Array.getElem?_eq_none h'] at h1
      have h2 := gOp_put hoj (hfree j oj hoj hji hjun hnot) (fun cs b => hsel i oi cs b hi) (fun cs b => hsel j oj cs b hoj) hy h1
      have hfree' : ∀ k ok, ops[k]? = some ok → k ≠ i → (listed.setIfInBounds j true).getD k true = false →
          (∀ e ∈ ok.after, Region.binds md e = true → e.on ≠ i) → oi.apart ops ok = true := fun k ok hk hki hun hno => by
        refine hfree k ok hk hki ?_ hno
        by_cases hjk : j = k
        · subst hjk; exact hjun
        · rw [getD_set_ne true hjk] at hun; exact hun
      refine gOp_mono (fun a' w' ⟨hy', hCw, hk⟩ => ⟨hCw, fun w2 h2 => ih (listed.setIfInBounds j true) a' w2 (hCR _ _ hCw h2) hfree' (ready_mono hr (Ne.symm hji)) hy' fun w3 h3 => ?_⟩) h2
      rw [Array.setIfInBounds_comm _ _ hji]
      exact hk w3 (hT _ _ _ h2 h3)
end
def Rw (w w' : World) : Prop := w'.os = w.os ∧ w'.tape = w.tape ∧ w'.output = w.output ∧ w.heap.size ≤ w'.heap.size ∧ ∀ k, k < w.heap.size → w'.heap[k]? = w.heap[k]?
theorem Rw.refl (w : World) : Rw w w := ⟨rfl, rfl, rfl, Nat.le_refl _, fun _ _ => rfl⟩
theorem Rw.trans {w w' w'' : World} (h : Rw w w') (h' : Rw w' w'') : Rw w w'' :=
  ⟨h'.1.trans h.1, h'.2.1.trans h.2.1, h'.2.2.1.trans h.2.2.1, Nat.le_trans h.2.2.2.1 h'.2.2.2.1, fun k hk => (h'.2.2.2.2 k (Nat.lt_of_lt_of_le hk h.2.2.2.1)).trans (h.2.2.2.2 k hk)⟩
def Cb (S : Sg) (wb w : World) : Prop := w.os = wb.os ∧ w.tape = wb.tape ∧ w.output = wb.output ∧ wb.heap.size ≤ w.heap.size ∧ ∀ k, S.fz k → w.heap[k]? = wb.heap[k]?
theorem Cb.rw {S : Sg} {wb w w' : World} {H : Heap} (hS : St S wb H) (h : Cb S wb w) (hr : Rw w w') : Cb S wb w' :=
  ⟨hr.1.trans h.1, hr.2.1.trans h.2.1, hr.2.2.1.trans h.2.2.1, Nat.le_trans h.2.2.2.1 hr.2.2.2.1, fun k hk => (hr.2.2.2.2 k (Nat.lt_of_lt_of_le (hS.fz_lt k hk) h.2.2.2.1)).trans (h.2.2.2.2 k hk)⟩
theorem Rw.cb {S : Sg} {wb w : World} {H : Heap} (hS : St S wb H) (h : Rw wb w) : Cb S wb w := ⟨h.1, h.2.1, h.2.2.1, h.2.2.2.1, fun k hk => h.2.2.2.2 k (hS.fz_lt k hk)⟩
theorem Cb.st {S : Sg} {wb w : World} {H : Heap} (hS : St S wb H) (h : Cb S wb w) : St S w noRows :=
  ⟨hS.ro_fz, fun k hk => Nat.lt_of_lt_of_le (hS.fz_lt k hk) h.2.2.2.1, fun k r hk => by simp [noRows] at hk, fun k r hk => by simp [noRows] at hk, fun k k' r r' hk => by simp [noRows] at hk, hS.tabs.keep S.le_refl (fun k hk => h.2.2.2.2 k (hS.ro_fz k hk))⟩
theorem Cb.kept {S : Sg} {wb w : World} {H : Heap} (hS : St S wb H) (h : Cb S wb w) : Kept S wb w := fun k hk => h.2.2.2.2 k (hS.ro_fz k hk)
theorem Cb.agree {S : Sg} {wb w : World} {H : Heap} (hS : St S wb H) (h : Cb S wb w) : Agree S noRows wb w := ⟨h.kept hS, fun k r hk => by simp [noRows] at hk⟩
theorem Grow.cb {S S' : Sg} {wb w : World} (h : Grow S wb S' w) : Cb S wb w := ⟨h.os, h.tape, h.output, h.size, h.same⟩
section
variable {D : List Deferred} {P : Program} {n : Nat} {S0 : Sg} {w0 : World} {H0 : Heap} {mt : Nat → Bool} {ops : Array Oper} {K : Env → Heap → Prop} {ρ : Env} {H : Heap} {a : Act} {w : World}
theorem Rel.rw {w' : World} (h : Rel D n S0 w0 H0 ρ H a w) (hr : Rw w w') : Rel D n S0 w0 H0 ρ H a w' := by
  obtain ⟨S, hS, hF, hG, hN, hd, hn⟩ := h
  have hg := hS.grow hr.1 hr.2.1 hr.2.2.1 hr.2.2.2.1 hr.2.2.2.2
  exact ⟨S, hS.after hr.2.2.2.1 hr.2.2.2.2, hF.keep S.le_refl (hg.kept hS), hG.trans hg, hN, hd, hn⟩
theorem gAt_of_wp {o : Oper} {K' : Act → World → Prop} (hd : a.defers = D) (hK : ∀ a w, K' a w → a.defers = D) (h : o.wp P a w K' fun _ _ _ => False) : gAt P o a w fun v w' => K' (a.put o.dst v) w' := by
  unfold Oper.wp at h
  unfold gAt
  generalize (execOp a.eval o).run P w = r at *
  cases r with
  | ok m w' =>
    cases m <;> simp only [Oper.upon] at h <;> simp only [goes]
    case value u => exact h
    case skip => exact h
    case enter f args =>
      refine h.mono fun e w'' he => ?_
      cases e
      case returned v => exact ⟨v, rfl, he⟩
      case panicked c => exact he.elim
      case outgrown => obtain ⟨_, _, h⟩ := he; exact h.elim
    case defer d => have := hK _ _ h; rw [defers_put] at this; exact absurd (congrArg List.length this) (by simp [hd])
    case row row args => exact h
  | halt x w' => cases x <;> simp only [Oper.upon] at h
variable {S : Sg}
theorem pure_quiet {o : Oper} {w1 : World} {CC : World → Prop} (hCC : ∀ w, CC w → St S w H ∧ Agree S H w1 w) (hS : St S w1 H) (hF : FR S w1 ρ a) (hn : a.tmps.size = n) (hb : ∀ x ∈ o.op.operands, opB n x = true) {G : Option Bool}
    (hgt : Region.wanted o (yielded ops a.tmps) = true ↔ gt G) (h : apure P G ρ H o.op fun x => K (upd ρ o.dst (wr G x)) H) :
    ∃ z, K (upd ρ o.dst z) H ∧ (Region.wanted o (yielded ops a.tmps) = true → ∃ v, rep S w1 z v ∧ ∀ w, CC w → o.quietAt P a (Rw w) w v) ∧ (Region.wanted o (yielded ops a.tmps) = false → rep S w1 z undef) := by
  obtain ⟨z, hz, hg⟩ := apure_sound (hn ▸ hb) hF hS.rows h
  refine ⟨_, hz, fun hw => ?_, fun hw => ?_⟩
  · obtain ⟨v, hv, hr⟩ := hg (hgt.1 hw)
    refine ⟨v, rep_wr_true (hgt.1 hw) hv, fun w hc => ?_⟩
    unfold Oper.quietAt
    rw [hr w (hCC w hc).2 o rfl]
    exact ⟨rfl, rfl⟩
  · exact rep_wr_false fun h => by rw [hgt.2 h] at hw; simp at hw
theorem acall_quiet {o : Oper} {c : Call} {w1 : World} {CC : World → Prop} (hCC : ∀ w, CC w → St S w H ∧ Agree S H w1 w) (hS : St S w1 H) (hF : FR S w1 ρ a) (hn : a.tmps.size = n) (ho : o.op = .call c) (hb : ∀ x ∈ o.op.operands, opB n x = true) {G : Option Bool}
    (hgt : Region.wanted o (yielded ops a.tmps) = true ↔ gt G) {nl : Bool} (h : acall P (FCalls P) (QCalls P) nl true G o c ρ H K) :
    ∃ z, K (upd ρ o.dst z) H ∧ (Region.wanted o (yielded ops a.tmps) = true → ∃ v, rep S w1 z v ∧ ∀ w, CC w → o.quietAt P a (Rw w) w v) ∧ (Region.wanted o (yielded ops a.tmps) = false → rep S w1 z undef) := by
  rw [ho] at hb
  simp only [Op.operands, Call.operands] at hb
  unfold acall at h
  split at h
  · rename_i b hc
    obtain ⟨ys, h2, hys⟩ := wopds_sound hF c.args.toList (fun x hx => hn ▸ hb x (by simp [Array.mem_toList_iff.1 hx])) h
    clear h
    have h := h2
    clear h2
    split at h
    · rename_i x t hargs
      obtain ⟨z, hz, hl⟩ := alen_sound (G := G) (ty := o.type) hS.rows h
      refine ⟨_, hz, fun hw => ?_, fun hw => rep_wr_false fun h => by rw [hgt.2 h] at hw; simp at hw⟩
      have hgG := hgt.1 hw
      have hr := hys hgG
      simp only [repL] at hr
      obtain ⟨u, t', e1, e2, rfl⟩ := hr
      obtain ⟨v, hv, hrun⟩ := hl hgG u e2
      have ea : c.args.map a.eval = #[u] := Array.toList_inj.1 (by simpa using e1)
      have et : c.argTypes = #[t] := Array.toList_inj.1 (by simpa using hargs)
      refine ⟨v, rep_wr_true hgG hv, fun w hcl => ?_⟩
      unfold Oper.quietAt
      have : (execOp a.eval o).run P w = .ok (.value v) w := by simp [execOp, ho, resolve, hc, invoke, builtin, ea, et, hrun w (hCC w hcl).2]
      rw [this]
      exact ⟨rfl, rfl⟩
    · split at h
      · rename_i hcond; simp at hcond
      · split at h
        · rename_i hcond; simp at hcond
        · exact h.elim
    · split at h
      · rename_i hcond; simp at hcond
      · exact h.elim
    · split at h
      · rename_i hcond; simp at hcond
      · exact h.elim
    · rename_i x y t t' hargs
      obtain ⟨z, hz, hl⟩ := amax_sound (P := P) (S := S) (w := w1) (H := H) (G := G) (tys := c.argTypes) (ty := o.type) h
      refine ⟨_, hz, fun hw => ?_, fun hw => rep_wr_false fun h => by rw [hgt.2 h] at hw; simp at hw⟩
      · have hgG := hgt.1 hw
        have hr := hys hgG
        simp only [repL] at hr
        obtain ⟨us, t1, e1, e2, ux, t2, rfl, e3, rfl⟩ := hr
        obtain ⟨v, hv, hrun⟩ := hl hgG us ux e2 e3
        have ea : c.args.map a.eval = #[us, ux] := Array.toList_inj.1 (by simpa using e1)
        refine ⟨v, rep_wr_true hgG hv, fun w hcl => ?_⟩
        unfold Oper.quietAt
        have : (execOp a.eval o).run P w = .ok (.value v) w := by simp [execOp, ho, resolve, hc, invoke, builtin, ea, hrun w (hCC w hcl).2]
        rw [this]
        exact ⟨rfl, rfl⟩
    · rename_i x y t t' hargs
      obtain ⟨z, hz, hl⟩ := amin_sound (P := P) (S := S) (w := w1) (H := H) (G := G) (tys := c.argTypes) (ty := o.type) h
      refine ⟨_, hz, fun hw => ?_, fun hw => rep_wr_false fun h => by rw [hgt.2 h] at hw; simp at hw⟩
      · have hgG := hgt.1 hw
        have hr := hys hgG
        simp only [repL] at hr
        obtain ⟨us, t1, e1, e2, ux, t2, rfl, e3, rfl⟩ := hr
        obtain ⟨v, hv, hrun⟩ := hl hgG us ux e2 e3
        have ea : c.args.map a.eval = #[us, ux] := Array.toList_inj.1 (by simpa using e1)
        refine ⟨v, rep_wr_true hgG hv, fun w hcl => ?_⟩
        unfold Oper.quietAt
        have : (execOp a.eval o).run P w = .ok (.value v) w := by simp [execOp, ho, resolve, hc, invoke, builtin, ea, hrun w (hCC w hcl).2]
        rw [this]
        exact ⟨rfl, rfl⟩
    · exact h.elim
  · rename_i f hc
    obtain ⟨yf, h2, hf⟩ := wopd_sound (S := S) (w := w1) h
    clear h
    have h := h2
    clear h2
    split at h
    · rename_i g fst cpt hfn
      by_cases hnl : nl = true
      · rw [if_pos hnl] at h
        exact absurd h.2.1 (by decide)
      rw [if_neg hnl] at h
      obtain ⟨ys, h2, hys⟩ := wopds_sound hF c.args.toList (fun x hx => hn ▸ hb x (by simp [hc, Array.mem_toList_iff.1 hx])) h
      clear h
      obtain ⟨hok, h⟩ := h2
      have hfv := fun hg => fnOf_sound hfn (hf hg _ (aev_sound hF (hn ▸ hb f (by simp [hc]))))
      have hargs : gt G → ∃ first captured : Array Value, a.eval f = .func (.func g) first captured ∧ repL S w1 (fst ++ ys ++ cpt) (first ++ c.args.map a.eval ++ captured).toList := fun hg => by
        obtain ⟨first, captured, h1, h2, h3⟩ := hfv hg
        refine ⟨first, captured, h1, ?_⟩
        simp only [Array.toList_append]
        refine repL_append _ _ _ _ (repL_append _ _ _ _ h2 ?_) h3
        simpa using hys hg
      split at h
      · rename_i hcond; simp at hcond
      · obtain ⟨r, hq, hk⟩ := h
        by_cases hgG : gt G
        · rcases hq hgG with hq | ⟨x, rfl, hpc⟩
          · obtain ⟨v, hv'⟩ := hq.val
            rw [nfq_flat (by rw [hv']; rfl)] at hk
            refine ⟨_, hk, fun hw => ?_, fun hw => rep_wr_false fun h => by rw [hgt.2 h] at hw; simp at hw⟩
            obtain ⟨first, captured, hfe, hra⟩ := hargs hgG
            have hexec : ∀ w, (execOp a.eval o).run P w = .ok (.enter g (first ++ c.args.map a.eval ++ captured)) w := fun w => by
              simp only [execOp, ho]
              rw [run_resolve_fn hc hfe]
              simp [invoke, run_callFunc hok]
            have hv := (hq.calls hv' hS hra).1
            refine ⟨v, rep_wr_true hgG (hv S w1), fun w hcl => ?_⟩
            have hcalls := (hq.calls hv' (hCC w hcl).1 (repL_mono S.le_refl (hCC w hcl).2.kept _ _ hra)).2
            unfold Oper.quietAt
            rw [hexec]
            refine ⟨rfl, ?_⟩
            rw [Array.toArray_toList] at hcalls
            exact hcalls
          · exact hk.elim
        · obtain ⟨z, hk⟩ := nfq_elim hk
          refine ⟨_, hk, fun hw => absurd (hgt.1 hw) hgG, fun hw => rep_wr_false hgG⟩
    · exact h.elim
  · exact h.elim
theorem aop_quiet {o : Oper} {w1 : World} {CC : World → Prop} (hCC : ∀ w, CC w → St S w H ∧ Agree S H w1 w) (hops : ∀ o ∈ ops, operB n o = true) (hS : St S w1 H) (hF : FR S w1 ρ a) (hn : a.tmps.size = n) (hb : operB n o = true) (h : aop P (FCalls P) (QCalls P) mt true ops o ρ H K) :
    ∃ z, K (upd ρ o.dst z) H ∧ (Region.wanted o (yielded ops a.tmps) = true → ∃ v, rep S w1 z v ∧ ∀ w, CC w → o.quietAt P a (Rw w) w v) ∧ (Region.wanted o (yielded ops a.tmps) = false → rep S w1 z undef) := by
  obtain ⟨hbo, _⟩ := operB_spec hb
  unfold aop at h
  obtain ⟨G, h2, hgt⟩ := wguard_sound hops hF hn h
  clear h
  have h := h2
  clear h2
  split at h
  · rename_i x ho
    unfold aassign at h
    split at h
    · rename_i hmt; simp at hmt
    · exact pure_quiet hCC hS hF hn hbo hgt (by rw [ho]; exact h)
  · split at h
    · simp at h
    · exact h.elim
  · simp at h
  · simp at h
  · simp at h
  · rename_i c ho; exact acall_quiet hCC hS hF hn ho hbo hgt h
  all_goals first
    | exact h.elim
    | (simp at h; done)
    | (rename_i ho; split at h
       · simp at h; done
       · exact pure_quiet hCC hS hF hn hbo hgt (by rw [ho]; exact h))
    | (rename_i ho; split at h
       · obtain ⟨rfl, h⟩ := h
         rw [if_pos rfl] at h
         obtain ⟨z, hz, v, hv, hq⟩ := buildQ_core (S := S) (w1 := w1) hF (fun x hx => hn ▸ hbo x hx) ho h
         exact ⟨z, hz, fun _ => ⟨v, hv, fun w _ => by unfold Oper.quietAt; rw [hq w]; exact ⟨rfl, rfl⟩⟩, fun hw => by rw [wanted_none hgt rfl] at hw; cases hw⟩
       · exact pure_quiet hCC hS hF hn hbo hgt (by rw [ho]; exact h))
    | (rename_i ho; exact pure_quiet hCC hS hF hn hbo hgt (by rw [ho]; exact h))
theorem slice_quiet {o : Oper} {w1 : World} {CC : World → Prop} (hCC : ∀ w, CC w → St S w noRows ∧ Agree S noRows w1 w) (hS : St S w1 H) (hF : FR S w1 ρ a) (hn : a.tmps.size = n) {t : TypeId} {x : Operand} {lo hi m : Option Operand} (ho : o.op = .slice t x lo hi m) (hb : ∀ x ∈ o.op.operands, opB n x = true) {G : Option Bool}
    (hgt : Region.wanted o (yielded ops a.tmps) = true ↔ gt G) (h : apure P G ρ H o.op fun x => K (upd ρ o.dst (wr G x)) H) :
    ∃ z, K (upd ρ o.dst z) H ∧ (Region.wanted o (yielded ops a.tmps) = true → ∃ v, rep S w1 z v ∧ ∀ w, CC w → o.quietAt P a (Rw w) w v) ∧ (Region.wanted o (yielded ops a.tmps) = false → rep S w1 z undef) := by
  rw [ho] at hb h
  obtain ⟨z, hz, hg⟩ := apure_slice_sound (H' := noRows) (hn ▸ hb) hF hS.rows h
  refine ⟨_, hz, fun hw => ?_, fun hw => ?_⟩
  · obtain ⟨v, hv, hr⟩ := hg (hgt.1 hw)
    refine ⟨v, rep_wr_true (hgt.1 hw) hv, fun w hc => ?_⟩
    unfold Oper.quietAt
    rw [hr w (hCC w hc).2 o ho]
    exact ⟨rfl, rfl⟩
  · exact rep_wr_false fun h => by rw [hgt.2 h] at hw; simp at hw
theorem aop_quietH {o : Oper} {w1 : World} {CC : World → Prop} (hCC : ∀ w, CC w → St S w noRows ∧ Agree S noRows w1 w) (hops : ∀ o ∈ ops, operB n o = true) (hS : St S w1 H) (hF : FR S w1 ρ a) (hn : a.tmps.size = n) (hb : operB n o = true) {K : Env → Prop} (h : aop P (FCalls P) (QCalls P) mt true ops o ρ (qH o H) fun ρ' _ => K ρ') :
    ∃ z, K (upd ρ o.dst z) ∧ (Region.wanted o (yielded ops a.tmps) = true → ∃ v, rep S w1 z v ∧ ∀ w, CC w → o.quietAt P a (Rw w) w v) ∧ (Region.wanted o (yielded ops a.tmps) = false → rep S w1 z undef) := by
  by_cases hs : ∃ t x lo hi m, o.op = .slice t x lo hi m
  · obtain ⟨t, x, lo, hi, m, ho⟩ := hs
    have e : qH o H = H := by unfold qH; rw [ho]
    rw [e] at h
    obtain ⟨hbo, _⟩ := operB_spec hb
    unfold aop at h
    obtain ⟨G, h2, hgt⟩ := wguard_sound hops hF hn h
    clear h
    rw [ho] at h2
    exact slice_quiet (K := fun ρ' _ => K ρ') hCC hS hF hn ho hbo hgt (by rw [ho]; exact h2)
  · have e : qH o H = noRows := by
      unfold qH
      split
      · rename_i ho; exact absurd ⟨_, _, _, _, _, ho⟩ hs
      · rfl
    rw [e] at h
    exact aop_quiet (K := fun ρ' _ => K ρ') hCC hops (hS.drop fun k r hk => by simp [noRows] at hk) hF hn hb h
theorem aops_seqG {Q' : Exit → Act → World → Prop} {wb : World} {Sb : Sg} {Hb : Heap} (hops : ∀ o ∈ ops, operB n o = true) (hQ : ∀ ρ H a w, K ρ H → Rel D n Sb wb Hb ρ H a w → Q' .normal a w) :
    ∀ (l : List Oper) (k : Nat) (listed : Array Bool) (ρ : Env) (H : Heap) (a : Act) (w : World), (∀ j, l[j]? = ops[k + j]?) → (∀ o ∈ l, operB n o = true) → Region.seqB .any ops l.length k listed = true →
      aops P (FCalls P) (QCalls P) mt false ops K l ρ H → Rel D n Sb wb Hb ρ H a w → wpAnyG P .any ops (Cb Sb wb) Rw Q' l.length listed a w
  | [], _, _, ρ, H, a, w, _, _, hB, h, hR => ⟨by simpa [Region.seqB] using hB, hQ ρ H a w h hR⟩
  | o :: rest, k, listed, ρ, H, a, w, hl, hb, hB, h, hR => by
    have h0 : ops[k]? = some o := by simpa using (hl 0).symm
    simp only [List.length_cons, Region.seqB, Bool.and_eq_true, decide_eq_true_eq] at hB
    refine ⟨by rw [hB.1]; simp, fun i hi => ?_⟩
    rw [hB.1] at hi
    have hik : i = k := by simpa using hi
    subst hik
    obtain ⟨S, hS, hF, hG, hN, hd, hn⟩ := hR
    have he := aop_sound (K' := fun a' w' => a'.defers = D ∧ Cb Sb wb w' ∧ ∀ w2, Rw w' w2 → wpAnyG P .any ops (Cb Sb wb) Rw Q' rest.length (listed.setIfInBounds i true) a' w2) (Q' := fun _ _ _ => False) hops hS hF hG hN hd hn (hb o (by simp))
      (fun ρ' H' a' w' hk hr => by
        refine ⟨?_, ?_, fun w2 h2 => aops_seqG hops hQ rest (i + 1) _ ρ' H' a' w2 (fun j => by have := hl (j + 1); simpa [Nat.add_assoc, Nat.add_comm 1 j] using this) (fun o ho => hb o (by simp [ho])) hB.2 hk (hr.rw h2)⟩
        · obtain ⟨S', _, _, _, _, hd', _⟩ := hr; exact hd'
        · obtain ⟨S', _, _, hG', _⟩ := hr; exact hG'.cb) h
    unfold gOp
    simp only [h0]
    by_cases hw : Region.wanted o (yielded ops a.tmps) = true
    · rw [if_pos hw]
      exact goes_mono (fun v w' hk => hk.2) (gAt_of_wp hd (fun a w hk => hk.1) (he.1 hw))
    · rw [if_neg hw]
      exact (he.2 (by simpa using hw)).2
theorem aops_headG {Q' : Exit → Act → World → Prop} {wb : World} {Sb : Sg} (hops : ∀ o ∈ ops, operB n o = true) (hs : Region.noSelect ops = true) (hS : St Sb wb noRows) {g : Nat}
    (hK : ∀ ρ a listed w, K ρ noRows → Rw wb w → FR Sb wb ρ a → a.defers = D → a.tmps.size = n → ∀ k, Region.seqB .any ops g k listed = true → k = ops.size - g → wpAnyG P .any ops (Cb Sb wb) Rw Q' g listed a w) :
    ∀ (l : List Oper) (k : Nat) (listed : Array Bool) (ρ : Env) (a : Act), (∀ j, j < l.length → l[j]? = ops[k + j]?) → k + l.length = ops.size - g → (∀ o ∈ l, operB n o = true) → Region.lexHead .any ops g l.length k listed = true →
      aops P (FCalls P) (QCalls P) mt true ops K l ρ noRows → FR Sb wb ρ a → a.defers = D → a.tmps.size = n → ∀ w, Rw wb w → wpAnyG P .any ops (Cb Sb wb) Rw Q' (l.length + g) listed a w
  | [], k, listed, ρ, a, _, hk, _, hB, h, hF, hd, hn, w, hC => by
    rw [List.length_nil, Nat.zero_add]
    exact hK ρ a listed w h hC hF hd hn k hB (by simpa using hk)
  | o :: rest, k, listed, ρ, a, hl, hk, hb, hB, h, hF, hd, hn, w, hC => by
    have h0 : ops[k]? = some o := by simpa using (hl 0 (by simp)).symm
    simp only [List.length_cons, Region.lexHead, Bool.and_eq_true] at hB
    obtain ⟨⟨hr, hf⟩, hB'⟩ := hB
    obtain ⟨z, hz, h1, h2⟩ := aop_quiet (CC := Cb Sb wb) (fun w hc => ⟨hc.st hS, hc.agree hS⟩) hops hS hF hn (hb o (by simp)) h
    have next : ∀ v, rep Sb wb z v → ∀ w2, Rw w w2 → wpAnyG P .any ops (Cb Sb wb) Rw Q' (rest.length + g) (listed.setIfInBounds k true) (a.put o.dst v) w2 := fun v hv w2 h2 =>
      aops_headG hops hs hS hK rest (k + 1) _ _ _ (fun j hj => by have := hl (j + 1) (by simp; omega); simpa [Nat.add_assoc, Nat.add_comm 1 j] using this) (by simp only [List.length_cons] at hk; omega) (fun o ho => hb o (by simp [ho])) hB' hz (FR.put hF hv) (by rw [defers_put]; exact hd) (by rw [size_put]; exact hn) w2 (hC.trans h2)
    rw [List.length_cons, show rest.length + 1 + g = (rest.length + g) + 1 by omega]
    by_cases hw : Region.wanted o (yielded ops a.tmps) = true
    · obtain ⟨v, hv, hq⟩ := h1 hw
      exact wpAnyG_first h0 (Region.noSelect_spec hs) Rw.refl (fun _ _ _ => Rw.trans) (fun _ _ hc hr => hc.rw hS hr) _ listed a w (hC.cb hS) (Region.free_spec h0 hf) (by simpa using hr) (.inl ⟨hw, hq⟩) (next v hv)
    · have hw' : Region.wanted o (yielded ops a.tmps) = false := by simpa using hw
      exact wpAnyG_first h0 (Region.noSelect_spec hs) Rw.refl (fun _ _ _ => Rw.trans) (fun _ _ hc hr => hc.rw hS hr) _ listed a w (hC.cb hS) (Region.free_spec h0 hf) (by simpa using hr) (.inr ⟨hw', rfl⟩) (next _ (h2 hw'))
theorem draw_sound {Q' : Exit → Act → World → Prop} {id m : Nat} (hm : P.follows .mixedOrders = true) (hops : ∀ o ∈ ops, operB n o = true) (hB : drawB ops m = true)
    (h : aops P (FCalls P) (QCalls P) mt true ops (fun ρ' _ => aops P (FCalls P) (QCalls P) mt false ops K (ops.toList.drop m) ρ' H) (ops.toList.take m) ρ noRows)
    (hR : Rel D n S0 w0 H0 ρ H a w) (hQ : ∀ ρ H a w, K ρ H → Rel D n S0 w0 H0 ρ H a w → Q' .normal a w) : (Code.region id ops true).wp P Q' a w := by
  obtain ⟨S, hS, hF, hG, hN, hd, hn⟩ := hR
  simp only [drawB, Bool.and_eq_true, decide_eq_true_eq] at hB
  obtain ⟨⟨hs, hle⟩, hlex⟩ := hB
  let w1 : World := { w with drawn := w.drawn + 1 }
  have hS1 : St S w1 H := hS.after (Nat.le_refl _) fun _ _ => rfl
  have hg1 : Grow S w S w1 := hS.grow rfl rfl rfl (Nat.le_refl _) fun _ _ => rfl
  have hF1 : FR S w1 ρ a := hF.keep S.le_refl (hg1.kept hS)
  have hSn : St S w1 noRows := hS1.drop fun k r hk => by simp [noRows] at hk
  refine wp_region_any hm (wpAny_of_G (C := Cb S w1) (R := Rw) Rw.refl _ _ _ _ ?_)
  have htl : (ops.toList.take m).length = m := by simp; omega
  have := aops_headG (Q' := Q') (g := ops.size - m) (wb := w1) (Sb := S) hops hs hSn (K := fun ρ' _ => aops P (FCalls P) (QCalls P) mt false ops K (ops.toList.drop m) ρ' H) (fun ρ' a' listed w' hk hC hF' hd' hn' k hseq hkk => by
    have hkm : k = m := by omega
    subst hkm
    have hx := aops_seqG (Q' := Q') (wb := w1) (Sb := S) (Hb := H) hops (K := K) (fun ρ H a w hk hr => by
      obtain ⟨S', hS', hF', hG', hN', hd', hn'⟩ := hr
      exact hQ ρ H a w hk ⟨S', hS', hF', hG.trans (hg1.trans hG'), hN.trans hN' hG.le.N, hd', hn'⟩) (ops.toList.drop k) k listed ρ' H a' w' (fun j => by simp [List.getElem?_drop]) (fun o ho => hops o (Array.mem_toList_iff.1 (List.mem_of_mem_drop ho)))
      (by simpa using hseq) hk ?_
    · simpa using hx
    · have hg := hS1.grow hC.1 hC.2.1 hC.2.2.1 hC.2.2.2.1 hC.2.2.2.2
      exact ⟨S, hS1.after hC.2.2.2.1 hC.2.2.2.2, hF'.keep S.le_refl (hg.kept hS1), hg, NewK.refl _ _, hd', hn'⟩) (ops.toList.take m) 0 (Array.replicate ops.size false) ρ a (fun j hj => by
        have hj' : j < m := by rw [htl] at hj; exact hj
        simp [hj']) (by rw [htl]; omega) (fun o ho => hops o (Array.mem_toList_iff.1 (List.mem_of_mem_take ho))) (by rw [htl]; exact hlex) h hF1 hd hn w1 (Rw.refl w1)
  rw [htl, show m + (ops.size - m) = ops.size by omega] at this
  exact this
theorem wpAnyG_weak {C C' : World → Prop} {R : World → World → Prop} {Q' : Exit → Act → World → Prop} (h : ∀ w, C' w → C w) : ∀ (f : Nat) (listed : Array Bool) (a : Act) (w : World), wpAnyG P .any ops C' R Q' f listed a w → wpAnyG P .any ops C R Q' f listed a w
  | 0, _, _, _, hw => hw
  | f + 1, _, _, _, hw => ⟨hw.1, fun i hi => gOp_mono (fun a' w' hk => ⟨h w' hk.1, fun w2 h2 => wpAnyG_weak h f _ _ _ (hk.2 w2 h2)⟩) (hw.2 i hi)⟩
theorem Cb.mono {S S' : Sg} {w w' w2 : World} {H : Heap} (hS : St S w H) (hg : Grow S w S' w') (h : Cb S' w' w2) : Cb S w w2 :=
  ⟨h.1.trans hg.os, h.2.1.trans hg.tape, h.2.2.1.trans hg.output, Nat.le_trans hg.size h.2.2.2.1, fun k hk => (h.2.2.2.2 k (hg.fz k hk)).trans (hg.same k hk)⟩
theorem amix_soundG {Q' : Exit → Act → World → Prop} (hops : ∀ o ∈ ops, operB n o = true) (hsel : Region.noSelect ops = true) (hQ : ∀ ρ H a w, K ρ H → Rel D n S0 w0 H0 ρ H a w → Q' .normal a w) :
    ∀ (f : List (Nat × Bool)) (listed : Array Bool) (ρ : Env) (H : Heap) (a : Act) (w : World) (S : Sg), mixFrom ops f listed = true →
      amix P (FCalls P) (QCalls P) mt ops K f ρ H → St S w H → FR S w ρ a → Grow S0 w0 S w → NewK S0.N H0 H → a.defers = D → a.tmps.size = n → ∀ w2, Rw w w2 → wpAnyG P .any ops (Cb S w) Rw Q' f.length listed a w2
  | [], listed, ρ, H, a, w, S, hB, h, hS, hF, hG, hN, hd, hn, w2, h2 => by
    refine ⟨by simpa [mixFrom] using hB, hQ ρ H a w2 h (Rel.rw ⟨S, hS, hF, hG, hN, hd, hn⟩ h2)⟩
  | (k, true) :: f, listed, ρ, H, a, w, S, hB, h, hS, hF, hG, hN, hd, hn, w2, h2 => by
    simp only [mixFrom, Bool.and_eq_true] at hB
    obtain ⟨⟨hr, hf⟩, hB'⟩ := hB
    unfold amix at h
    split at h
    · rename_i o h0
      rw [if_pos rfl] at h
      have hbo := hops o (Array.mem_of_getElem? h0)
      obtain ⟨z, hz, h1, h3⟩ := aop_quietH (CC := Cb S w) (K := fun ρ' => amix P (FCalls P) (QCalls P) mt ops K f ρ' H) (fun w hc => ⟨hc.st hS, hc.agree hS⟩) hops hS hF hn hbo h
      have next : ∀ v, rep S w z v → ∀ w3, Rw w w3 → wpAnyG P .any ops (Cb S w) Rw Q' f.length (listed.setIfInBounds k true) (a.put o.dst v) w3 := fun v hv w3 h3 =>
        amix_soundG hops hsel hQ f _ _ H _ w S hB' hz hS (FR.put hF hv) hG hN (by rw [defers_put]; exact hd) (by rw [size_put]; exact hn) w3 h3
      rw [List.length_cons]
      by_cases hw : Region.wanted o (yielded ops a.tmps) = true
      · obtain ⟨v, hv, hq⟩ := h1 hw
        exact wpAnyG_first h0 (Region.noSelect_spec hsel) Rw.refl (fun _ _ _ => Rw.trans) (fun _ _ hc hr => hc.rw hS hr) _ listed a w2 (h2.cb hS) (Region.free_spec h0 hf) (by simpa using hr) (.inl ⟨hw, hq⟩) (fun w3 h3 => next v hv w3 (h2.trans h3))
      · have hw' : Region.wanted o (yielded ops a.tmps) = false := by simpa using hw
        exact wpAnyG_first h0 (Region.noSelect_spec hsel) Rw.refl (fun _ _ _ => Rw.trans) (fun _ _ hc hr => hc.rw hS hr) _ listed a w2 (h2.cb hS) (Region.free_spec h0 hf) (by simpa using hr) (.inr ⟨hw', rfl⟩) (fun w3 h3' => next _ (h3 hw') w3 (h2.trans h3'))
    · exact h.elim
  | (k, false) :: f, listed, ρ, H, a, w, S, hB, h, hS, hF, hG, hN, hd, hn, w2, h2 => by
    simp only [mixFrom, Bool.and_eq_true, decide_eq_true_eq] at hB
    unfold amix at h
    split at h
    · rename_i o h0
      rw [if_neg (by simp)] at h
      have hbo := hops o (Array.mem_of_getElem? h0)
      rw [List.length_cons]
      refine ⟨by rw [hB.1]; simp, fun i hi => ?_⟩
      rw [hB.1] at hi
      have hik : i = k := by simpa using hi
      subst hik
      have hg2 := hS.grow h2.1 h2.2.1 h2.2.2.1 h2.2.2.2.1 h2.2.2.2.2
      have hS2 : St S w2 H := hS.after h2.2.2.2.1 h2.2.2.2.2
      have hF2 : FR S w2 ρ a := hF.keep S.le_refl (hg2.kept hS)
      have he := aop_sound (S0 := S) (w0 := w2) (H0 := H) (K := amix P (FCalls P) (QCalls P) mt ops K f) (K' := fun a' w' => a'.defers = D ∧ Cb S w w' ∧ ∀ w3, Rw w' w3 → wpAnyG P .any ops (Cb S w) Rw Q' f.length (listed.setIfInBounds i true) a' w3) (Q' := fun _ _ _ => False) hops hS2 hF2 (Grow.refl S w2) (NewK.refl _ _) hd hn hbo
        (fun ρ' H' a' w' hk hr => by
          obtain ⟨S', hS', hF', hG', hN', hd', hn'⟩ := hr
          have hGw : Grow S w S' w' := hg2.trans hG'
          refine ⟨hd', hGw.cb, fun w3 h3 => ?_⟩
          refine wpAnyG_weak (fun x hx => Cb.mono hS hGw hx) _ _ _ _ (amix_soundG hops hsel hQ f _ ρ' H' a' w' S' hB.2 hk hS' hF' (hG.trans hGw) (hN.trans hN' hG.le.N) hd' hn' w3 h3)) h
      unfold gOp
      simp only [h0]
      by_cases hw : Region.wanted o (yielded ops a.tmps) = true
      · rw [if_pos hw]
        exact goes_mono (fun v w' hk => hk.2) (gAt_of_wp hd (fun a w hk => hk.1) (he.1 hw))
      · rw [if_neg hw]
        exact (he.2 (by simpa using hw)).2
    · exact h.elim
theorem mix_sound {Q' : Exit → Act → World → Prop} {id : Nat} {f : List (Nat × Bool)} (hm : P.follows .mixedOrders = true) (hops : ∀ o ∈ ops, operB n o = true) (hB : mixB ops f = true)
    (h : amix P (FCalls P) (QCalls P) mt ops K f ρ H)
    (hR : Rel D n S0 w0 H0 ρ H a w) (hQ : ∀ ρ H a w, K ρ H → Rel D n S0 w0 H0 ρ H a w → Q' .normal a w) : (Code.region id ops true).wp P Q' a w := by
  obtain ⟨S, hS, hF, hG, hN, hd, hn⟩ := hR
  simp only [mixB, Bool.and_eq_true, decide_eq_true_eq] at hB
  obtain ⟨⟨hs, hle⟩, hlex⟩ := hB
  let w1 : World := { w with drawn := w.drawn + 1 }
  have hS1 : St S w1 H := hS.after (Nat.le_refl _) fun _ _ => rfl
  have hg1 : Grow S w S w1 := hS.grow rfl rfl rfl (Nat.le_refl _) fun _ _ => rfl
  have hF1 : FR S w1 ρ a := hF.keep S.le_refl (hg1.kept hS)
  refine wp_region_any hm (wpAny_of_G (C := Cb S w1) (R := Rw) Rw.refl _ _ _ _ ?_)
  have := amix_soundG (Q' := Q') hops hs hQ f (Array.replicate ops.size false) ρ H a w1 S hlex h hS1 hF1 (hG.trans hg1) hN hd hn w1 (Rw.refl w1)
  rw [hle] at this
  exact this
structure Pin (S : Sg) (w : World) (Hp : Heap) : Prop where
  rows : Rows' S w Hp
  fz : ∀ k r, Hp k = some r → ∀ g, blk (S.loc k) = some g → S.fz g ∧ ¬ S.ro g
  disj : ∀ k k' r r', Hp k = some r → Hp k' = some r' → k ≠ k' → ∀ g, blk (S.loc k) = some g → blk (S.loc k') ≠ some g
def isPin (S : Sg) (Hp : Heap) (g : Nat) : Prop := ∃ k r, Hp k = some r ∧ blk (S.loc k) = some g
def Sg.unpin (S : Sg) (Hp : Heap) : Sg := { S with fz := fun g => S.fz g ∧ ¬ isPin S Hp g }
def Sg.pin (S : Sg) (Hp : Heap) : Sg := { S with fz := fun g => S.fz g ∨ isPin S Hp g }
theorem Sg.le_unpin (S : Sg) (Hp : Heap) : S.le (S.unpin Hp) := ⟨fun _ h => h, Nat.le_refl _, fun _ _ => rfl, fun _ _ => rfl⟩
theorem Sg.unpin_le (S : Sg) (Hp : Heap) : (S.unpin Hp).le S := ⟨fun _ h => h, Nat.le_refl _, fun _ _ => rfl, fun _ _ => rfl⟩
theorem Sg.le_pin (S : Sg) (Hp : Heap) : S.le (S.pin Hp) := ⟨fun _ h => h, Nat.le_refl _, fun _ _ => rfl, fun _ _ => rfl⟩
theorem Pin.merge {Hp Hm : Heap} (h : Pin S w Hp) (hS : St S w H) (hm : ∀ k r, Hm k = some r → H k = some r ∨ Hp k = some r) : St (S.unpin Hp) w Hm := by
  have hr : ∀ k r, Hm k = some r → RowOK S w k r := fun k r hk => by
    rcases hm k r hk with h1 | h1
    · exact hS.rows k r h1
    · exact h.rows k r h1
  refine ⟨fun k hk => ⟨hS.ro_fz k hk, fun ⟨i, r, hi, hg⟩ => (h.fz i r hi k hg).2 hk⟩, fun k hk => hS.fz_lt k hk.1, fun k r hk => (hr k r hk).keep (S.le_unpin Hp) (Kept.refl S w) (fun _ _ => rfl), fun k r hk g hg hf => ?_, fun k k' r r' hk hk' hne g hg hg' => ?_, hS.tabs⟩
  · rcases hm k r hk with h1 | h1
    · exact hS.free k r h1 g hg hf.1
    · exact hf.2 ⟨k, r, h1, hg⟩
  · rcases hm k r hk with h1 | h1 <;> rcases hm k' r' hk' with h2 | h2
    · exact hS.disj k k' r r' h1 h2 hne g hg hg'
    · exact hS.free k r h1 g hg (h.fz k' r' h2 g hg').1
    · exact hS.free k' r' h2 g hg' (h.fz k r h1 g hg).1
    · exact h.disj k k' r r' h1 h2 hne g hg hg'
theorem Pin.keep {Hp : Heap} {S' : Sg} {w' : World} (h : Pin S w Hp) (hS : St S w H) (hg : Grow S w S' w') : Pin S' w' Hp := by
  refine ⟨fun k r hk => (h.rows k r hk).keep hg.le (hg.kept hS) (fun g hb => hg.same g (h.fz k r hk g hb).1), fun k r hk g hb => ?_, fun k k' r r' hk hk' hne g hb => ?_⟩
  · rw [hg.le.loc k (h.rows k r hk).lt] at hb
    have h1 := h.fz k r hk g hb
    refine ⟨hg.fz g h1.1, fun h2 => ?_⟩
    rcases hg.newro g h2 with h3 | h3
    · exact h1.2 h3
    · exact h3 h1.1
  · rw [hg.le.loc k (h.rows k r hk).lt] at hb
    rw [hg.le.loc k' (h.rows k' r' hk').lt]
    exact h.disj k k' r r' hk hk' hne g hb
theorem Cb.pin {wb w : World} {H Hp : Heap} (hS : St S wb H) (hp : Pin S wb Hp) (h : Cb S wb w) : St (S.unpin Hp) w Hp ∧ Agree (S.unpin Hp) Hp wb w := by
  have hg : Grow S wb S w := ⟨S.le_refl, fun _ h => h, h.1, h.2.1, h.2.2.1, h.2.2.2.1, h.2.2.2.2, fun _ h => .inl h⟩
  exact ⟨(hp.keep hS hg).merge (h.st hS) (fun k r hk => .inr hk), ⟨fun k hk => h.2.2.2.2 k (hS.ro_fz k hk), fun k r hk g hb => h.2.2.2.2 g (hp.fz k r hk g hb).1⟩⟩
theorem loud_step {Q' : Exit → Act → World → Prop} {Hp : Heap} (hops : ∀ o ∈ ops, operB n o = true) {i m : Nat} {o : Oper} {listed : Array Bool} {K1 : Env → Heap → Prop} (h0 : ops[i]? = some o) (h : aop P (FCalls P) (QCalls P) mt false ops o ρ H K1)
    (hS : St S w H) (hP : Pin S w Hp) (hF : FR S w ρ a) (hd : a.defers = D) (hn : a.tmps.size = n) {w2 : World} (h2 : Rw w w2)
    (next : ∀ ρ' H' a' w' S', K1 ρ' H' → St S' w' H' → Pin S' w' Hp → FR S' w' ρ' a' → Grow S w S' w' → NewK S.N H H' → a'.defers = D → a'.tmps.size = n → ∀ w3, Rw w' w3 → wpAnyG P .any ops (Cb S' w') Rw Q' m (listed.setIfInBounds i true) a' w3) :
    gOp P ops i (fun a' w' => Cb S w w' ∧ ∀ w3, Rw w' w3 → wpAnyG P .any ops (Cb S w) Rw Q' m (listed.setIfInBounds i true) a' w3) a w2 := by
  have hbo := hops o (Array.mem_of_getElem? h0)
  have hg2 := hS.grow h2.1 h2.2.1 h2.2.2.1 h2.2.2.2.1 h2.2.2.2.2
  have hS2 : St S w2 H := hS.after h2.2.2.2.1 h2.2.2.2.2
  have hP2 : Pin S w2 Hp := hP.keep hS hg2
  have hF2 : FR S w2 ρ a := hF.keep S.le_refl (hg2.kept hS)
  have he := aop_sound (S0 := S) (w0 := w2) (H0 := H) (K := K1) (K' := fun a' w' => a'.defers = D ∧ Cb S w w' ∧ ∀ w3, Rw w' w3 → wpAnyG P .any ops (Cb S w) Rw Q' m (listed.setIfInBounds i true) a' w3) (Q' := fun _ _ _ => False) hops hS2 hF2 (Grow.refl S w2) (NewK.refl _ _) hd hn hbo
    (fun ρ' H' a' w' hk hr => by
      obtain ⟨S', hS', hF', hG', hN', hd', hn'⟩ := hr
      have hGw : Grow S w S' w' := hg2.trans hG'
      refine ⟨hd', hGw.cb, fun w3 h3 => ?_⟩
      exact wpAnyG_weak (fun x hx => Cb.mono hS hGw hx) _ _ _ _ (next ρ' H' a' w' S' hk hS' (hP2.keep hS2 hG') hF' hGw hN' hd' hn' w3 h3)) h
  unfold gOp
  simp only [h0]
  by_cases hw : Region.wanted o (yielded ops a.tmps) = true
  · rw [if_pos hw]
    exact goes_mono (fun v w' hk => hk.2) (gAt_of_wp hd (fun a w hk => hk.1) (he.1 hw))
  · rw [if_neg hw]
    exact (he.2 (by simpa using hw)).2
theorem aopO_spec {q : Bool} {k : Nat} {K1 : Env → Heap → Prop} (h : aopO P (FCalls P) (QCalls P) mt q ops k ρ H K1) : ∃ o, ops[k]? = some o ∧ aop P (FCalls P) (QCalls P) mt q ops o ρ H K1 := by
  unfold aopO at h
  split at h
  · rename_i o h0; exact ⟨o, h0, h⟩
  · exact h.elim
theorem amixt_soundG {Q' : Exit → Act → World → Prop} {Hp : Heap} (hops : ∀ o ∈ ops, operB n o = true) (hsel : Region.noSelect ops = true)
    (hQ : ∀ ρ H a w S, K ρ H → St S w H → Pin S w Hp → FR S w ρ a → Grow S0 w0 S w → NewK S0.N H0 H → a.defers = D → a.tmps.size = n → Q' .normal a w) :
    ∀ (t : Mx) (m : Nat) (listed : Array Bool) (ρ : Env) (H : Heap) (a : Act) (w : World) (S : Sg), treeFrom ops t m listed = true →
      amixt P (FCalls P) (QCalls P) mt ops K Hp t ρ H → St S w H → Pin S w Hp → FR S w ρ a → Grow S0 w0 S w → NewK S0.N H0 H → a.defers = D → a.tmps.size = n → ∀ w2, Rw w w2 → wpAnyG P .any ops (Cb S w) Rw Q' m listed a w2
  | .nil, m, listed, ρ, H, a, w, S, hB, h, hS, hP, hF, hG, hN, hd, hn, w2, h2 => by
    cases m with
    | succ m => simp [treeFrom] at hB
    | zero =>
      have hg := hS.grow h2.1 h2.2.1 h2.2.2.1 h2.2.2.2.1 h2.2.2.2.2
      exact ⟨by simpa [treeFrom] using hB, hQ ρ H a w2 S h (hS.after h2.2.2.2.1 h2.2.2.2.2) (hP.keep hS hg) (hF.keep S.le_refl (hg.kept hS)) (hG.trans hg) hN hd hn⟩
  | .q k t, m, listed, ρ, H, a, w, S, hB, h, hS, hP, hF, hG, hN, hd, hn, w2, h2 => by
    cases m with
    | zero => simp [treeFrom] at hB
    | succ m =>
      simp only [treeFrom, Bool.and_eq_true] at hB
      obtain ⟨⟨hr, hf⟩, hB'⟩ := hB
      obtain ⟨o, h0, h⟩ := aopO_spec h
      have hbo := hops o (Array.mem_of_getElem? h0)
      obtain ⟨z, hz, h1, h3⟩ := aop_quiet (S := S.unpin Hp) (CC := Cb S w) (K := fun ρ' _ => amixt P (FCalls P) (QCalls P) mt ops K Hp t ρ' H) (fun w hc => hc.pin hS hP) hops (hP.merge hS fun k r hk => .inr hk) (hF.keep (S.le_unpin Hp) (Kept.refl S w)) hn hbo h
      have next : ∀ v, rep (S.unpin Hp) w z v → ∀ w3, Rw w w3 → wpAnyG P .any ops (Cb S w) Rw Q' m (listed.setIfInBounds k true) (a.put o.dst v) w3 := fun v hv w3 h3 =>
        amixt_soundG hops hsel hQ t m _ _ H _ w S hB' hz hS hP (FR.put hF (rep_mono (S.unpin_le Hp) (Kept.refl (S.unpin Hp) w) _ _ hv)) hG hN (by rw [defers_put]; exact hd) (by rw [size_put]; exact hn) w3 h3
      by_cases hw : Region.wanted o (yielded ops a.tmps) = true
      · obtain ⟨v, hv, hq⟩ := h1 hw
        exact wpAnyG_first h0 (Region.noSelect_spec hsel) Rw.refl (fun _ _ _ => Rw.trans) (fun _ _ hc hr => hc.rw hS hr) _ listed a w2 (h2.cb hS) (Region.free_spec h0 hf) (by simpa using hr) (.inl ⟨hw, hq⟩) (fun w3 h3 => next v hv w3 (h2.trans h3))
      · have hw' : Region.wanted o (yielded ops a.tmps) = false := by simpa using hw
        exact wpAnyG_first h0 (Region.noSelect_spec hsel) Rw.refl (fun _ _ _ => Rw.trans) (fun _ _ hc hr => hc.rw hS hr) _ listed a w2 (h2.cb hS) (Region.free_spec h0 hf) (by simpa using hr) (.inr ⟨hw', rfl⟩) (fun w3 h3' => next _ (h3 hw') w3 (h2.trans h3'))
  | .a1 k t, m, listed, ρ, H, a, w, S, hB, h, hS, hP, hF, hG, hN, hd, hn, w2, h2 => by
    cases m with
    | zero => simp [treeFrom] at hB
    | succ m =>
      simp only [treeFrom, Bool.and_eq_true, decide_eq_true_eq] at hB
      obtain ⟨o, h0, g⟩ := aopO_spec h
      refine ⟨by rw [hB.1]; simp, fun i hi => ?_⟩
      rw [hB.1] at hi
      simp only [List.mem_cons, List.not_mem_nil, or_false] at hi
      subst hi
      exact loud_step hops h0 g hS hP hF hd hn h2 fun ρ' H' a' w' S' hk hS' hP' hF' hG' hN' hd' hn' w3 h3 => amixt_soundG hops hsel hQ t m _ ρ' H' a' w' S' hB.2 hk hS' hP' hF' (hG.trans hG') (hN.trans hN' hG.le.N) hd' hn' w3 h3
  | .a2 k t k' t', m, listed, ρ, H, a, w, S, hB, h, hS, hP, hF, hG, hN, hd, hn, w2, h2 => by
    cases m with
    | zero => simp [treeFrom] at hB
    | succ m =>
      simp only [treeFrom, Bool.and_eq_true, decide_eq_true_eq] at hB
      obtain ⟨h, h'⟩ := h
      obtain ⟨o, h0, g⟩ := aopO_spec h
      obtain ⟨o', h0', g'⟩ := aopO_spec h'
      refine ⟨by rw [hB.1.1]; simp, fun i hi => ?_⟩
      rw [hB.1.1] at hi
      simp only [List.mem_cons, List.not_mem_nil, or_false] at hi
      rcases hi with rfl | rfl
      · exact loud_step hops h0 g hS hP hF hd hn h2 fun ρ' H' a' w' S' hk hS' hP' hF' hG' hN' hd' hn' w3 h3 => amixt_soundG hops hsel hQ t m _ ρ' H' a' w' S' hB.1.2 hk hS' hP' hF' (hG.trans hG') (hN.trans hN' hG.le.N) hd' hn' w3 h3
      · exact loud_step hops h0' g' hS hP hF hd hn h2 fun ρ' H' a' w' S' hk hS' hP' hF' hG' hN' hd' hn' w3 h3 => amixt_soundG hops hsel hQ t' m _ ρ' H' a' w' S' hB.2 hk hS' hP' hF' (hG.trans hG') (hN.trans hN' hG.le.N) hd' hn' w3 h3
  | .a3 k t k' t' k'' t'', m, listed, ρ, H, a, w, S, hB, h, hS, hP, hF, hG, hN, hd, hn, w2, h2 => by
    cases m with
    | zero => simp [treeFrom] at hB
    | succ m =>
      simp only [treeFrom, Bool.and_eq_true, decide_eq_true_eq] at hB
      obtain ⟨h, h', h''⟩ := h
      obtain ⟨o, h0, g⟩ := aopO_spec h
      obtain ⟨o', h0', g'⟩ := aopO_spec h'
      obtain ⟨o'', h0'', g''⟩ := aopO_spec h''
      refine ⟨by rw [hB.1.1.1]; simp, fun i hi => ?_⟩
      rw [hB.1.1.1] at hi
      simp only [List.mem_cons, List.not_mem_nil, or_false] at hi
      rcases hi with rfl | rfl | rfl
      · exact loud_step hops h0 g hS hP hF hd hn h2 fun ρ' H' a' w' S' hk hS' hP' hF' hG' hN' hd' hn' w3 h3 => amixt_soundG hops hsel hQ t m _ ρ' H' a' w' S' hB.1.1.2 hk hS' hP' hF' (hG.trans hG') (hN.trans hN' hG.le.N) hd' hn' w3 h3
      · exact loud_step hops h0' g' hS hP hF hd hn h2 fun ρ' H' a' w' S' hk hS' hP' hF' hG' hN' hd' hn' w3 h3 => amixt_soundG hops hsel hQ t' m _ ρ' H' a' w' S' hB.1.2 hk hS' hP' hF' (hG.trans hG') (hN.trans hN' hG.le.N) hd' hn' w3 h3
      · exact loud_step hops h0'' g'' hS hP hF hd hn h2 fun ρ' H' a' w' S' hk hS' hP' hF' hG' hN' hd' hn' w3 h3 => amixt_soundG hops hsel hQ t'' m _ ρ' H' a' w' S' hB.2 hk hS' hP' hF' (hG.trans hG') (hN.trans hN' hG.le.N) hd' hn' w3 h3
theorem mixt_sound {Q' : Exit → Act → World → Prop} {id : Nat} {l : List Nat} {t : Mx} (hm : P.follows .mixedOrders = true) (hops : ∀ o ∈ ops, operB n o = true) (hl : ∀ k, k ∈ l → (H k).isSome = true) (hB : treeB ops t = true)
    (h : ∀ Hp Hr : Heap, (∀ k, k ∈ l → Hp k = H k) → (∀ k, k ∉ l → Hr k = H k) → (∀ k, k ∉ l → Hp k = none) → (∀ k, k ∈ l → Hr k = none) → amixt P (FCalls P) (QCalls P) mt ops (pinEnd l H K) Hp t ρ Hr)
    (hR : Rel D n S0 w0 H0 ρ H a w) (hQ : ∀ ρ H a w, K ρ H → Rel D n S0 w0 H0 ρ H a w → Q' .normal a w) : (Code.region id ops true).wp P Q' a w := by
  obtain ⟨S, hS, hF, hG, hN, hd, hn⟩ := hR
  simp only [treeB, Bool.and_eq_true] at hB
  obtain ⟨hs, hlex⟩ := hB
  let Hp : Heap := fun k => if k ∈ l then H k else none
  let Hr : Heap := fun k => if k ∈ l then none else H k
  have hp1 : ∀ k, k ∈ l → Hp k = H k := fun k hk => if_pos hk
  have hp2 : ∀ k, k ∉ l → Hp k = none := fun k hk => if_neg hk
  have hr1 : ∀ k, k ∉ l → Hr k = H k := fun k hk => if_neg hk
  have hr2 : ∀ k, k ∈ l → Hr k = none := fun k hk => if_pos hk
  have hpH : ∀ k r, Hp k = some r → H k = some r ∧ k ∈ l := fun k r hk => by
    by_cases h : k ∈ l
    · exact ⟨by rw [← hp1 k h]; exact hk, h⟩
    · rw [hp2 k h] at hk; cases hk
  have hrH : ∀ k r, Hr k = some r → H k = some r ∧ k ∉ l := fun k r hk => by
    by_cases h : k ∈ l
    · rw [hr2 k h] at hk; cases hk
    · exact ⟨by rw [← hr1 k h]; exact hk, h⟩
  let w1 : World := { w with drawn := w.drawn + 1 }
  have hS1 : St S w1 H := hS.after (Nat.le_refl _) fun _ _ => rfl
  have hg1 : Grow S w S w1 := hS.grow rfl rfl rfl (Nat.le_refl _) fun _ _ => rfl
  have hF1 : FR S w1 ρ a := hF.keep S.le_refl (hg1.kept hS)
  have hSp : St (S.pin Hp) w1 Hr := by
    refine ⟨fun k hk => .inl (hS1.ro_fz k hk), fun k hk => ?_, fun k r hk => (hS1.rows k r (hrH k r hk).1).keep (S.le_pin Hp) (Kept.refl S w1) (fun _ _ => rfl), fun k r hk g hg hf => ?_, fun k k' r r' hk hk' hne g hg hg' => hS1.disj k k' r r' (hrH k r hk).1 (hrH k' r' hk').1 hne g hg hg', hS1.tabs⟩
    · rcases hk with h1 | ⟨i, r, hi, hg⟩
      · exact hS1.fz_lt k h1
      · exact (hS1.rows i r (hpH i r hi).1).block_lt hg
    · rcases hf with h1 | ⟨i, r', hi, hg'⟩
      · exact hS1.free k r (hrH k r hk).1 g hg h1
      · exact hS1.disj k i r r' (hrH k r hk).1 (hpH i r' hi).1 (fun e => (hrH k r hk).2 (e ▸ (hpH i r' hi).2)) g hg hg'
  have hPp : Pin (S.pin Hp) w1 Hp := by
    refine ⟨fun k r hk => (hS1.rows k r (hpH k r hk).1).keep (S.le_pin Hp) (Kept.refl S w1) (fun _ _ => rfl), fun k r hk g hg => ⟨.inr ⟨k, r, hk, hg⟩, fun h1 => hS1.free k r (hpH k r hk).1 g hg (hS1.ro_fz g h1)⟩, fun k k' r r' hk hk' hne g hg => hS1.disj k k' r r' (hpH k r hk).1 (hpH k' r' hk').1 hne g hg⟩
  refine wp_region_any hm (wpAny_of_G (C := Cb (S.pin Hp) w1) (R := Rw) Rw.refl _ _ _ _ ?_)
  have := amixt_soundG (Q' := Q') (Hp := Hp) (K := pinEnd l H K) (S0 := S.pin Hp) (w0 := w1) (H0 := Hr) hops hs (fun ρ' H' a' w' S' hk hS' hP' hF' hG' hN' hd' hn' => by
    have hdead : ∀ k, k ∈ l → H' k = none := fun k hk => by
      obtain ⟨r, hr⟩ := Option.isSome_iff_exists.1 (hl k hk)
      exact hN' k (hS.rows k r hr).lt (hr2 k hk)
    let Hm : Heap := fun k => if k ∈ l then H k else H' k
    have hm1 : ∀ k, k ∈ l → Hm k = H k := fun k hk => if_pos hk
    have hm2 : ∀ k, k ∉ l → Hm k = H' k := fun k hk => if_neg hk
    refine hQ ρ' Hm a' w' (hk hdead Hm hm1 hm2) ⟨S'.unpin Hp, hP'.merge hS' (fun k r hk => ?_), hF'.keep (S'.le_unpin Hp) (Kept.refl S' w'), ?_, ?_, hd', hn'⟩
    · by_cases hkl : k ∈ l
      · right; rw [hp1 k hkl, ← hm1 k hkl]; exact hk
      · left; rw [← hm2 k hkl]; exact hk
    · refine hG.trans (hg1.trans ⟨⟨hG'.le.ro, hG'.le.N, hG'.le.loc, hG'.le.sz⟩, fun k hk => ⟨hG'.fz k (.inl hk), fun ⟨i, r, hi, hb⟩ => by
        have hi' := hS1.rows i r (hpH i r hi).1
        have e : S'.loc i = S.loc i := hG'.le.loc i hi'.lt
        rw [show (S'.loc i) = S.loc i from e] at hb
        exact hS1.free i r (hpH i r hi).1 k hb hk⟩, hG'.os, hG'.tape, hG'.output, hG'.size, fun k hk => hG'.same k (.inl hk), fun k hk => by
        rcases hG'.newro k hk with h2 | h2
        · exact .inl h2
        · exact .inr fun h3 => h2 (.inl h3)⟩)
    · intro k hk h0
      have hH := hN k hk h0
      by_cases hkl : k ∈ l
      · rw [hm1 k hkl]; exact hH
      · rw [hm2 k hkl]
        exact hN' k (Nat.lt_of_lt_of_le hk hG.le.N) (by rw [hr1 k hkl]; exact hH)) t ops.size (Array.replicate ops.size false) ρ Hr a w1 (S.pin Hp) hlex (h Hp Hr hp1 hr1 hp2 hr2) hSp hPp (hF1.keep (S.le_pin Hp) (Kept.refl S w1)) (Grow.refl _ _) (NewK.refl _ _) hd hn w1 (Rw.refl w1)
  exact this
end
end Go.Aw
