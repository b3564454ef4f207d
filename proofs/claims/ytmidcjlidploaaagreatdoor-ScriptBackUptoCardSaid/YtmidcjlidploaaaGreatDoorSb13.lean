/- Texts joined by a program: AwEnd, Types. -/
import Derived.Scope
import Derived.Test.YtmidcjlidploaaaGreatDoorChecked
import Derived.KernelRfl
import Derived.Test.YtmidcjlidploaaaGreatDoorSb12

section
set_option linter.unusedSimpArgs false
set_option linter.unusedVariables false
namespace Go.Aw
open Go.RowKit
section
variable {D : List Deferred} {P : Program} {n : Nat} {S0 : Sg} {w0 : World} {H0 : Heap} {mt : Nat → Bool} {ops : Array Oper} {K : Env → Heap → Prop} {ρ : Env} {H : Heap} {a : Act} {w : World} {S : Sg}
theorem aops_sound (hops : ∀ o ∈ ops, operB n o = true) {Q' : Exit → Act → World → Prop} (hQ : ∀ ρ H a w, K ρ H → Rel D n S0 w0 H0 ρ H a w → Q' .normal a w) :
    ∀ (l : List Oper) (ρ : Env) (H : Heap) (a : Act) (w : World), (∀ o ∈ l, operB n o = true) → aops P (FCalls P) (QCalls P) mt false ops K l ρ H → Rel D n S0 w0 H0 ρ H a w → wpList P ops Q' l a w
  | [], ρ, H, a, w, _, h, hR => hQ ρ H a w h hR
  | o :: rest, ρ, H, a, w, hl, h, hR => by
    obtain ⟨S, hS, hF, hG, hN, hd, hn⟩ := hR
    have he := aop_sound (K' := wpList P ops Q' rest) (Q' := Q') hops hS hF hG hN hd hn (hl o (by simp))
      (fun ρ' H' a' w' hk hr => aops_sound hops hQ rest ρ' H' a' w' (fun o ho => hl o (by simp [ho])) hk hr) h
    unfold wpList
    by_cases hw : Region.wanted o (yielded ops a.tmps) = true
    · rw [if_pos hw]; exact .inl (he.1 hw)
    · rw [if_neg hw]; exact he.2 (by simpa using hw)
def Cls (S : Sg) (H : Heap) (w1 w : World) : Prop :=
  w.os = w1.os ∧ w.tape = w1.tape ∧ w.output = w1.output ∧ w1.heap.size ≤ w.heap.size ∧ ∀ k, k < w1.heap.size → w.heap[k]? = w1.heap[k]?
theorem Cls.st {w1 : World} (hS : St S w1 H) (h : Cls S H w1 w) : St S w H := hS.after h.2.2.2.1 h.2.2.2.2
theorem Cls.grow {w1 : World} (hS : St S w1 H) (h : Cls S H w1 w) : Grow S w1 S w := hS.grow h.1 h.2.1 h.2.2.1 h.2.2.2.1 h.2.2.2.2
theorem Cls.agree {w1 : World} (hS : St S w1 H) (h : Cls S H w1 w) : Agree S H w1 w :=
  ⟨(h.grow hS).kept hS, fun k r hk g hg => h.2.2.2.2 g ((hS.rows k r hk).block_lt hg)⟩
theorem quietAt_rw {P : Program} {o : Oper} {a : Act} {w w1 : World} {v : Value} (hc : Cls S H w1 w) (h : o.quietAt P a (Rw w) w v) : o.quietAt P a (Cls S H w1) w v := by
  unfold Oper.quietAt at *
  generalize (execOp a.eval o).run P w = r at *
  cases r with
  | ok m w' =>
    cases m <;> simp only [Oper.quietUpon] at h ⊢
    case value u => exact h
    case skip => exact h
    case enter f args => exact ⟨h.1, h.2.mono fun e w2 ⟨he, p1, p2, p3, p4, p5⟩ => ⟨he, p1.trans hc.1, p2.trans hc.2.1, p3.trans hc.2.2.1, Nat.le_trans hc.2.2.2.1 p4, fun k hk => (p5 k (Nat.lt_of_lt_of_le hk hc.2.2.2.1)).trans (hc.2.2.2.2 k hk)⟩⟩
  | halt x w' => simp only [Oper.quietUpon] at h
theorem aops_quiet {w1 : World} (hops : ∀ o ∈ ops, operB n o = true) (hS : St S w1 H) : ∀ (l : List Oper) (ρ : Env) (a : Act), (∀ o ∈ l, operB n o = true) → aops P (FCalls P) (QCalls P) mt true ops K l ρ H → FR S w1 ρ a → a.defers = D → a.tmps.size = n →
    wpQuiet P ops (Cls S H w1) (fun a' => ∃ ρ', K ρ' H ∧ FR S w1 ρ' a' ∧ a'.defers = D ∧ a'.tmps.size = n) l a
  | [], ρ, a, _, h, hF, hd, hn => ⟨ρ, h, hF, hd, hn⟩
  | o :: rest, ρ, a, hl, h, hF, hd, hn => by
    obtain ⟨z, hz, h1, h2⟩ := aop_quiet (CC := Cls S H w1) (fun w hc => ⟨hc.st hS, hc.agree hS⟩) hops hS hF hn (hl o (by simp)) h
    have next : ∀ v, rep S w1 z v → wpQuiet P ops (Cls S H w1) (fun a' => ∃ ρ', K ρ' H ∧ FR S w1 ρ' a' ∧ a'.defers = D ∧ a'.tmps.size = n) rest (a.put o.dst v) := fun v hv =>
      aops_quiet hops hS rest _ _ (fun o ho => hl o (by simp [ho])) hz (FR.put hF hv) (by rw [defers_put]; exact hd) (by rw [size_put]; exact hn)
    unfold wpQuiet
    by_cases hw : Region.wanted o (yielded ops a.tmps) = true
    · rw [if_pos hw]
      obtain ⟨v, hv, hq⟩ := h1 hw
      exact ⟨v, fun w hc => quietAt_rw hc (hq w hc), next v hv⟩
    · rw [if_neg hw]
      exact next _ (h2 (by simpa using hw))
end
theorem wpQuiet_mono {P : Program} {ops : Array Oper} {C : World → Prop} {Q Q' : Act → Prop} (hq : ∀ a, Q a → Q' a) : ∀ (l : List Oper) (a : Act), wpQuiet P ops C Q l a → wpQuiet P ops C Q' l a
  | [], a, h => hq a h
  | o :: rest, a, h => by
    unfold wpQuiet at h ⊢
    split
    · rename_i hw
      rw [if_pos hw] at h
      exact Oper.quiet_mono (fun a' h' => wpQuiet_mono hq rest a' h') h
    · rename_i hw
      rw [if_neg hw] at h
      exact wpQuiet_mono hq rest _ h
def codeB (n : Nat) : Code → Bool
  | .region _ ops _ => ops.all (operB n)
  | .seq a b => codeB n a && codeB n b
  | .cond c a b => opB n c && (codeB n a && codeB n b)
  | .block _ c => codeB n c
  | .loop c => codeB n c
  | .scope c => codeB n c
  | _ => true
def Lift (D : List Deferred) (n : Nat) (S0 : Sg) (w0 : World) (H0 : Heap) (Q : Ex → Env → Heap → Prop) : Exit → Act → World → Prop
  | .normal, a, w => ∃ ρ H, Q .normal ρ H ∧ Rel D n S0 w0 H0 ρ H a w
  | .exit id, a, w => ∃ ρ H, Q (.exit id) ρ H ∧ Rel D n S0 w0 H0 ρ H a w
  | .ret, a, w => ∃ ρ H, Q .ret ρ H ∧ Rel D n S0 w0 H0 ρ H a w
  | _, _, _ => False
theorem awp_sound {D : List Deferred} {P : Program} {n : Nat} {S0 : Sg} {w0 : World} {H0 : Heap} {mt : Nat → Bool} (hm : P.follows .mixedOrders = true) : ∀ (c : Code) (Q : Ex → Env → Heap → Prop) (ρ : Env) (H : Heap) (a : Act) (w : World), codeB n c = true →
    awp P (FCalls P) (QCalls P) mt c Q ρ H → Rel D n S0 w0 H0 ρ H a w → c.wp P (Lift D n S0 w0 H0 Q) a w
  | .skip, Q, ρ, H, a, w, _, h, hR => wp_skip ⟨ρ, H, h, hR⟩
  | .region id ops false, Q, ρ, H, a, w, hb, h, hR => by
    rw [awp_region] at h
    have hops : ∀ o ∈ ops, operB n o = true := fun o ho => Array.all_eq_true_iff_forall_mem.1 hb o ho
    exact wp_region_list (aops_sound hops (fun ρ H a w hk hr => ⟨ρ, H, hk, hr⟩) ops.toList ρ H a w (fun o ho => hops o (Array.mem_toList_iff.1 ho)) h hR)
  | .region id ops true, Q, ρ, H, a, w, hb, h, hR => by
    rw [awp_draw] at h
    have hops : ∀ o ∈ ops, operB n o = true := fun o ho => Array.all_eq_true_iff_forall_mem.1 hb o ho
    rcases h with ⟨_, hlex, h⟩ | ⟨hB, h⟩ | ⟨f, hB, h⟩ | ⟨l, t, hl, hB, h⟩
    · obtain ⟨S, hS, hF, hG, hN, hd, hn⟩ := hR
      let w1 : World := { w with drawn := w.drawn + 1 }
      have hS1 : St S w1 H := hS.after (Nat.le_refl _) fun _ _ => rfl
      have hg1 : Grow S w S w1 := hS.grow rfl rfl rfl (Nat.le_refl _) fun _ _ => rfl
      have hF1 : FR S w1 ρ a := hF.keep S.le_refl (hg1.kept hS)
      refine wp_region_quiet (C := Cls S H w1) hm hlex ⟨rfl, rfl, rfl, Nat.le_refl _, fun _ _ => rfl⟩ ?_
      have := aops_quiet hops hS1 ops.toList ρ a (fun o ho => hops o (Array.mem_toList_iff.1 ho)) h hF1 hd hn
      refine wpQuiet_mono (fun a' ⟨ρ', hk, hF', hd', hn'⟩ w' hc => ?_) ops.toList a this
      exact ⟨ρ', H, hk, S, hc.st hS1, hF'.keep S.le_refl ((hc.grow hS1).kept hS1), hG.trans (hg1.trans (hc.grow hS1)), hN, hd', hn'⟩
    · exact draw_sound hm hops hB h hR fun ρ H a w hk hr => ⟨ρ, H, hk, hr⟩
    · exact mix_sound hm hops hB h hR fun ρ H a w hk hr => ⟨ρ, H, hk, hr⟩
    · exact mixt_sound hm hops hl hB h hR fun ρ H a w hk hr => ⟨ρ, H, hk, hr⟩
  | .seq c d, Q, ρ, H, a, w, hb, h, hR => by
    simp only [codeB, Bool.and_eq_true] at hb
    rw [awp_seq] at h
    refine wp_seq (wp_mono (awp_sound hm c _ ρ H a w hb.1 h hR) fun e a' w' hq => ?_)
    cases e <;> simp only [Lift, Exit.then] at hq ⊢
    case normal => obtain ⟨ρ', H', hk, hr⟩ := hq; exact awp_sound hm d Q ρ' H' a' w' hb.2 hk hr
    case exit id => exact hq
    case ret => exact hq
  | .cond c x y, Q, ρ, H, a, w, hb, h, hR => by
    simp only [codeB, Bool.and_eq_true] at hb
    rw [awp_cond] at h
    unfold acond at h
    split at h
    · rename_i t ht
      obtain ⟨S, hS, hF, hG, hN, hd, hn⟩ := hR
      have e := aev_sound hF (x := c) (hn ▸ hb.1)
      rw [ht] at e
      simp only [rep] at e
      have hR : Rel D n S0 w0 H0 ρ H a w := ⟨S, hS, hF, hG, hN, hd, hn⟩
      exact wp_cond_split e (fun ht => awp_sound hm x Q ρ H a w hb.2.1 (h.1 ht) hR) (fun ht => awp_sound hm y Q ρ H a w hb.2.2 (h.2 ht) hR)
    · exact h.elim
  | .block id c, Q, ρ, H, a, w, hb, h, hR => by
    rw [awp_block] at h
    refine wp_block (wp_mono (awp_sound hm c _ ρ H a w hb h hR) fun e a' w' hq => ?_)
    cases e <;> simp only [Lift, Exit.inBlock] at hq ⊢
    case normal => exact hq
    case ret => exact hq
    case exit i =>
      obtain ⟨ρ', H', hk, hr⟩ := hq
      simp only [Ex.blk] at hk
      by_cases e : i = id
      · rw [if_pos e] at hk ⊢; exact ⟨ρ', H', hk, hr⟩
      · rw [if_neg e] at hk ⊢; exact ⟨ρ', H', hk, hr⟩
  | .loop c, Q, ρ, H, a, w, hb, h, hR => by
    rw [awp_loop] at h
    obtain ⟨I, μ, h0, hround⟩ := h
    refine wp_loop_ghost (fun m a w => ∃ ρ H, I ρ H ∧ μ ρ H = m ∧ Rel D n S0 w0 H0 ρ H a w) (μ ρ H) ⟨ρ, H, h0, rfl, hR⟩ ?_
    rintro m a' w' ⟨ρ', H', hI, rfl, hR'⟩
    refine wp_mono (awp_sound hm c _ ρ' H' a' w' hb (hround ρ' H' hI) hR') fun e a2 w2 hq => ?_
    cases e <;> simp only [Lift, Exit.then] at hq ⊢
    case normal => obtain ⟨ρ2, H2, ⟨hk, hlt⟩, hr⟩ := hq; exact ⟨_, hlt, ρ2, H2, hk, rfl, hr⟩
    case exit id => exact hq
    case ret => exact hq
  | .exit id, Q, ρ, H, a, w, _, h, hR => wp_exit ⟨ρ, H, h, hR⟩
  | .ret, Q, ρ, H, a, w, _, h, hR => wp_ret ⟨ρ, H, h, hR⟩
  | .rangeFunc .., _, _, _, _, _, _, h, _ => by simp [awp] at h
  | .scope c, Q, ρ, H, a, w, hb, h, hR => by
    rw [awp_scope] at h
    refine wp_scope_straight (wp_mono (awp_sound hm c _ ρ H a w hb h hR) fun e a' w' hq => ?_)
    cases e <;> simp only [Lift, Exit.noGoto] at hq ⊢
    case normal => exact hq
    case exit id => exact hq
    case ret => exact hq
  | .label _, Q, ρ, H, a, w, _, h, hR => wp_label ⟨ρ, H, h, hR⟩
  | .goto _, _, _, _, _, _, _, h, _ => by simp [awp] at h
  | .refuse _, _, _, _, _, _, _, h, _ => by simp [awp] at h
def aresL (P : Program) (ρ : Env) (H : Heap) : List ResultVar → (List AV → Prop) → Prop
  | [], K => K []
  | .tmp t :: r, K => aresL P ρ H r fun l => K (ρ t :: l)
  | .cell t ty :: r, K => match ldT P ty with
    | some l => aload none H l (ρ t) fun x => aresL P ρ H r fun xs => K (x :: xs)
    | none => False
def oneOr (R : AV → Prop) : List AV → Prop
  | [x] => R x
  | l => R (.tup l)
def retQ (P : Program) (rs : List ResultVar) (R : AV → Heap → Prop) : Ex → Env → Heap → Prop
  | .exit _, _, _ => False
  | _, ρ, H => aresL P ρ H rs (oneOr fun x => R x H)
def resB (n : Nat) : ResultVar → Bool
  | .tmp t => decide (t < n)
  | .cell t _ => decide (t < n)
def bodyB (fn : Func) (c : Code) (m : Nat) : Bool := codeB fn.ntmps c && fn.results.toList.all (resB fn.ntmps) && decide (m ≤ fn.ntmps)
section
variable {P : Program} {S : Sg} {H : Heap} {w : World} {ρ : Env} {a : Act}
theorem aload_ptr {G : Option Bool} {l : Option Nat} {x : AV} {K : AV → Prop} (h : aload G H l x K) {u : Value} (hu : rep S w x u) : ∃ ad, u = .pointer (some ad) := by
  unfold aload at h
  split at h
  · simp only [rep] at hu
    obtain ⟨b, o, rfl, _⟩ := hu
    exact ⟨_, rfl⟩
  · simp only [rep] at hu
    obtain ⟨_, g, m, c, _, rfl⟩ := hu
    exact ⟨_, rfl⟩
  · exact h.elim
def resOne (tmps : Array Value) : ResultVar → Sem Value
  | .tmp t => pure (tmps.getD t undef)
  | .cell b t => do loadVar t (← asAddr (tmps.getD b undef))
theorem results_eq (fn : Func) (tmps : Array Value) : results fn tmps = (do
    let vs ← fn.results.mapM (resOne tmps)
    pure (if h : vs.size = 1 then vs[0] else .tuple vs)) := by
  unfold results
  congr 1
theorem run_results (hH : Rows' S w H) (hF : FR S w ρ a) : ∀ (rs : List ResultVar) (K : List AV → Prop), (∀ r ∈ rs, resB a.tmps.size r = true) → aresL P ρ H rs K →
    ∃ l vs, K l ∧ (rs.mapM (resOne a.tmps)).run P w = .ok vs w ∧ repL S w l vs
  | [], K, _, h => ⟨[], [], h, by simp, by simp [repL]⟩
  | .tmp t :: r, K, hb, h => by
    simp only [aresL] at h
    obtain ⟨l, vs, h1, h2, h3⟩ := run_results hH hF r _ (fun x hx => hb x (by simp [hx])) h
    have ht : t < a.tmps.size := by simpa [resB] using hb (.tmp t) (by simp)
    refine ⟨_, a.tmps.getD t undef :: vs, h1, ?_, ?_⟩
    · rw [List.mapM_cons]
      simp only [resOne, Sem.run_bind, Sem.run_pure, Result.andThen_ok]
      rw [h2]
      rfl
    · simp only [repL]
      exact ⟨_, _, rfl, hF t ht, h3⟩
  | .cell t ty :: r, K, hb, h => by
    simp only [aresL] at h
    split at h
    · rename_i l hl
      have ht : t < a.tmps.size := by simpa [resB] using hb (.cell t ty) (by simp)
      obtain ⟨z, hz, hd⟩ := aload_sound (S := S) (w := w) hl hH h
      obtain ⟨v, hv, hrun⟩ := hd trivial _ (hF t ht)
      obtain ⟨ad, e⟩ := aload_ptr h (hF t ht)
      have hrun' := hrun w (Agree.refl S H w)
      rw [e] at hrun'
      simp only [Instr.loadAt, Instr.sureAddr, pure_bind] at hrun'
      obtain ⟨l', vs, h1, h2, h3⟩ := run_results hH hF r _ (fun x hx => hb x (by simp [hx])) hz
      refine ⟨_, v :: vs, h1, ?_, ?_⟩
      · have ha : (asAddr (a.tmps.getD t undef)).run P w = .ok ad w := by rw [e]; rfl
        rw [List.mapM_cons]
        simp only [resOne, Sem.run_bind, ha, Sem.run_pure, Result.andThen_ok, hrun']
        rw [h2]
        rfl
      · simp only [repL]
        exact ⟨_, _, rfl, hv, h3⟩
    · exact h.elim
theorem FCalls.body {f : FuncId} {fn : Func} {c : Code} {args : List AV} {R : AV → Heap → Prop} (mt : Nat → Bool) (hm : P.follows .mixedOrders = true) (hf : P.funcs[f]? = some fn) (hb : fn.body = some c) (hc : bodyB fn c args.length = true)
    (h : awp P (FCalls P) (QCalls P) mt c (retQ P fn.results.toList R) (env0 args) H) : FCalls P f args H R := by
  intro S w vals hS ha
  simp only [bodyB, Bool.and_eq_true, decide_eq_true_eq] at hc
  obtain ⟨⟨hcode, hres⟩, hlen⟩ := hc
  have hvl := repL_len _ _ ha
  refine calls_of_wp hf hb (wp_mono (awp_sound (n := fn.ntmps) (S0 := S) (w0 := w) (H0 := H) hm c _ _ H _ w hcode h ⟨S, hS, ?_, Grow.refl S w, NewK.refl _ _, rfl, ?_⟩) ?_)
  · intro t ht
    by_cases e : t < args.length
    · obtain ⟨u, h1, h2⟩ := repL_get args vals t ha e
      have hu : (vals.toArray ++ Array.replicate (fn.ntmps - vals.toArray.size) undef).getD t undef = u := by
        have hlt : t < vals.length := by omega
        have : vals[t] = u := by rw [List.getElem?_eq_getElem hlt] at h1; injection h1
        simp [Array.getD_eq_getD_getElem?, Array.getElem?_append, hlt, this]
      simp only [env0]
      rw [hu]
      exact h2
    · simp only [env0, List.getD, List.getElem?_eq_none (by omega : args.length ≤ t), Option.getD_none]
      simp only [rep]
  · simp only [Array.size_append, List.size_toArray, Array.size_replicate, hvl]
    omega
  · intro e a' w' hq
    have fin : ∀ ρ' H', aresL P ρ' H' fn.results.toList (oneOr fun x => R x H') → Rel [] fn.ntmps S w H ρ' H' a' w' → a'.defers = [] ∧ ∃ v, (results fn a'.tmps).run P w' = .ok v w' ∧ Post S w H R (.returned v) w' := by
      rintro ρ' H' h1 ⟨S', hS', hF', hG', hN', hd', hn'⟩
      refine ⟨hd', ?_⟩
      obtain ⟨l, vs, h2, h3, h4⟩ := run_results (P := P) hS'.rows hF' fn.results.toList _ (fun r hr => by rw [hn']; exact List.all_eq_true.1 hres r hr) h1
      have hr : (results fn a'.tmps).run P w' = .ok (if h : vs.toArray.size = 1 then vs.toArray[0] else .tuple vs.toArray) w' := by
        rw [results_eq, Array.mapM_eq_mapM_toList]
        simp only [Sem.run_bind, Sem.run_map]
        rw [h3]
        simp only [Result.andThen_ok, Sem.run_pure]
      refine ⟨_, hr, ?_⟩
      unfold oneOr at h2
      split at h2
      · rename_i x
        simp only [repL] at h4
        obtain ⟨u, t, rfl, h5, rfl⟩ := h4
        exact ⟨_, x, H', S', rfl, h2, hS', by simpa using h5, hG', hN'⟩
      · rename_i hne
        have hvs := repL_len _ _ h4
        have h1' : ¬ vs.toArray.size = 1 := by
          intro e
          have : l.length = 1 := by rw [← hvs]; simpa using e
          match l, this with
          | [x], _ => exact hne x rfl
        rw [dif_neg h1']
        exact ⟨_, _, H', S', rfl, h2, hS', by simp only [rep]; exact ⟨vs, rfl, h4⟩, hG', hN'⟩
    cases e <;> simp only [Lift, bodyPost] at hq ⊢
    case normal => obtain ⟨ρ', H', h1, h2⟩ := hq; exact fin ρ' H' h1 h2
    case ret => obtain ⟨ρ', H', h1, h2⟩ := hq; exact fin ρ' H' h1 h2
    case exit id => obtain ⟨ρ', H', h1, h2⟩ := hq; exact h1.elim
theorem RC.body {f : FuncId} {fn : Func} {c : Code} {args : List AV} {R : AV → Heap → Prop} (mt : Nat → Bool) (hm : P.follows .mixedOrders = true) (hf : P.funcs[f]? = some fn) (hb : fn.body = some c) (hc : bodyB fn c args.length = true)
    (h : awp P (FCalls P) (QCalls P) mt c (retQ P fn.results.toList R) (env0 args) noRows) : RC P f args R := fun S w vals hS _ ha => FCalls.body mt hm hf hb hc h S w vals hS ha
theorem PC.body {f : FuncId} {fn : Func} {c : Code} {args : List AV} {r : AV} (mt : Nat → Bool) (hm : P.follows .mixedOrders = true) (hf : P.funcs[f]? = some fn) (hb : fn.body = some c) (hc : bodyB fn c args.length = true)
    (h : awp P (FCalls P) (QCalls P) mt c (retQ P fn.results.toList fun x H' => Conv H' x r) (env0 args) noRows) : PC P f args r := RC.conv (RC.body mt hm hf hb hc h)
theorem NC.body {f : FuncId} {fn : Func} {c : Code} {args : List AV} {row : Row} {mk : Nat → AV} (mt : Nat → Bool) (hm : P.follows .mixedOrders = true) (hf : P.funcs[f]? = some fn) (hb : fn.body = some c) (hc : bodyB fn c args.length = true)
    (h : awp P (FCalls P) (QCalls P) mt c (retQ P fn.results.toList fun x H' => ∃ k, x = mk k ∧ H' k = some row) (env0 args) noRows) : NC P f args row mk := RC.body mt hm hf hb hc h
theorem PC.q {f : FuncId} {args : List AV} {r : AV} (h : PC P f args r) (hf : (fv r).isSome = true) : QCalls P f args H r := .inl ⟨args, ConvL.refl args, h, hf⟩
theorem PC.qn {f : FuncId} {args : List AV} {r : AV} (h : PC P f args r) : QCalls P f args H (.nf r) := .inr ⟨r, rfl, h⟩
end
end Go.Aw
end

section
set_option linter.unusedSimpArgs false
namespace Go.Proofs.YtmidcjlidploaaaGreatDoor.Ty
open Go.Aw Go.Proofs
theorem of_size1 {P : Program} {t : TypeId} (h : (P.info? t).map (·.size) = some 1) : ∃ i, P.info? t = some i ∧ i.size = 1 := by
  cases hi : P.info? t with
  | none => simp [hi] at h
  | some i => exact ⟨i, rfl, by simpa [hi] using h⟩
theorem mixed : Tryz.prog.follows .mixedOrders = true := by kernel_rfl
theorem it3 : intT Tryz.prog 3 = some .i64 := by kernel_rfl
theorem st9 : isStringT Tryz.prog 9 = true := by kernel_rfl
theorem it21 : intT Tryz.prog 21 = some .i32 := by kernel_rfl
theorem fl47 : flatT Tryz.prog 47 = some [0, 0, 0, 0] := by kernel_rfl
theorem fl104 : flatT Tryz.prog 104 = some [0, 0] := by kernel_rfl
theorem fl173 : flatT Tryz.prog 173 = some [0, 0, 0] := by kernel_rfl
theorem fo25_0 : fieldOff Tryz.prog 25 0 = some (0, none) := by kernel_rfl
theorem fo25_1 : fieldOff Tryz.prog 25 1 = some (1, none) := by kernel_rfl
theorem fo30_0 : fieldOff Tryz.prog 30 0 = some (0, some 2) := by kernel_rfl
theorem fo30_1 : fieldOff Tryz.prog 30 1 = some (2, none) := by kernel_rfl
theorem fo30_2 : fieldOff Tryz.prog 30 2 = some (3, none) := by kernel_rfl
theorem fo30_3 : fieldOff Tryz.prog 30 3 = some (4, none) := by kernel_rfl
theorem fo30_4 : fieldOff Tryz.prog 30 4 = some (5, none) := by kernel_rfl
theorem fo33_0 : fieldOff Tryz.prog 33 0 = some (0, some 6) := by kernel_rfl
theorem fo33_1 : fieldOff Tryz.prog 33 1 = some (6, none) := by kernel_rfl
theorem fo41_0 : fieldOff Tryz.prog 41 0 = some (0, some 6) := by kernel_rfl
theorem fo41_1 : fieldOff Tryz.prog 41 1 = some (6, none) := by kernel_rfl
theorem fo47_0 : fieldOff Tryz.prog 47 0 = some (0, none) := by kernel_rfl
theorem fo47_1 : fieldOff Tryz.prog 47 1 = some (1, none) := by kernel_rfl
theorem fo47_2 : fieldOff Tryz.prog 47 2 = some (2, none) := by kernel_rfl
theorem fo47_3 : fieldOff Tryz.prog 47 3 = some (3, none) := by kernel_rfl
theorem fo49_0 : fieldOff Tryz.prog 49 0 = some (0, none) := by kernel_rfl
theorem fo49_1 : fieldOff Tryz.prog 49 1 = some (1, none) := by kernel_rfl
theorem fo49_2 : fieldOff Tryz.prog 49 2 = some (2, some 4) := by kernel_rfl
theorem fo49_3 : fieldOff Tryz.prog 49 3 = some (6, some 4) := by kernel_rfl
theorem fo49_4 : fieldOff Tryz.prog 49 4 = some (10, none) := by kernel_rfl
theorem fo49_5 : fieldOff Tryz.prog 49 5 = some (11, none) := by kernel_rfl
theorem fo49_6 : fieldOff Tryz.prog 49 6 = some (12, none) := by kernel_rfl
theorem fo49_7 : fieldOff Tryz.prog 49 7 = some (13, none) := by kernel_rfl
theorem fo49_8 : fieldOff Tryz.prog 49 8 = some (14, none) := by kernel_rfl
theorem fo49_9 : fieldOff Tryz.prog 49 9 = some (15, none) := by kernel_rfl
theorem fo51_0 : fieldOff Tryz.prog 51 0 = some (0, none) := by kernel_rfl
theorem fo51_1 : fieldOff Tryz.prog 51 1 = some (1, none) := by kernel_rfl
theorem fo51_2 : fieldOff Tryz.prog 51 2 = some (2, none) := by kernel_rfl
theorem fo51_3 : fieldOff Tryz.prog 51 3 = some (3, none) := by kernel_rfl
theorem fo51_4 : fieldOff Tryz.prog 51 4 = some (4, none) := by kernel_rfl
theorem fo51_5 : fieldOff Tryz.prog 51 5 = some (5, some 16) := by kernel_rfl
theorem fo53_2 : fieldOff Tryz.prog 53 2 = some (2, some 21) := by kernel_rfl
theorem fo57_0 : fieldOff Tryz.prog 57 0 = some (0, none) := by kernel_rfl
theorem fo57_1 : fieldOff Tryz.prog 57 1 = some (1, none) := by kernel_rfl
theorem fo60_0 : fieldOff Tryz.prog 60 0 = some (0, none) := by kernel_rfl
theorem fo60_1 : fieldOff Tryz.prog 60 1 = some (1, none) := by kernel_rfl
theorem fo60_2 : fieldOff Tryz.prog 60 2 = some (2, none) := by kernel_rfl
theorem fo65_1 : fieldOff Tryz.prog 65 1 = some (1, none) := by kernel_rfl
theorem fo70_0 : fieldOff Tryz.prog 70 0 = some (0, none) := by kernel_rfl
theorem fo70_1 : fieldOff Tryz.prog 70 1 = some (1, none) := by kernel_rfl
theorem fo70_2 : fieldOff Tryz.prog 70 2 = some (2, some 21) := by kernel_rfl
theorem fo90_0 : fieldOff Tryz.prog 90 0 = some (0, none) := by kernel_rfl
theorem fo90_1 : fieldOff Tryz.prog 90 1 = some (1, none) := by kernel_rfl
theorem fo94_0 : fieldOff Tryz.prog 94 0 = some (0, some 2) := by kernel_rfl
theorem fo98_0 : fieldOff Tryz.prog 98 0 = some (0, none) := by kernel_rfl
theorem fo98_1 : fieldOff Tryz.prog 98 1 = some (1, none) := by kernel_rfl
theorem fo98_2 : fieldOff Tryz.prog 98 2 = some (2, none) := by kernel_rfl
theorem fo98_3 : fieldOff Tryz.prog 98 3 = some (3, none) := by kernel_rfl
theorem fo98_4 : fieldOff Tryz.prog 98 4 = some (4, none) := by kernel_rfl
theorem fo98_5 : fieldOff Tryz.prog 98 5 = some (5, none) := by kernel_rfl
theorem fo101_0 : fieldOff Tryz.prog 101 0 = some (0, none) := by kernel_rfl
theorem fo101_1 : fieldOff Tryz.prog 101 1 = some (1, none) := by kernel_rfl
theorem fo101_2 : fieldOff Tryz.prog 101 2 = some (2, none) := by kernel_rfl
theorem fo101_3 : fieldOff Tryz.prog 101 3 = some (3, none) := by kernel_rfl
theorem fo101_4 : fieldOff Tryz.prog 101 4 = some (4, none) := by kernel_rfl
theorem fo101_5 : fieldOff Tryz.prog 101 5 = some (5, none) := by kernel_rfl
theorem fo101_6 : fieldOff Tryz.prog 101 6 = some (6, none) := by kernel_rfl
theorem fo101_7 : fieldOff Tryz.prog 101 7 = some (7, none) := by kernel_rfl
theorem fo101_8 : fieldOff Tryz.prog 101 8 = some (8, none) := by kernel_rfl
theorem fo101_9 : fieldOff Tryz.prog 101 9 = some (9, none) := by kernel_rfl
theorem fo101_10 : fieldOff Tryz.prog 101 10 = some (10, none) := by kernel_rfl
theorem fo101_11 : fieldOff Tryz.prog 101 11 = some (11, none) := by kernel_rfl
theorem fo101_12 : fieldOff Tryz.prog 101 12 = some (12, none) := by kernel_rfl
theorem fo101_13 : fieldOff Tryz.prog 101 13 = some (13, none) := by kernel_rfl
theorem fo140_0 : fieldOff Tryz.prog 140 0 = some (0, none) := by kernel_rfl
theorem fo140_1 : fieldOff Tryz.prog 140 1 = some (1, none) := by kernel_rfl
theorem fo152_0 : fieldOff Tryz.prog 152 0 = some (0, none) := by kernel_rfl
theorem el22 : elemT Tryz.prog 22 = some (9, 1, 16) := by kernel_rfl
theorem sl22 : isSliceT Tryz.prog 22 = true := by kernel_rfl
theorem el23 : elemT Tryz.prog 23 = some (98, 6, 80) := by kernel_rfl
theorem sl23 : isSliceT Tryz.prog 23 = true := by kernel_rfl
theorem el26 : elemT Tryz.prog 26 = some (101, 14, 136) := by kernel_rfl
theorem sl26 : isSliceT Tryz.prog 26 = true := by kernel_rfl
theorem el27 : elemT Tryz.prog 27 = some (49, 16, 152) := by kernel_rfl
theorem sl27 : isSliceT Tryz.prog 27 = true := by kernel_rfl
theorem el28 : elemT Tryz.prog 28 = some (104, 2, 16) := by kernel_rfl
theorem sl28 : isSliceT Tryz.prog 28 = true := by kernel_rfl
theorem el31 : elemT Tryz.prog 31 = some (53, 23, 208) := by kernel_rfl
theorem sl31 : isSliceT Tryz.prog 31 = true := by kernel_rfl
theorem el39 : elemT Tryz.prog 39 = some (70, 23, 208) := by kernel_rfl
theorem sl39 : isSliceT Tryz.prog 39 = true := by kernel_rfl
theorem el45 : elemT Tryz.prog 45 = some (3, 1, 8) := by kernel_rfl
theorem sl45 : isSliceT Tryz.prog 45 = true := by kernel_rfl
theorem el58 : elemT Tryz.prog 58 = some (57, 2, 16) := by kernel_rfl
theorem sl58 : isSliceT Tryz.prog 58 = true := by kernel_rfl
theorem el63 : elemT Tryz.prog 63 = some (5, 1, 1) := by kernel_rfl
theorem sl63 : isSliceT Tryz.prog 63 = true := by kernel_rfl
theorem el86 : elemT Tryz.prog 86 = some (90, 2, 24) := by kernel_rfl
theorem sl86 : isSliceT Tryz.prog 86 = true := by kernel_rfl
theorem el96 : elemT Tryz.prog 96 = some (140, 2, 16) := by kernel_rfl
theorem sl96 : isSliceT Tryz.prog 96 = true := by kernel_rfl
theorem ar104 : arrT Tryz.prog 104 = some (2, 1, none) := by kernel_rfl
theorem el138 : elemT Tryz.prog 138 = some (20, 1, 16) := by kernel_rfl
theorem sl138 : isSliceT Tryz.prog 138 = true := by kernel_rfl
theorem el166 : elemT Tryz.prog 166 = some (86, 1, 24) := by kernel_rfl
theorem sl166 : isSliceT Tryz.prog 166 = true := by kernel_rfl
theorem el170 : elemT Tryz.prog 170 = some (36, 1, 8) := by kernel_rfl
theorem sl170 : isSliceT Tryz.prog 170 = true := by kernel_rfl
theorem ar181 : arrT Tryz.prog 181 = some (6, 1, none) := by kernel_rfl
theorem ld3 : ldT Tryz.prog 3 = some none := by kernel_rfl
theorem ld4 : ldT Tryz.prog 4 = some none := by kernel_rfl
theorem ld9 : ldT Tryz.prog 9 = some none := by kernel_rfl
theorem ld20 : ldT Tryz.prog 20 = some none := by kernel_rfl
theorem ld22 : ldT Tryz.prog 22 = some none := by kernel_rfl
theorem ld23 : ldT Tryz.prog 23 = some none := by kernel_rfl
theorem ld25 : ldT Tryz.prog 25 = some (some 2) := by kernel_rfl
theorem ld26 : ldT Tryz.prog 26 = some none := by kernel_rfl
theorem ld27 : ldT Tryz.prog 27 = some none := by kernel_rfl
theorem ld28 : ldT Tryz.prog 28 = some none := by kernel_rfl
theorem ld30 : ldT Tryz.prog 30 = some (some 6) := by kernel_rfl
theorem ld31 : ldT Tryz.prog 31 = some none := by kernel_rfl
theorem ld33 : ldT Tryz.prog 33 = some (some 7) := by kernel_rfl
theorem ld36 : ldT Tryz.prog 36 = some none := by kernel_rfl
theorem ld39 : ldT Tryz.prog 39 = some none := by kernel_rfl
theorem ld41 : ldT Tryz.prog 41 = some (some 7) := by kernel_rfl
theorem ld45 : ldT Tryz.prog 45 = some none := by kernel_rfl
theorem ld47 : ldT Tryz.prog 47 = some (some 4) := by kernel_rfl
theorem ld49 : ldT Tryz.prog 49 = some (some 16) := by kernel_rfl
theorem ld51 : ldT Tryz.prog 51 = some (some 21) := by kernel_rfl
theorem ld53 : ldT Tryz.prog 53 = some (some 23) := by kernel_rfl
theorem ld57 : ldT Tryz.prog 57 = some (some 2) := by kernel_rfl
theorem ld58 : ldT Tryz.prog 58 = some none := by kernel_rfl
theorem ld63 : ldT Tryz.prog 63 = some none := by kernel_rfl
theorem ld70 : ldT Tryz.prog 70 = some (some 23) := by kernel_rfl
theorem ld86 : ldT Tryz.prog 86 = some none := by kernel_rfl
theorem ld90 : ldT Tryz.prog 90 = some (some 2) := by kernel_rfl
theorem ld96 : ldT Tryz.prog 96 = some none := by kernel_rfl
theorem ld98 : ldT Tryz.prog 98 = some (some 6) := by kernel_rfl
theorem ld101 : ldT Tryz.prog 101 = some (some 14) := by kernel_rfl
theorem ld104 : ldT Tryz.prog 104 = some (some 2) := by kernel_rfl
theorem ld140 : ldT Tryz.prog 140 = some (some 2) := by kernel_rfl
theorem ld170 : ldT Tryz.prog 170 = some none := by kernel_rfl
theorem ld173 : ldT Tryz.prog 173 = some (some 3) := by kernel_rfl
theorem ld181 : ldT Tryz.prog 181 = some (some 6) := by kernel_rfl
theorem ma168 : mapT Tryz.prog 168 = some (9, 4) := by kernel_rfl
theorem ma169 : mapT Tryz.prog 169 = some (173, 4) := by kernel_rfl
theorem zv3 : zeroE Tryz.prog 3 = some (.v (.int .i64 0)) := by kernel_rfl
theorem pa41 : partsT Tryz.prog 41 = some [(0, 6), (6, 1)] := by kernel_rfl
theorem pa47 : partsT Tryz.prog 47 = some [(0, 1), (1, 1), (2, 1), (3, 1)] := by kernel_rfl
theorem pa49 : partsT Tryz.prog 49 = some [(0, 1), (1, 1), (2, 4), (6, 4), (10, 1), (11, 1), (12, 1), (13, 1), (14, 1), (15, 1)] := by kernel_rfl
theorem pa51 : partsT Tryz.prog 51 = some [(0, 1), (1, 1), (2, 1), (3, 1), (4, 1), (5, 16)] := by kernel_rfl
theorem pa57 : partsT Tryz.prog 57 = some [(0, 1), (1, 1)] := by kernel_rfl
theorem pa60 : partsT Tryz.prog 60 = some [(0, 1), (1, 1), (2, 1)] := by kernel_rfl
theorem pa70 : partsT Tryz.prog 70 = some [(0, 1), (1, 1), (2, 21)] := by kernel_rfl
theorem pa90 : partsT Tryz.prog 90 = some [(0, 1), (1, 1)] := by kernel_rfl
theorem pa104 : partsT Tryz.prog 104 = some [(0, 1), (1, 1)] := by kernel_rfl
theorem pa140 : partsT Tryz.prog 140 = some [(0, 1), (1, 1)] := by kernel_rfl
theorem pa152 : partsT Tryz.prog 152 = some [(0, 1)] := by kernel_rfl
theorem pa173 : partsT Tryz.prog 173 = some [(0, 1), (1, 1), (2, 1)] := by kernel_rfl
theorem pa181 : partsT Tryz.prog 181 = some [(0, 1), (1, 1), (2, 1), (3, 1), (4, 1), (5, 1)] := by kernel_rfl
theorem so3 : ∃ i, Tryz.prog.info? 3 = some i ∧ i.size = 1 := of_size1 (by kernel_rfl)
theorem so4 : ∃ i, Tryz.prog.info? 4 = some i ∧ i.size = 1 := of_size1 (by kernel_rfl)
theorem so9 : ∃ i, Tryz.prog.info? 9 = some i ∧ i.size = 1 := of_size1 (by kernel_rfl)
theorem so22 : ∃ i, Tryz.prog.info? 22 = some i ∧ i.size = 1 := of_size1 (by kernel_rfl)
theorem so23 : ∃ i, Tryz.prog.info? 23 = some i ∧ i.size = 1 := of_size1 (by kernel_rfl)
theorem so26 : ∃ i, Tryz.prog.info? 26 = some i ∧ i.size = 1 := of_size1 (by kernel_rfl)
theorem so27 : ∃ i, Tryz.prog.info? 27 = some i ∧ i.size = 1 := of_size1 (by kernel_rfl)
theorem so28 : ∃ i, Tryz.prog.info? 28 = some i ∧ i.size = 1 := of_size1 (by kernel_rfl)
theorem so39 : ∃ i, Tryz.prog.info? 39 = some i ∧ i.size = 1 := of_size1 (by kernel_rfl)
theorem so45 : ∃ i, Tryz.prog.info? 45 = some i ∧ i.size = 1 := of_size1 (by kernel_rfl)
theorem so63 : ∃ i, Tryz.prog.info? 63 = some i ∧ i.size = 1 := of_size1 (by kernel_rfl)
theorem so96 : ∃ i, Tryz.prog.info? 96 = some i ∧ i.size = 1 := of_size1 (by kernel_rfl)
theorem so170 : ∃ i, Tryz.prog.info? 170 = some i ∧ i.size = 1 := of_size1 (by kernel_rfl)
theorem ze3 : zeroT Tryz.prog 3 = some [.v (.int .i64 0)] := by kernel_rfl
theorem ni30 : nilsT Tryz.prog 30 = some [(0, 9, 1), (1, 98, 6), (2, 101, 14), (3, 49, 16), (4, 104, 2), (5, 104, 2)] := by kernel_rfl
theorem ze30 : zeroT Tryz.prog 30 = some [.sl [], .sl [], .sl [], .sl [], .sl [], .sl []] := by kernel_rfl
theorem ni41 : nilsT Tryz.prog 41 = some [(0, 9, 1), (1, 98, 6), (2, 101, 14), (3, 49, 16), (4, 104, 2), (5, 104, 2), (6, 70, 23)] := by kernel_rfl
theorem ze41 : zeroT Tryz.prog 41 = some [.sl [], .sl [], .sl [], .sl [], .sl [], .sl [], .sl []] := by kernel_rfl
theorem ze47 : zeroT Tryz.prog 47 = some [.v (.int .i64 0), .v (.int .i64 0), .v (.int .i64 0), .v (.int .i64 0)] := by kernel_rfl
theorem ze49 : zeroT Tryz.prog 49 = some [.v (.string ByteArray.empty), .sl [], .v (.int .i64 0), .v (.int .i64 0), .v (.int .i64 0), .v (.int .i64 0), .v (.int .i64 0), .v (.int .i64 0), .v (.int .i64 0), .v (.int .i64 0), .v (.int .i64 0), .v (.int .i64 0), .v (.int .i64 0), .v (.int .i64 0), .v (.int .i64 0), .v (.bool false)] := by kernel_rfl
theorem ze51 : zeroT Tryz.prog 51 = some [.v (.int .i64 0), .v (.int .i64 0), .v (.int .i64 0), .v (.int .i64 0), .v (.int .i64 0), .v (.string ByteArray.empty), .sl [], .v (.int .i64 0), .v (.int .i64 0), .v (.int .i64 0), .v (.int .i64 0), .v (.int .i64 0), .v (.int .i64 0), .v (.int .i64 0), .v (.int .i64 0), .v (.int .i64 0), .v (.int .i64 0), .v (.int .i64 0), .v (.int .i64 0), .v (.int .i64 0), .v (.bool false)] := by kernel_rfl
theorem ze57 : zeroT Tryz.prog 57 = some [.v (.int .i64 0), .v (.int .i64 0)] := by kernel_rfl
theorem ze60 : zeroT Tryz.prog 60 = some [.v (.int .i64 0), .v (.int .i64 0), .sl []] := by kernel_rfl
theorem ni65 : nilsT Tryz.prog 65 = some [(1, 5, 1)] := by kernel_rfl
theorem ze65 : zeroT Tryz.prog 65 = some [.v (.pointer none), .sl []] := by kernel_rfl
theorem ze70 : zeroT Tryz.prog 70 = some [.v (.int .i64 0), .v (.int .i64 0), .v (.int .i64 0), .v (.int .i64 0), .v (.int .i64 0), .v (.int .i64 0), .v (.int .i64 0), .v (.string ByteArray.empty), .sl [], .v (.int .i64 0), .v (.int .i64 0), .v (.int .i64 0), .v (.int .i64 0), .v (.int .i64 0), .v (.int .i64 0), .v (.int .i64 0), .v (.int .i64 0), .v (.int .i64 0), .v (.int .i64 0), .v (.int .i64 0), .v (.int .i64 0), .v (.int .i64 0), .v (.bool false)] := by kernel_rfl
theorem ze90 : zeroT Tryz.prog 90 = some [.v (.int .i64 0), .v (.string ByteArray.empty)] := by kernel_rfl
theorem ni94 : nilsT Tryz.prog 94 = some [(1, 5, 1)] := by kernel_rfl
theorem ze94 : zeroT Tryz.prog 94 = some [.v (.pointer none), .sl []] := by kernel_rfl
theorem ze98 : zeroT Tryz.prog 98 = some [.v (.int .i64 0), .v (.int .i64 0), .v (.int .i64 0), .v (.int .i64 0), .sl [], .sl []] := by kernel_rfl
theorem ze101 : zeroT Tryz.prog 101 = some [.v (.string ByteArray.empty), .v (.int .i64 0), .v (.int .i64 0), .v (.int .i64 0), .sl [], .v (.int .i64 0), .v (.int .i64 0), .v (.int .i64 0), .v (.int .i64 0), .v (.int .i64 0), .v (.int .i64 0), .v (.int .i64 0), .v (.int .i64 0), .v (.int .i64 0)] := by kernel_rfl
theorem ze104 : zeroT Tryz.prog 104 = some [.v (.int .i64 0), .v (.int .i64 0)] := by kernel_rfl
theorem ze140 : zeroT Tryz.prog 140 = some [.v (.int .i64 0), .v (.int .i64 0)] := by kernel_rfl
theorem ze152 : zeroT Tryz.prog 152 = some [.sl []] := by kernel_rfl
theorem ni170 : nilsT Tryz.prog 170 = some [(0, 36, 1)] := by kernel_rfl
theorem ze170 : zeroT Tryz.prog 170 = some [.sl []] := by kernel_rfl
theorem ze173 : zeroT Tryz.prog 173 = some [.v (.int .i64 0), .v (.int .i64 0), .v (.int .i64 0)] := by kernel_rfl
theorem ze181 : zeroT Tryz.prog 181 = some [.v (.string ByteArray.empty), .v (.string ByteArray.empty), .v (.string ByteArray.empty), .v (.string ByteArray.empty), .v (.string ByteArray.empty), .v (.string ByteArray.empty)] := by kernel_rfl
theorem co4 : callOk Tryz.prog 4 = true := by kernel_rfl
theorem co5 : callOk Tryz.prog 5 = true := by kernel_rfl
theorem co6 : callOk Tryz.prog 6 = true := by kernel_rfl
theorem co7 : callOk Tryz.prog 7 = true := by kernel_rfl
theorem co8 : callOk Tryz.prog 8 = true := by kernel_rfl
theorem co9 : callOk Tryz.prog 9 = true := by kernel_rfl
theorem co10 : callOk Tryz.prog 10 = true := by kernel_rfl
theorem co11 : callOk Tryz.prog 11 = true := by kernel_rfl
theorem co12 : callOk Tryz.prog 12 = true := by kernel_rfl
theorem co13 : callOk Tryz.prog 13 = true := by kernel_rfl
theorem co14 : callOk Tryz.prog 14 = true := by kernel_rfl
theorem co15 : callOk Tryz.prog 15 = true := by kernel_rfl
theorem co16 : callOk Tryz.prog 16 = true := by kernel_rfl
theorem co17 : callOk Tryz.prog 17 = true := by kernel_rfl
theorem co18 : callOk Tryz.prog 18 = true := by kernel_rfl
theorem co19 : callOk Tryz.prog 19 = true := by kernel_rfl
theorem co20 : callOk Tryz.prog 20 = true := by kernel_rfl
theorem co21 : callOk Tryz.prog 21 = true := by kernel_rfl
theorem co22 : callOk Tryz.prog 22 = true := by kernel_rfl
theorem co23 : callOk Tryz.prog 23 = true := by kernel_rfl
theorem co26 : callOk Tryz.prog 26 = true := by kernel_rfl
theorem co27 : callOk Tryz.prog 27 = true := by kernel_rfl
theorem co28 : callOk Tryz.prog 28 = true := by kernel_rfl
theorem co29 : callOk Tryz.prog 29 = true := by kernel_rfl
theorem co30 : callOk Tryz.prog 30 = true := by kernel_rfl
theorem co31 : callOk Tryz.prog 31 = true := by kernel_rfl
theorem co32 : callOk Tryz.prog 32 = true := by kernel_rfl
theorem co33 : callOk Tryz.prog 33 = true := by kernel_rfl
theorem co34 : callOk Tryz.prog 34 = true := by kernel_rfl
theorem co35 : callOk Tryz.prog 35 = true := by kernel_rfl
theorem co39 : callOk Tryz.prog 39 = true := by kernel_rfl
theorem co40 : callOk Tryz.prog 40 = true := by kernel_rfl
theorem co42 : callOk Tryz.prog 42 = true := by kernel_rfl
theorem co43 : callOk Tryz.prog 43 = true := by kernel_rfl
theorem co44 : callOk Tryz.prog 44 = true := by kernel_rfl
theorem co45 : callOk Tryz.prog 45 = true := by kernel_rfl
theorem co46 : callOk Tryz.prog 46 = true := by kernel_rfl
theorem co47 : callOk Tryz.prog 47 = true := by kernel_rfl
theorem co48 : callOk Tryz.prog 48 = true := by kernel_rfl
theorem co51 : callOk Tryz.prog 51 = true := by kernel_rfl
theorem co52 : callOk Tryz.prog 52 = true := by kernel_rfl
theorem co53 : callOk Tryz.prog 53 = true := by kernel_rfl
theorem co54 : callOk Tryz.prog 54 = true := by kernel_rfl
theorem co55 : callOk Tryz.prog 55 = true := by kernel_rfl
theorem co56 : callOk Tryz.prog 56 = true := by kernel_rfl
theorem co57 : callOk Tryz.prog 57 = true := by kernel_rfl
theorem co58 : callOk Tryz.prog 58 = true := by kernel_rfl
theorem co60 : callOk Tryz.prog 60 = true := by kernel_rfl
theorem co61 : callOk Tryz.prog 61 = true := by kernel_rfl
theorem co62 : callOk Tryz.prog 62 = true := by kernel_rfl
theorem co63 : callOk Tryz.prog 63 = true := by kernel_rfl
theorem co64 : callOk Tryz.prog 64 = true := by kernel_rfl
theorem co69 : callOk Tryz.prog 69 = true := by kernel_rfl
theorem co70 : callOk Tryz.prog 70 = true := by kernel_rfl
theorem co71 : callOk Tryz.prog 71 = true := by kernel_rfl
theorem co72 : callOk Tryz.prog 72 = true := by kernel_rfl
theorem co73 : callOk Tryz.prog 73 = true := by kernel_rfl
theorem co76 : callOk Tryz.prog 76 = true := by kernel_rfl
theorem co77 : callOk Tryz.prog 77 = true := by kernel_rfl
theorem co78 : callOk Tryz.prog 78 = true := by kernel_rfl
theorem co79 : callOk Tryz.prog 79 = true := by kernel_rfl
theorem co80 : callOk Tryz.prog 80 = true := by kernel_rfl
theorem co90 : callOk Tryz.prog 90 = true := by kernel_rfl
theorem co91 : callOk Tryz.prog 91 = true := by kernel_rfl
theorem co92 : callOk Tryz.prog 92 = true := by kernel_rfl
theorem co93 : callOk Tryz.prog 93 = true := by kernel_rfl
theorem co94 : callOk Tryz.prog 94 = true := by kernel_rfl
theorem co95 : callOk Tryz.prog 95 = true := by kernel_rfl
theorem co96 : callOk Tryz.prog 96 = true := by kernel_rfl
theorem co100 : callOk Tryz.prog 100 = true := by kernel_rfl
theorem co101 : callOk Tryz.prog 101 = true := by kernel_rfl
theorem co102 : callOk Tryz.prog 102 = true := by kernel_rfl
theorem co107 : callOk Tryz.prog 107 = true := by kernel_rfl
theorem co108 : callOk Tryz.prog 108 = true := by kernel_rfl
theorem co109 : callOk Tryz.prog 109 = true := by kernel_rfl
theorem co110 : callOk Tryz.prog 110 = true := by kernel_rfl
theorem co111 : callOk Tryz.prog 111 = true := by kernel_rfl
theorem co112 : callOk Tryz.prog 112 = true := by kernel_rfl
theorem co113 : callOk Tryz.prog 113 = true := by kernel_rfl
theorem co116 : callOk Tryz.prog 116 = true := by kernel_rfl
theorem co131 : callOk Tryz.prog 131 = true := by kernel_rfl
theorem co132 : callOk Tryz.prog 132 = true := by kernel_rfl
theorem co133 : callOk Tryz.prog 133 = true := by kernel_rfl
theorem co134 : callOk Tryz.prog 134 = true := by kernel_rfl
theorem co135 : callOk Tryz.prog 135 = true := by kernel_rfl
theorem co137 : callOk Tryz.prog 137 = true := by kernel_rfl
theorem co138 : callOk Tryz.prog 138 = true := by kernel_rfl
theorem co139 : callOk Tryz.prog 139 = true := by kernel_rfl
theorem co141 : callOk Tryz.prog 141 = true := by kernel_rfl
theorem co142 : callOk Tryz.prog 142 = true := by kernel_rfl
theorem co143 : callOk Tryz.prog 143 = true := by kernel_rfl
theorem co144 : callOk Tryz.prog 144 = true := by kernel_rfl
theorem co145 : callOk Tryz.prog 145 = true := by kernel_rfl
theorem co146 : callOk Tryz.prog 146 = true := by kernel_rfl
theorem co179 : callOk Tryz.prog 179 = true := by kernel_rfl
theorem co180 : callOk Tryz.prog 180 = true := by kernel_rfl
theorem co181 : callOk Tryz.prog 181 = true := by kernel_rfl
theorem co182 : callOk Tryz.prog 182 = true := by kernel_rfl
theorem co184 : callOk Tryz.prog 184 = true := by kernel_rfl
theorem co185 : callOk Tryz.prog 185 = true := by kernel_rfl
theorem co228 : callOk Tryz.prog 228 = true := by kernel_rfl
attribute [go_sem] it3 st9 it21 fl47 fl104 fl173 fo25_0 fo25_1 fo30_0 fo30_1 fo30_2 fo30_3 fo30_4 fo33_0 fo33_1 fo41_0 fo41_1 fo47_0 fo47_1 fo47_2 fo47_3 fo49_0 fo49_1 fo49_2 fo49_3 fo49_4 fo49_5 fo49_6 fo49_7 fo49_8 fo49_9 fo51_0 fo51_1 fo51_2 fo51_3 fo51_4 fo51_5 fo53_2 fo57_0 fo57_1 fo60_0 fo60_1 fo60_2 fo65_1 fo70_0 fo70_1 fo70_2 fo90_0 fo90_1 fo94_0 fo98_0 fo98_1 fo98_2 fo98_3 fo98_4 fo98_5 fo101_0 fo101_1 fo101_2 fo101_3 fo101_4 fo101_5 fo101_6 fo101_7 fo101_8 fo101_9 fo101_10 fo101_11 fo101_12 fo101_13 fo140_0 fo140_1 fo152_0 el22 sl22 el23 sl23 el26 sl26 el27 sl27 el28 sl28 el31 sl31 el39 sl39 el45 sl45 el58 sl58 el63 sl63 el86 sl86 el96 sl96 ar104 el138 sl138 el166 sl166 el170 sl170 ar181 ld3 ld4 ld9 ld20 ld22 ld23 ld25 ld26 ld27 ld28 ld30 ld31 ld33 ld36 ld39 ld41 ld45 ld47 ld49 ld51 ld53 ld57 ld58 ld63 ld70 ld86 ld90 ld96 ld98 ld101 ld104 ld140 ld170 ld173 ld181 ma168 ma169 zv3 pa41 pa47 pa49 pa51 pa57 pa60 pa70 pa90 pa104 pa140 pa152 pa173 pa181 so3 so4 so9 so22 so23 so26 so27 so28 so39 so45 so63 so96 so170 ze3 ni30 ze30 ni41 ze41 ze47 ze49 ze51 ze57 ze60 ni65 ze65 ze70 ze90 ni94 ze94 ze98 ze101 ze104 ze140 ze152 ni170 ze170 ze173 ze181 co4 co5 co6 co7 co8 co9 co10 co11 co12 co13 co14 co15 co16 co17 co18 co19 co20 co21 co22 co23 co26 co27 co28 co29 co30 co31 co32 co33 co34 co35 co39 co40 co42 co43 co44 co45 co46 co47 co48 co51 co52 co53 co54 co55 co56 co57 co58 co60 co61 co62 co63 co64 co69 co70 co71 co72 co73 co76 co77 co78 co79 co80 co90 co91 co92 co93 co94 co95 co96 co100 co101 co102 co107 co108 co109 co110 co111 co112 co113 co116 co131 co132 co133 co134 co135 co137 co138 co139 co141 co142 co143 co144 co145 co146 co179 co180 co181 co182 co184 co185 co228
end Go.Proofs.YtmidcjlidploaaaGreatDoor.Ty
end
