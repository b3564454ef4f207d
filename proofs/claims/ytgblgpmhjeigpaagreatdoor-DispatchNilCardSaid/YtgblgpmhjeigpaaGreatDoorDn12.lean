/- Texts joined by a program: AwEnd, Data. -/
import Derived.Scope
import Derived.Test.YtgblgpmhjeigpaaGreatDoorDn11

section
set_option linter.unusedSimpArgs false
set_option linter.unusedVariables false
namespace Go.Aw
open Go.RowKit
section
variable {P : Program} {n : Nat} {S0 : Sg} {w0 : World} {H0 : Heap} {mt : Nat → Bool} {ops : Array Oper} {K : Env → Heap → Prop} {ρ : Env} {H : Heap} {a : Act} {w : World} {S : Sg}
theorem aops_sound (hops : ∀ o ∈ ops, operB n o = true) {Q' : Exit → Act → World → Prop} (hQ : ∀ ρ H a w, K ρ H → Rel n S0 w0 H0 ρ H a w → Q' .normal a w) :
    ∀ (l : List Oper) (ρ : Env) (H : Heap) (a : Act) (w : World), (∀ o ∈ l, operB n o = true) → aops P (FCalls P) (QCalls P) mt false ops K l ρ H → Rel n S0 w0 H0 ρ H a w → wpList P ops Q' l a w
  | [], ρ, H, a, w, _, h, hR => hQ ρ H a w h hR
  | o :: rest, ρ, H, a, w, hl, h, hR => by
    obtain ⟨S, hS, hF, hG, hN, hd, hn⟩ := hR
    have he := aop_sound (K' := wpList P ops Q' rest) (Q' := Q') hops hS hF hG hN hd hn (hl o (by simp))
      (fun ρ' H' a' w' hk hr => aops_sound hops hQ rest ρ' H' a' w' (fun o ho => hl o (by simp [ho])) hk hr) h
    unfold wpList
    by_cases hw : Region.wanted o (yielded ops a.tmps) = true
    · rw [if_pos hw]; exact .inl (he.1 hw)
    · rw [if_neg hw]; exact he.2 (by simpa using hw)
def Cls (S : Sg) (H : Heap) (w1 w : World) : Prop :=
  w.os = w1.os ∧ w.tape = w1.tape ∧ w.output = w1.output ∧ w1.heap.size ≤ w.heap.size ∧ ∀ k, k < w1.heap.size → w.heap[k]? = w1.heap[k]?
theorem Cls.st {w1 : World} (hS : St S w1 H) (h : Cls S H w1 w) : St S w H := hS.after h.2.2.2.1 h.2.2.2.2
theorem Cls.grow {w1 : World} (hS : St S w1 H) (h : Cls S H w1 w) : Grow S w1 S w := hS.grow h.1 h.2.1 h.2.2.1 h.2.2.2.1 h.2.2.2.2
theorem Cls.agree {w1 : World} (hS : St S w1 H) (h : Cls S H w1 w) : Agree S H w1 w :=
  ⟨(h.grow hS).kept hS, fun k r hk g hg => h.2.2.2.2 g ((hS.rows k r hk).block_lt hg)⟩
theorem quietAt_rw {P : Program} {o : Oper} {a : Act} {w w1 : World} {v : Value} (hc : Cls S H w1 w) (h : o.quietAt P a (Rw w) w v) : o.quietAt P a (Cls S H w1) w v := by
  unfold Oper.quietAt at *
  generalize (execOp a.eval o).run P w = r at *
  cases r with
  | ok m w' =>
    cases m <;> simp only [Oper.quietUpon] at h ⊢
    case value u => exact h
    case skip => exact h
    case enter f args => exact ⟨h.1, h.2.mono fun e w2 ⟨he, p1, p2, p3, p4, p5⟩ => ⟨he, p1.trans hc.1, p2.trans hc.2.1, p3.trans hc.2.2.1, Nat.le_trans hc.2.2.2.1 p4, fun k hk => (p5 k (Nat.lt_of_lt_of_le hk hc.2.2.2.1)).trans (hc.2.2.2.2 k hk)⟩⟩
  | halt x w' => simp only [Oper.quietUpon] at h
theorem aops_quiet {w1 : World} (hops : ∀ o ∈ ops, operB n o = true) (hS : St S w1 H) : ∀ (l : List Oper) (ρ : Env) (a : Act), (∀ o ∈ l, operB n o = true) → aops P (FCalls P) (QCalls P) mt true ops K l ρ H → FR S w1 ρ a → a.defers = [] → a.tmps.size = n →
    wpQuiet P ops (Cls S H w1) (fun a' => ∃ ρ', K ρ' H ∧ FR S w1 ρ' a' ∧ a'.defers = [] ∧ a'.tmps.size = n) l a
  | [], ρ, a, _, h, hF, hd, hn => ⟨ρ, h, hF, hd, hn⟩
  | o :: rest, ρ, a, hl, h, hF, hd, hn => by
    obtain ⟨z, hz, h1, h2⟩ := aop_quiet (CC := Cls S H w1) (fun w hc => ⟨hc.st hS, hc.agree hS⟩) hops hS hF hn (hl o (by simp)) h
    have next : ∀ v, rep S w1 z v → wpQuiet P ops (Cls S H w1) (fun a' => ∃ ρ', K ρ' H ∧ FR S w1 ρ' a' ∧ a'.defers = [] ∧ a'.tmps.size = n) rest (a.put o.dst v) := fun v hv =>
      aops_quiet hops hS rest _ _ (fun o ho => hl o (by simp [ho])) hz (FR.put hF hv) (by rw [defers_put]; exact hd) (by rw [size_put]; exact hn)
    unfold wpQuiet
    by_cases hw : Region.wanted o (yielded ops a.tmps) = true
    · rw [if_pos hw]
      obtain ⟨v, hv, hq⟩ := h1 hw
      exact ⟨v, fun w hc => quietAt_rw hc (hq w hc), next v hv⟩
    · rw [if_neg hw]
      exact next _ (h2 (by simpa using hw))
end
theorem wpQuiet_mono {P : Program} {ops : Array Oper} {C : World → Prop} {Q Q' : Act → Prop} (hq : ∀ a, Q a → Q' a) : ∀ (l : List Oper) (a : Act), wpQuiet P ops C Q l a → wpQuiet P ops C Q' l a
  | [], a, h => hq a h
  | o :: rest, a, h => by
    unfold wpQuiet at h ⊢
    split
    · rename_i hw
      rw [if_pos hw] at h
      exact Oper.quiet_mono (fun a' h' => wpQuiet_mono hq rest a' h') h
    · rename_i hw
      rw [if_neg hw] at h
      exact wpQuiet_mono hq rest _ h
def codeB (n : Nat) : Code → Bool
  | .region _ ops _ => ops.all (operB n)
  | .seq a b => codeB n a && codeB n b
  | .cond c a b => opB n c && (codeB n a && codeB n b)
  | .block _ c => codeB n c
  | .loop c => codeB n c
  | .scope c => codeB n c
  | _ => true
def Lift (n : Nat) (S0 : Sg) (w0 : World) (H0 : Heap) (Q : Ex → Env → Heap → Prop) : Exit → Act → World → Prop
  | .normal, a, w => ∃ ρ H, Q .normal ρ H ∧ Rel n S0 w0 H0 ρ H a w
  | .exit id, a, w => ∃ ρ H, Q (.exit id) ρ H ∧ Rel n S0 w0 H0 ρ H a w
  | .ret, a, w => ∃ ρ H, Q .ret ρ H ∧ Rel n S0 w0 H0 ρ H a w
  | _, _, _ => False
theorem awp_sound {P : Program} {n : Nat} {S0 : Sg} {w0 : World} {H0 : Heap} {mt : Nat → Bool} (hm : P.follows .mixedOrders = true) : ∀ (c : Code) (Q : Ex → Env → Heap → Prop) (ρ : Env) (H : Heap) (a : Act) (w : World), codeB n c = true →
    awp P (FCalls P) (QCalls P) mt c Q ρ H → Rel n S0 w0 H0 ρ H a w → c.wp P (Lift n S0 w0 H0 Q) a w
  | .skip, Q, ρ, H, a, w, _, h, hR => wp_skip ⟨ρ, H, h, hR⟩
  | .region id ops false, Q, ρ, H, a, w, hb, h, hR => by
    rw [awp_region] at h
    have hops : ∀ o ∈ ops, operB n o = true := fun o ho => Array.all_eq_true_iff_forall_mem.1 hb o ho
    exact wp_region_list (aops_sound hops (fun ρ H a w hk hr => ⟨ρ, H, hk, hr⟩) ops.toList ρ H a w (fun o ho => hops o (Array.mem_toList_iff.1 ho)) h hR)
  | .region id ops true, Q, ρ, H, a, w, hb, h, hR => by
    rw [awp_draw] at h
    have hops : ∀ o ∈ ops, operB n o = true := fun o ho => Array.all_eq_true_iff_forall_mem.1 hb o ho
    rcases h with ⟨_, hlex, h⟩ | ⟨hB, h⟩ | ⟨f, hB, h⟩ | ⟨l, t, hl, hB, h⟩
    · obtain ⟨S, hS, hF, hG, hN, hd, hn⟩ := hR
      let w1 : World := { w with drawn := w.drawn + 1 }
      have hS1 : St S w1 H := hS.after (Nat.le_refl _) fun _ _ => rfl
      have hg1 : Grow S w S w1 := hS.grow rfl rfl rfl (Nat.le_refl _) fun _ _ => rfl
      have hF1 : FR S w1 ρ a := hF.keep S.le_refl (hg1.kept hS)
      refine wp_region_quiet (C := Cls S H w1) hm hlex ⟨rfl, rfl, rfl, Nat.le_refl _, fun _ _ => rfl⟩ ?_
      have := aops_quiet hops hS1 ops.toList ρ a (fun o ho => hops o (Array.mem_toList_iff.1 ho)) h hF1 hd hn
      refine wpQuiet_mono (fun a' ⟨ρ', hk, hF', hd', hn'⟩ w' hc => ?_) ops.toList a this
      exact ⟨ρ', H, hk, S, hc.st hS1, hF'.keep S.le_refl ((hc.grow hS1).kept hS1), hG.trans (hg1.trans (hc.grow hS1)), hN, hd', hn'⟩
    · exact draw_sound hm hops hB h hR fun ρ H a w hk hr => ⟨ρ, H, hk, hr⟩
    · exact mix_sound hm hops hB h hR fun ρ H a w hk hr => ⟨ρ, H, hk, hr⟩
    · exact mixt_sound hm hops hl hB h hR fun ρ H a w hk hr => ⟨ρ, H, hk, hr⟩
  | .seq c d, Q, ρ, H, a, w, hb, h, hR => by
    simp only [codeB, Bool.and_eq_true] at hb
    rw [awp_seq] at h
    refine wp_seq (wp_mono (awp_sound hm c _ ρ H a w hb.1 h hR) fun e a' w' hq => ?_)
    cases e <;> simp only [Lift, Exit.then] at hq ⊢
    case normal => obtain ⟨ρ', H', hk, hr⟩ := hq; exact awp_sound hm d Q ρ' H' a' w' hb.2 hk hr
    case exit id => exact hq
    case ret => exact hq
  | .cond c x y, Q, ρ, H, a, w, hb, h, hR => by
    simp only [codeB, Bool.and_eq_true] at hb
    rw [awp_cond] at h
    unfold acond at h
    split at h
    · rename_i t ht
      obtain ⟨S, hS, hF, hG, hN, hd, hn⟩ := hR
      have e := aev_sound hF (x := c) (hn ▸ hb.1)
      rw [ht] at e
      simp only [rep] at e
      have hR : Rel n S0 w0 H0 ρ H a w := ⟨S, hS, hF, hG, hN, hd, hn⟩
      exact wp_cond_split e (fun ht => awp_sound hm x Q ρ H a w hb.2.1 (h.1 ht) hR) (fun ht => awp_sound hm y Q ρ H a w hb.2.2 (h.2 ht) hR)
    · exact h.elim
  | .block id c, Q, ρ, H, a, w, hb, h, hR => by
    rw [awp_block] at h
    refine wp_block (wp_mono (awp_sound hm c _ ρ H a w hb h hR) fun e a' w' hq => ?_)
    cases e <;> simp only [Lift, Exit.inBlock] at hq ⊢
    case normal => exact hq
    case ret => exact hq
    case exit i =>
      obtain ⟨ρ', H', hk, hr⟩ := hq
      simp only [Ex.blk] at hk
      by_cases e : i = id
      · rw [if_pos e] at hk ⊢; exact ⟨ρ', H', hk, hr⟩
      · rw [if_neg e] at hk ⊢; exact ⟨ρ', H', hk, hr⟩
  | .loop c, Q, ρ, H, a, w, hb, h, hR => by
    rw [awp_loop] at h
    obtain ⟨I, μ, h0, hround⟩ := h
    refine wp_loop_ghost (fun m a w => ∃ ρ H, I ρ H ∧ μ ρ H = m ∧ Rel n S0 w0 H0 ρ H a w) (μ ρ H) ⟨ρ, H, h0, rfl, hR⟩ ?_
    rintro m a' w' ⟨ρ', H', hI, rfl, hR'⟩
    refine wp_mono (awp_sound hm c _ ρ' H' a' w' hb (hround ρ' H' hI) hR') fun e a2 w2 hq => ?_
    cases e <;> simp only [Lift, Exit.then] at hq ⊢
    case normal => obtain ⟨ρ2, H2, ⟨hk, hlt⟩, hr⟩ := hq; exact ⟨_, hlt, ρ2, H2, hk, rfl, hr⟩
    case exit id => exact hq
    case ret => exact hq
  | .exit id, Q, ρ, H, a, w, _, h, hR => wp_exit ⟨ρ, H, h, hR⟩
  | .ret, Q, ρ, H, a, w, _, h, hR => wp_ret ⟨ρ, H, h, hR⟩
  | .rangeFunc .., _, _, _, _, _, _, h, _ => by simp [awp] at h
  | .scope c, Q, ρ, H, a, w, hb, h, hR => by
    rw [awp_scope] at h
    refine wp_scope_straight (wp_mono (awp_sound hm c _ ρ H a w hb h hR) fun e a' w' hq => ?_)
    cases e <;> simp only [Lift, Exit.noGoto] at hq ⊢
    case normal => exact hq
    case exit id => exact hq
    case ret => exact hq
  | .label _, Q, ρ, H, a, w, _, h, hR => wp_label ⟨ρ, H, h, hR⟩
  | .goto _, _, _, _, _, _, _, h, _ => by simp [awp] at h
  | .refuse _, _, _, _, _, _, _, h, _ => by simp [awp] at h
def aresL (P : Program) (ρ : Env) (H : Heap) : List ResultVar → (List AV → Prop) → Prop
  | [], K => K []
  | .tmp t :: r, K => aresL P ρ H r fun l => K (ρ t :: l)
  | .cell t ty :: r, K => match ldT P ty with
    | some l => aload none H l (ρ t) fun x => aresL P ρ H r fun xs => K (x :: xs)
    | none => False
def oneOr (R : AV → Prop) : List AV → Prop
  | [x] => R x
  | l => R (.tup l)
def retQ (P : Program) (rs : List ResultVar) (R : AV → Heap → Prop) : Ex → Env → Heap → Prop
  | .exit _, _, _ => False
  | _, ρ, H => aresL P ρ H rs (oneOr fun x => R x H)
def resB (n : Nat) : ResultVar → Bool
  | .tmp t => decide (t < n)
  | .cell t _ => decide (t < n)
def bodyB (fn : Func) (c : Code) (m : Nat) : Bool := codeB fn.ntmps c && fn.results.toList.all (resB fn.ntmps) && decide (m ≤ fn.ntmps)
section
variable {P : Program} {S : Sg} {H : Heap} {w : World} {ρ : Env} {a : Act}
theorem aload_ptr {G : Option Bool} {l : Option Nat} {x : AV} {K : AV → Prop} (h : aload G H l x K) {u : Value} (hu : rep S w x u) : ∃ ad, u = .pointer (some ad) := by
  unfold aload at h
  split at h
  · simp only [rep] at hu
    obtain ⟨b, o, rfl, _⟩ := hu
    exact ⟨_, rfl⟩
  · simp only [rep] at hu
    obtain ⟨_, g, m, c, _, rfl⟩ := hu
    exact ⟨_, rfl⟩
  · exact h.elim
def resOne (tmps : Array Value) : ResultVar → Sem Value
  | .tmp t => pure (tmps.getD t undef)
  | .cell b t => do loadVar t (← asAddr (tmps.getD b undef))
theorem results_eq (fn : Func) (tmps : Array Value) : results fn tmps = (do
    let vs ← fn.results.mapM (resOne tmps)
    pure (if h : vs.size = 1 then vs[0] else .tuple vs)) := by
  unfold results
  congr 1
theorem run_results (hH : Rows' S w H) (hF : FR S w ρ a) : ∀ (rs : List ResultVar) (K : List AV → Prop), (∀ r ∈ rs, resB a.tmps.size r = true) → aresL P ρ H rs K →
    ∃ l vs, K l ∧ (rs.mapM (resOne a.tmps)).run P w = .ok vs w ∧ repL S w l vs
  | [], K, _, h => ⟨[], [], h, by simp, by simp [repL]⟩
  | .tmp t :: r, K, hb, h => by
    simp only [aresL] at h
    obtain ⟨l, vs, h1, h2, h3⟩ := run_results hH hF r _ (fun x hx => hb x (by simp [hx])) h
    have ht : t < a.tmps.size := by simpa [resB] using hb (.tmp t) (by simp)
    refine ⟨_, a.tmps.getD t undef :: vs, h1, ?_, ?_⟩
    · rw [List.mapM_cons]
      simp only [resOne, Sem.run_bind, Sem.run_pure, Result.andThen_ok]
      rw [h2]
      rfl
    · simp only [repL]
      exact ⟨_, _, rfl, hF t ht, h3⟩
  | .cell t ty :: r, K, hb, h => by
    simp only [aresL] at h
    split at h
    · rename_i l hl
      have ht : t < a.tmps.size := by simpa [resB] using hb (.cell t ty) (by simp)
      obtain ⟨z, hz, hd⟩ := aload_sound (S := S) (w := w) hl hH h
      obtain ⟨v, hv, hrun⟩ := hd trivial _ (hF t ht)
      obtain ⟨ad, e⟩ := aload_ptr h (hF t ht)
      have hrun' := hrun w (Agree.refl S H w)
      rw [e] at hrun'
      simp only [Instr.loadAt, Instr.sureAddr, pure_bind] at hrun'
      obtain ⟨l', vs, h1, h2, h3⟩ := run_results hH hF r _ (fun x hx => hb x (by simp [hx])) hz
      refine ⟨_, v :: vs, h1, ?_, ?_⟩
      · have ha : (asAddr (a.tmps.getD t undef)).run P w = .ok ad w := by rw [e]; rfl
        rw [List.mapM_cons]
        simp only [resOne, Sem.run_bind, ha, Sem.run_pure, Result.andThen_ok, hrun']
        rw [h2]
        rfl
      · simp only [repL]
        exact ⟨_, _, rfl, hv, h3⟩
    · exact h.elim
theorem FCalls.body {f : FuncId} {fn : Func} {c : Code} {args : List AV} {R : AV → Heap → Prop} (mt : Nat → Bool) (hm : P.follows .mixedOrders = true) (hf : P.funcs[f]? = some fn) (hb : fn.body = some c) (hc : bodyB fn c args.length = true)
    (h : awp P (FCalls P) (QCalls P) mt c (retQ P fn.results.toList R) (env0 args) H) : FCalls P f args H R := by
  intro S w vals hS ha
  simp only [bodyB, Bool.and_eq_true, decide_eq_true_eq] at hc
  obtain ⟨⟨hcode, hres⟩, hlen⟩ := hc
  have hvl := repL_len _ _ ha
  refine calls_of_wp hf hb (wp_mono (awp_sound (n := fn.ntmps) (S0 := S) (w0 := w) (H0 := H) hm c _ _ H _ w hcode h ⟨S, hS, ?_, Grow.refl S w, NewK.refl _ _, rfl, ?_⟩) ?_)
  · intro t ht
    by_cases e : t < args.length
    · obtain ⟨u, h1, h2⟩ := repL_get args vals t ha e
      have hu : (vals.toArray ++ Array.replicate (fn.ntmps - vals.toArray.size) undef).getD t undef = u := by
        have hlt : t < vals.length := by omega
        have : vals[t] = u := by rw [List.getElem?_eq_getElem hlt] at h1; injection h1
        simp [Array.getD_eq_getD_getElem?, Array.getElem?_append, hlt, this]
      simp only [env0]
      rw [hu]
      exact h2
    · simp only [env0, List.getD, List.getElem?_eq_none (by omega : args.length ≤ t), Option.getD_none]
      simp only [rep]
  · simp only [Array.size_append, List.size_toArray, Array.size_replicate, hvl]
    omega
  · intro e a' w' hq
    have fin : ∀ ρ' H', aresL P ρ' H' fn.results.toList (oneOr fun x => R x H') → Rel fn.ntmps S w H ρ' H' a' w' → a'.defers = [] ∧ ∃ v, (results fn a'.tmps).run P w' = .ok v w' ∧ Post S w H R (.returned v) w' := by
      rintro ρ' H' h1 ⟨S', hS', hF', hG', hN', hd', hn'⟩
      refine ⟨hd', ?_⟩
      obtain ⟨l, vs, h2, h3, h4⟩ := run_results (P := P) hS'.rows hF' fn.results.toList _ (fun r hr => by rw [hn']; exact List.all_eq_true.1 hres r hr) h1
      have hr : (results fn a'.tmps).run P w' = .ok (if h : vs.toArray.size = 1 then vs.toArray[0] else .tuple vs.toArray) w' := by
        rw [results_eq, Array.mapM_eq_mapM_toList]
        simp only [Sem.run_bind, Sem.run_map]
        rw [h3]
        simp only [Result.andThen_ok, Sem.run_pure]
      refine ⟨_, hr, ?_⟩
      unfold oneOr at h2
      split at h2
      · rename_i x
        simp only [repL] at h4
        obtain ⟨u, t, rfl, h5, rfl⟩ := h4
        exact ⟨_, x, H', S', rfl, h2, hS', by simpa using h5, hG', hN'⟩
      · rename_i hne
        have hvs := repL_len _ _ h4
        have h1' : ¬ vs.toArray.size = 1 := by
          intro e
          have : l.length = 1 := by rw [← hvs]; simpa using e
          match l, this with
          | [x], _ => exact hne x rfl
        rw [dif_neg h1']
        exact ⟨_, _, H', S', rfl, h2, hS', by simp only [rep]; exact ⟨vs, rfl, h4⟩, hG', hN'⟩
    cases e <;> simp only [Lift, bodyPost] at hq ⊢
    case normal => obtain ⟨ρ', H', h1, h2⟩ := hq; exact fin ρ' H' h1 h2
    case ret => obtain ⟨ρ', H', h1, h2⟩ := hq; exact fin ρ' H' h1 h2
    case exit id => obtain ⟨ρ', H', h1, h2⟩ := hq; exact h1.elim
theorem RC.body {f : FuncId} {fn : Func} {c : Code} {args : List AV} {R : AV → Heap → Prop} (mt : Nat → Bool) (hm : P.follows .mixedOrders = true) (hf : P.funcs[f]? = some fn) (hb : fn.body = some c) (hc : bodyB fn c args.length = true)
    (h : awp P (FCalls P) (QCalls P) mt c (retQ P fn.results.toList R) (env0 args) noRows) : RC P f args R := fun S w vals hS _ ha => FCalls.body mt hm hf hb hc h S w vals hS ha
theorem PC.body {f : FuncId} {fn : Func} {c : Code} {args : List AV} {r : AV} (mt : Nat → Bool) (hm : P.follows .mixedOrders = true) (hf : P.funcs[f]? = some fn) (hb : fn.body = some c) (hc : bodyB fn c args.length = true)
    (h : awp P (FCalls P) (QCalls P) mt c (retQ P fn.results.toList fun x H' => Conv H' x r) (env0 args) noRows) : PC P f args r := RC.conv (RC.body mt hm hf hb hc h)
theorem PC.q {f : FuncId} {args : List AV} {r : AV} (h : PC P f args r) (hf : (fv r).isSome = true) : QCalls P f args H r := .inl ⟨args, ConvL.refl args, h, hf⟩
theorem PC.qn {f : FuncId} {args : List AV} {r : AV} (h : PC P f args r) : QCalls P f args H (.nf r) := .inr ⟨r, rfl, h⟩
end
end Go.Aw
end

section
set_option linter.unusedSimpArgs false
namespace Go.Aw.D
open Go.Aw
def encInt (n : Int) : List AV := [.v (.int .i64 n)]
def encBool (b : Bool) : List AV := [.v (.bool b)]
def encStr (s : ByteArray) : List AV := [.v (.string s)]
theorem encInt_len (x : Int) : (encInt x).length = 1 := rfl
theorem encInt_0 (x : Int) : (encInt x).getD 0 .any = .v (.int .i64 x) := rfl
theorem encBool_len (x : Bool) : (encBool x).length = 1 := rfl
theorem encBool_0 (x : Bool) : (encBool x).getD 0 .any = .v (.bool x) := rfl
theorem encStr_len (x : ByteArray) : (encStr x).length = 1 := rfl
theorem encStr_0 (x : ByteArray) : (encStr x).getD 0 .any = .v (.string x) := rfl
structure Point where
  t : Int
  a : Int
  deriving DecidableEq
def encPoint (x : Point) : List AV := [.v (.int .i64 x.t), .v (.int .i64 x.a)]
theorem encPoint_len (x : Point) : (encPoint x).length = 2 := rfl
theorem encPoint_0 (x : Point) : (encPoint x).getD 0 .any = .v (.int .i64 x.t) := rfl
theorem encPoint_1 (x : Point) : (encPoint x).getD 1 .any = .v (.int .i64 x.a) := rfl
theorem encPoint_all (x : Point) : (encPoint x).take 2 = encPoint x := rfl
structure Arc where
  src : Int
  dst : Int
  profile : Int
  miles : Int
  travel : List Point
  slow : List Point
  deriving DecidableEq
def encArc (x : Arc) : List AV := [.v (.int .i64 x.src), .v (.int .i64 x.dst), .v (.int .i64 x.profile), .v (.int .i64 x.miles), .sl (x.travel.map encPoint), .sl (x.slow.map encPoint)]
theorem encArc_len (x : Arc) : (encArc x).length = 6 := rfl
theorem encArc_0 (x : Arc) : (encArc x).getD 0 .any = .v (.int .i64 x.src) := rfl
theorem encArc_1 (x : Arc) : (encArc x).getD 1 .any = .v (.int .i64 x.dst) := rfl
theorem encArc_2 (x : Arc) : (encArc x).getD 2 .any = .v (.int .i64 x.profile) := rfl
theorem encArc_3 (x : Arc) : (encArc x).getD 3 .any = .v (.int .i64 x.miles) := rfl
theorem encArc_4 (x : Arc) : (encArc x).getD 4 .any = .sl (x.travel.map encPoint) := rfl
theorem encArc_5 (x : Arc) : (encArc x).getD 5 .any = .sl (x.slow.map encPoint) := rfl
theorem encArc_all (x : Arc) : (encArc x).take 6 = encArc x := rfl
structure Network where
  places : List ByteArray
  arcs : List Arc
  deriving DecidableEq
def encNetwork (x : Network) : List AV := [.sl (x.places.map encStr), .sl (x.arcs.map encArc)]
theorem encNetwork_len (x : Network) : (encNetwork x).length = 2 := rfl
theorem encNetwork_0 (x : Network) : (encNetwork x).getD 0 .any = .sl (x.places.map encStr) := rfl
theorem encNetwork_1 (x : Network) : (encNetwork x).getD 1 .any = .sl (x.arcs.map encArc) := rfl
theorem encNetwork_all (x : Network) : (encNetwork x).take 2 = encNetwork x := rfl
structure VType where
  name : ByteArray
  count : Int
  src : Int
  dst : Int
  cap : List Int
  skills : Int
  profile : Int
  start : Int
  close : Int
  drive : Int
  rest : Int
  fixed : Int
  perMile : Int
  perTick : Int
  deriving DecidableEq
def encVType (x : VType) : List AV := [.v (.string x.name), .v (.int .i64 x.count), .v (.int .i64 x.src), .v (.int .i64 x.dst), .sl (x.cap.map encInt), .v (.int .i64 x.skills), .v (.int .i64 x.profile), .v (.int .i64 x.start), .v (.int .i64 x.close), .v (.int .i64 x.drive), .v (.int .i64 x.rest), .v (.int .i64 x.fixed), .v (.int .i64 x.perMile), .v (.int .i64 x.perTick)]
theorem encVType_len (x : VType) : (encVType x).length = 14 := rfl
theorem encVType_0 (x : VType) : (encVType x).getD 0 .any = .v (.string x.name) := rfl
theorem encVType_1 (x : VType) : (encVType x).getD 1 .any = .v (.int .i64 x.count) := rfl
theorem encVType_2 (x : VType) : (encVType x).getD 2 .any = .v (.int .i64 x.src) := rfl
theorem encVType_3 (x : VType) : (encVType x).getD 3 .any = .v (.int .i64 x.dst) := rfl
theorem encVType_4 (x : VType) : (encVType x).getD 4 .any = .sl (x.cap.map encInt) := rfl
theorem encVType_5 (x : VType) : (encVType x).getD 5 .any = .v (.int .i64 x.skills) := rfl
theorem encVType_6 (x : VType) : (encVType x).getD 6 .any = .v (.int .i64 x.profile) := rfl
theorem encVType_7 (x : VType) : (encVType x).getD 7 .any = .v (.int .i64 x.start) := rfl
theorem encVType_8 (x : VType) : (encVType x).getD 8 .any = .v (.int .i64 x.close) := rfl
theorem encVType_9 (x : VType) : (encVType x).getD 9 .any = .v (.int .i64 x.drive) := rfl
theorem encVType_10 (x : VType) : (encVType x).getD 10 .any = .v (.int .i64 x.rest) := rfl
theorem encVType_11 (x : VType) : (encVType x).getD 11 .any = .v (.int .i64 x.fixed) := rfl
theorem encVType_12 (x : VType) : (encVType x).getD 12 .any = .v (.int .i64 x.perMile) := rfl
theorem encVType_13 (x : VType) : (encVType x).getD 13 .any = .v (.int .i64 x.perTick) := rfl
theorem encVType_all (x : VType) : (encVType x).take 14 = encVType x := rfl
structure Stop where
  place : Int
  start : Int
  close : Int
  service : Int
  deriving DecidableEq
def encStop (x : Stop) : List AV := [.v (.int .i64 x.place), .v (.int .i64 x.start), .v (.int .i64 x.close), .v (.int .i64 x.service)]
theorem encStop_len (x : Stop) : (encStop x).length = 4 := rfl
theorem encStop_0 (x : Stop) : (encStop x).getD 0 .any = .v (.int .i64 x.place) := rfl
theorem encStop_1 (x : Stop) : (encStop x).getD 1 .any = .v (.int .i64 x.start) := rfl
theorem encStop_2 (x : Stop) : (encStop x).getD 2 .any = .v (.int .i64 x.close) := rfl
theorem encStop_3 (x : Stop) : (encStop x).getD 3 .any = .v (.int .i64 x.service) := rfl
theorem encStop_all (x : Stop) : (encStop x).take 4 = encStop x := rfl
structure Order where
  name : ByteArray
  load : List Int
  pick : Stop
  drop : Stop
  skills : Int
  penalty : Int
  split : Int
  last : Int
  now : Int
  off : Bool
  deriving DecidableEq
def encOrder (x : Order) : List AV := [.v (.string x.name), .sl (x.load.map encInt), .v (.int .i64 x.pick.place), .v (.int .i64 x.pick.start), .v (.int .i64 x.pick.close), .v (.int .i64 x.pick.service), .v (.int .i64 x.drop.place), .v (.int .i64 x.drop.start), .v (.int .i64 x.drop.close), .v (.int .i64 x.drop.service), .v (.int .i64 x.skills), .v (.int .i64 x.penalty), .v (.int .i64 x.split), .v (.int .i64 x.last), .v (.int .i64 x.now), .v (.bool x.off)]
theorem encOrder_len (x : Order) : (encOrder x).length = 16 := rfl
theorem encOrder_0 (x : Order) : (encOrder x).getD 0 .any = .v (.string x.name) := rfl
theorem encOrder_1 (x : Order) : (encOrder x).getD 1 .any = .sl (x.load.map encInt) := rfl
theorem encOrder_2 (x : Order) : (encOrder x).getD 2 .any = .v (.int .i64 x.pick.place) := rfl
theorem encOrder_3 (x : Order) : (encOrder x).getD 3 .any = .v (.int .i64 x.pick.start) := rfl
theorem encOrder_4 (x : Order) : (encOrder x).getD 4 .any = .v (.int .i64 x.pick.close) := rfl
theorem encOrder_5 (x : Order) : (encOrder x).getD 5 .any = .v (.int .i64 x.pick.service) := rfl
theorem encOrder_6 (x : Order) : (encOrder x).getD 6 .any = .v (.int .i64 x.drop.place) := rfl
theorem encOrder_7 (x : Order) : (encOrder x).getD 7 .any = .v (.int .i64 x.drop.start) := rfl
theorem encOrder_8 (x : Order) : (encOrder x).getD 8 .any = .v (.int .i64 x.drop.close) := rfl
theorem encOrder_9 (x : Order) : (encOrder x).getD 9 .any = .v (.int .i64 x.drop.service) := rfl
theorem encOrder_10 (x : Order) : (encOrder x).getD 10 .any = .v (.int .i64 x.skills) := rfl
theorem encOrder_11 (x : Order) : (encOrder x).getD 11 .any = .v (.int .i64 x.penalty) := rfl
theorem encOrder_12 (x : Order) : (encOrder x).getD 12 .any = .v (.int .i64 x.split) := rfl
theorem encOrder_13 (x : Order) : (encOrder x).getD 13 .any = .v (.int .i64 x.last) := rfl
theorem encOrder_14 (x : Order) : (encOrder x).getD 14 .any = .v (.int .i64 x.now) := rfl
theorem encOrder_15 (x : Order) : (encOrder x).getD 15 .any = .v (.bool x.off) := rfl
theorem encOrder_all (x : Order) : (encOrder x).take 16 = encOrder x := rfl
theorem encOrder_pick (x : Order) : ((encOrder x).drop 2).take 4 = encStop x.pick := rfl
theorem encOrder_drop (x : Order) : ((encOrder x).drop 6).take 4 = encStop x.drop := rfl
structure Pair where
  a : Int
  b : Int
  deriving DecidableEq
def encPair (x : Pair) : List AV := [.v (.int .i64 x.a), .v (.int .i64 x.b)]
theorem encPair_len (x : Pair) : (encPair x).length = 2 := rfl
theorem encPair_0 (x : Pair) : (encPair x).getD 0 .any = .v (.int .i64 x.a) := rfl
theorem encPair_1 (x : Pair) : (encPair x).getD 1 .any = .v (.int .i64 x.b) := rfl
theorem encPair_all (x : Pair) : (encPair x).take 2 = encPair x := rfl
structure Instance where
  net : Network
  types : List VType
  orders : List Order
  apart : List Pair
  before : List Pair
  deriving DecidableEq
def encInstance (x : Instance) : List AV := [.sl (x.net.places.map encStr), .sl (x.net.arcs.map encArc), .sl (x.types.map encVType), .sl (x.orders.map encOrder), .sl (x.apart.map encPair), .sl (x.before.map encPair)]
theorem encInstance_len (x : Instance) : (encInstance x).length = 6 := rfl
theorem encInstance_0 (x : Instance) : (encInstance x).getD 0 .any = .sl (x.net.places.map encStr) := rfl
theorem encInstance_1 (x : Instance) : (encInstance x).getD 1 .any = .sl (x.net.arcs.map encArc) := rfl
theorem encInstance_2 (x : Instance) : (encInstance x).getD 2 .any = .sl (x.types.map encVType) := rfl
theorem encInstance_3 (x : Instance) : (encInstance x).getD 3 .any = .sl (x.orders.map encOrder) := rfl
theorem encInstance_4 (x : Instance) : (encInstance x).getD 4 .any = .sl (x.apart.map encPair) := rfl
theorem encInstance_5 (x : Instance) : (encInstance x).getD 5 .any = .sl (x.before.map encPair) := rfl
theorem encInstance_all (x : Instance) : (encInstance x).take 6 = encInstance x := rfl
theorem encInstance_net (x : Instance) : (encInstance x).take 2 = encNetwork x.net := rfl
structure Fault where
  err : Int
  at_ : ByteArray
  deriving DecidableEq
def encFault (x : Fault) : List AV := [.v (.int .i64 x.err), .v (.string x.at_)]
theorem encFault_len (x : Fault) : (encFault x).length = 2 := rfl
theorem encFault_0 (x : Fault) : (encFault x).getD 0 .any = .v (.int .i64 x.err) := rfl
theorem encFault_1 (x : Fault) : (encFault x).getD 1 .any = .v (.string x.at_) := rfl
theorem encFault_all (x : Fault) : (encFault x).take 2 = encFault x := rfl
structure Event where
  at_ : Int
  kind : Int
  a : Int
  b : Int
  n : Int
  order : Order
  deriving DecidableEq
def encEvent (x : Event) : List AV := [.v (.int .i64 x.at_), .v (.int .i64 x.kind), .v (.int .i64 x.a), .v (.int .i64 x.b), .v (.int .i64 x.n), .v (.string x.order.name), .sl (x.order.load.map encInt), .v (.int .i64 x.order.pick.place), .v (.int .i64 x.order.pick.start), .v (.int .i64 x.order.pick.close), .v (.int .i64 x.order.pick.service), .v (.int .i64 x.order.drop.place), .v (.int .i64 x.order.drop.start), .v (.int .i64 x.order.drop.close), .v (.int .i64 x.order.drop.service), .v (.int .i64 x.order.skills), .v (.int .i64 x.order.penalty), .v (.int .i64 x.order.split), .v (.int .i64 x.order.last), .v (.int .i64 x.order.now), .v (.bool x.order.off)]
theorem encEvent_len (x : Event) : (encEvent x).length = 21 := rfl
theorem encEvent_0 (x : Event) : (encEvent x).getD 0 .any = .v (.int .i64 x.at_) := rfl
theorem encEvent_1 (x : Event) : (encEvent x).getD 1 .any = .v (.int .i64 x.kind) := rfl
theorem encEvent_2 (x : Event) : (encEvent x).getD 2 .any = .v (.int .i64 x.a) := rfl
theorem encEvent_3 (x : Event) : (encEvent x).getD 3 .any = .v (.int .i64 x.b) := rfl
theorem encEvent_4 (x : Event) : (encEvent x).getD 4 .any = .v (.int .i64 x.n) := rfl
theorem encEvent_5 (x : Event) : (encEvent x).getD 5 .any = .v (.string x.order.name) := rfl
theorem encEvent_6 (x : Event) : (encEvent x).getD 6 .any = .sl (x.order.load.map encInt) := rfl
theorem encEvent_7 (x : Event) : (encEvent x).getD 7 .any = .v (.int .i64 x.order.pick.place) := rfl
theorem encEvent_8 (x : Event) : (encEvent x).getD 8 .any = .v (.int .i64 x.order.pick.start) := rfl
theorem encEvent_9 (x : Event) : (encEvent x).getD 9 .any = .v (.int .i64 x.order.pick.close) := rfl
theorem encEvent_10 (x : Event) : (encEvent x).getD 10 .any = .v (.int .i64 x.order.pick.service) := rfl
theorem encEvent_11 (x : Event) : (encEvent x).getD 11 .any = .v (.int .i64 x.order.drop.place) := rfl
theorem encEvent_12 (x : Event) : (encEvent x).getD 12 .any = .v (.int .i64 x.order.drop.start) := rfl
theorem encEvent_13 (x : Event) : (encEvent x).getD 13 .any = .v (.int .i64 x.order.drop.close) := rfl
theorem encEvent_14 (x : Event) : (encEvent x).getD 14 .any = .v (.int .i64 x.order.drop.service) := rfl
theorem encEvent_15 (x : Event) : (encEvent x).getD 15 .any = .v (.int .i64 x.order.skills) := rfl
theorem encEvent_16 (x : Event) : (encEvent x).getD 16 .any = .v (.int .i64 x.order.penalty) := rfl
theorem encEvent_17 (x : Event) : (encEvent x).getD 17 .any = .v (.int .i64 x.order.split) := rfl
theorem encEvent_18 (x : Event) : (encEvent x).getD 18 .any = .v (.int .i64 x.order.last) := rfl
theorem encEvent_19 (x : Event) : (encEvent x).getD 19 .any = .v (.int .i64 x.order.now) := rfl
theorem encEvent_20 (x : Event) : (encEvent x).getD 20 .any = .v (.bool x.order.off) := rfl
theorem encEvent_all (x : Event) : (encEvent x).take 21 = encEvent x := rfl
theorem encEvent_order (x : Event) : ((encEvent x).drop 5).take 16 = encOrder x.order := rfl
structure Command where
  kind : Int
  n : Int
  event : Event
  deriving DecidableEq
def encCommand (x : Command) : List AV := [.v (.int .i64 x.kind), .v (.int .i64 x.n), .v (.int .i64 x.event.at_), .v (.int .i64 x.event.kind), .v (.int .i64 x.event.a), .v (.int .i64 x.event.b), .v (.int .i64 x.event.n), .v (.string x.event.order.name), .sl (x.event.order.load.map encInt), .v (.int .i64 x.event.order.pick.place), .v (.int .i64 x.event.order.pick.start), .v (.int .i64 x.event.order.pick.close), .v (.int .i64 x.event.order.pick.service), .v (.int .i64 x.event.order.drop.place), .v (.int .i64 x.event.order.drop.start), .v (.int .i64 x.event.order.drop.close), .v (.int .i64 x.event.order.drop.service), .v (.int .i64 x.event.order.skills), .v (.int .i64 x.event.order.penalty), .v (.int .i64 x.event.order.split), .v (.int .i64 x.event.order.last), .v (.int .i64 x.event.order.now), .v (.bool x.event.order.off)]
theorem encCommand_len (x : Command) : (encCommand x).length = 23 := rfl
theorem encCommand_0 (x : Command) : (encCommand x).getD 0 .any = .v (.int .i64 x.kind) := rfl
theorem encCommand_1 (x : Command) : (encCommand x).getD 1 .any = .v (.int .i64 x.n) := rfl
theorem encCommand_2 (x : Command) : (encCommand x).getD 2 .any = .v (.int .i64 x.event.at_) := rfl
theorem encCommand_3 (x : Command) : (encCommand x).getD 3 .any = .v (.int .i64 x.event.kind) := rfl
theorem encCommand_4 (x : Command) : (encCommand x).getD 4 .any = .v (.int .i64 x.event.a) := rfl
theorem encCommand_5 (x : Command) : (encCommand x).getD 5 .any = .v (.int .i64 x.event.b) := rfl
theorem encCommand_6 (x : Command) : (encCommand x).getD 6 .any = .v (.int .i64 x.event.n) := rfl
theorem encCommand_7 (x : Command) : (encCommand x).getD 7 .any = .v (.string x.event.order.name) := rfl
theorem encCommand_8 (x : Command) : (encCommand x).getD 8 .any = .sl (x.event.order.load.map encInt) := rfl
theorem encCommand_9 (x : Command) : (encCommand x).getD 9 .any = .v (.int .i64 x.event.order.pick.place) := rfl
theorem encCommand_10 (x : Command) : (encCommand x).getD 10 .any = .v (.int .i64 x.event.order.pick.start) := rfl
theorem encCommand_11 (x : Command) : (encCommand x).getD 11 .any = .v (.int .i64 x.event.order.pick.close) := rfl
theorem encCommand_12 (x : Command) : (encCommand x).getD 12 .any = .v (.int .i64 x.event.order.pick.service) := rfl
theorem encCommand_13 (x : Command) : (encCommand x).getD 13 .any = .v (.int .i64 x.event.order.drop.place) := rfl
theorem encCommand_14 (x : Command) : (encCommand x).getD 14 .any = .v (.int .i64 x.event.order.drop.start) := rfl
theorem encCommand_15 (x : Command) : (encCommand x).getD 15 .any = .v (.int .i64 x.event.order.drop.close) := rfl
theorem encCommand_16 (x : Command) : (encCommand x).getD 16 .any = .v (.int .i64 x.event.order.drop.service) := rfl
theorem encCommand_17 (x : Command) : (encCommand x).getD 17 .any = .v (.int .i64 x.event.order.skills) := rfl
theorem encCommand_18 (x : Command) : (encCommand x).getD 18 .any = .v (.int .i64 x.event.order.penalty) := rfl
theorem encCommand_19 (x : Command) : (encCommand x).getD 19 .any = .v (.int .i64 x.event.order.split) := rfl
theorem encCommand_20 (x : Command) : (encCommand x).getD 20 .any = .v (.int .i64 x.event.order.last) := rfl
theorem encCommand_21 (x : Command) : (encCommand x).getD 21 .any = .v (.int .i64 x.event.order.now) := rfl
theorem encCommand_22 (x : Command) : (encCommand x).getD 22 .any = .v (.bool x.event.order.off) := rfl
theorem encCommand_all (x : Command) : (encCommand x).take 23 = encCommand x := rfl
theorem encCommand_event (x : Command) : ((encCommand x).drop 2).take 21 = encEvent x.event := rfl
attribute [go_sem] encInt_len encInt_0 encBool_len encBool_0 encStr_len encStr_0 encPoint_len encPoint_0 encPoint_1 encPoint_all encArc_len encArc_0 encArc_1 encArc_2 encArc_3 encArc_4 encArc_5 encArc_all encNetwork_len encNetwork_0 encNetwork_1 encNetwork_all encVType_len encVType_0 encVType_1 encVType_2 encVType_3 encVType_4 encVType_5 encVType_6 encVType_7 encVType_8 encVType_9 encVType_10 encVType_11 encVType_12 encVType_13 encVType_all encStop_len encStop_0 encStop_1 encStop_2 encStop_3 encStop_all encOrder_len encOrder_0 encOrder_1 encOrder_2 encOrder_3 encOrder_4 encOrder_5 encOrder_6 encOrder_7 encOrder_8 encOrder_9 encOrder_10 encOrder_11 encOrder_12 encOrder_13 encOrder_14 encOrder_15 encOrder_all encOrder_pick encOrder_drop encPair_len encPair_0 encPair_1 encPair_all encInstance_len encInstance_0 encInstance_1 encInstance_2 encInstance_3 encInstance_4 encInstance_5 encInstance_all encInstance_net encFault_len encFault_0 encFault_1 encFault_all encEvent_len encEvent_0 encEvent_1 encEvent_2 encEvent_3 encEvent_4 encEvent_5 encEvent_6 encEvent_7 encEvent_8 encEvent_9 encEvent_10 encEvent_11 encEvent_12 encEvent_13 encEvent_14 encEvent_15 encEvent_16 encEvent_17 encEvent_18 encEvent_19 encEvent_20 encEvent_all encEvent_order encCommand_len encCommand_0 encCommand_1 encCommand_2 encCommand_3 encCommand_4 encCommand_5 encCommand_6 encCommand_7 encCommand_8 encCommand_9 encCommand_10 encCommand_11 encCommand_12 encCommand_13 encCommand_14 encCommand_15 encCommand_16 encCommand_17 encCommand_18 encCommand_19 encCommand_20 encCommand_21 encCommand_22 encCommand_all encCommand_event
theorem map_len {α : Type} (f : α → List AV) (l : List α) : (l.map f).length = l.length := List.length_map f
theorem nat_toNat (n : Nat) : ((n : Int)).toNat = n := Int.toNat_natCast n
attribute [go_sem] map_len nat_toNat
end Go.Aw.D
end
