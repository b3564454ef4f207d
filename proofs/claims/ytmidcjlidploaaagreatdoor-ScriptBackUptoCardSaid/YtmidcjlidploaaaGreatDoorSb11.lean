/- Texts joined by a program: AwWp3. -/
import Derived.Test.YtmidcjlidploaaaGreatDoorSb10

set_option linter.unusedSimpArgs false
set_option linter.unusedVariables false
namespace Go.Aw
open Go.RowKit
section
variable {D : List Deferred} {P : Program} {n : Nat} {S0 : Sg} {w0 : World} {H0 : Heap} {mt : Nat → Bool} {ops : Array Oper} {K : Env → Heap → Prop} {K' : Act → World → Prop} {Q' : Exit → Act → World → Prop} {ρ : Env} {H : Heap} {a : Act} {w : World} {o : Oper} {S : Sg}
theorem wp_skip' {w' : World} (h : (execOp a.eval o).run P w = .ok .skip w') (hk : K' (a.put o.dst undef) w') : o.wp P a w K' Q' := by
  unfold Oper.wp
  rw [h]
  exact hk
theorem exec_of2 {s : Sem Value} {v : Value} {w w' : World} (h : s.run P w = .ok v w') : (do pure (Next.value (← s)) : Sem Next).run P w = .ok (.value v) w' := by
  simp [h]
theorem storeVar_run {t : TypeId} {l : Option Nat} (hl : ldT P t = some l) {v : Value} {vs : List Value} (hv : v.cells = List.toArray vs) (hsz : vs.length = l.getD 1) {g p : Nat} {w w' : World} (hone : l = none → ∃ i, P.info? t = some i ∧ i.size = 1)
    (hr : (storeCells ⟨g, p, none⟩ vs).run P w = .ok () w') : (Instr.storeAt t (.pointer (some ⟨g, p, none⟩)) v).run P w = .ok () w' := by
  have hs : (sizeOf t).run P w = .ok vs.length w := by
    cases l with
    | none =>
      obtain ⟨i, hi, h1⟩ := hone rfl
      simp [sizeOf, typeInfo, hi, h1, hsz]
    | some m =>
      rw [run_sizeOf_ld hl, hsz]
      rfl
  simp [Instr.storeAt, Instr.sureAddr, storeVar, hs, hv, hr]
theorem madeCells_list (z : Array Value) (hz : 0 < z.size) : ∀ m, (madeCells z (m * z.size)).toList = (List.replicate m z.toList).flatten
  | 0 => by simp [madeCells]
  | m + 1 => by
    have ih := madeCells_list z hz m
    rw [show List.replicate (m + 1) z.toList = List.replicate m z.toList ++ [z.toList] from List.replicate_succ', List.flatten_append, ← ih]
    simp only [madeCells, Array.toList_map, Array.toList_range, Nat.add_mul, Nat.one_mul, List.flatten_cons, List.flatten_nil, List.append_nil]
    rw [List.range_add, List.map_append]
    congr 1
    apply List.ext_getElem
    · simp
    · intro i h1 h2
      have hi : i < z.size := by simpa using h2
      simp [Nat.add_mod, Nat.mod_eq_of_lt hi, hi]
theorem repL_set : ∀ (cs : List AV) (l : List Value) (j : Nat) {x : AV}, repL S w cs l → (∀ u, l[j]? = some u → rep S w x u) → repL S w (cs.set j x) l
  | [], _, _, _, h, _ => h
  | y :: r, l, 0, x, h, hx => by
    simp only [repL, List.set_cons_zero] at h ⊢
    obtain ⟨u, t, rfl, h1, h2⟩ := h
    exact ⟨u, t, rfl, hx u (by simp), h2⟩
  | y :: r, l, j + 1, x, h, hx => by
    simp only [repL, List.set_cons_succ] at h ⊢
    obtain ⟨u, t, rfl, h1, h2⟩ := h
    exact ⟨u, t, rfl, h1, repL_set r t j h2 fun u hu => hx u (by simpa using hu)⟩
theorem ownNils_sound : ∀ (nl : List (Nat × TypeId × Nat)) (z : List AV) (S : Sg) (H : Heap) (vs : List Value) {K : List AV → Heap → Prop}, (∀ x ∈ nl, vs[x.1]? = some (.slice none 0 0) ∧ 0 < x.2.2) → St S w H → repL S w z vs → ownNils nl z H K →
    ∃ z' S' H', K z' H' ∧ St S' w H' ∧ Grow S w S' w ∧ NewK S.N H H' ∧ repL S' w z' vs ∧ z'.length = z.length
  | [], z, S, H, vs, K, _, hS, hr, h => ⟨z, S, H, h, hS, Grow.refl S w, NewK.refl _ _, hr, rfl⟩
  | x :: r, z, S, H, vs, K, hn, hS, hr, h => by
    obtain ⟨h0, hpos⟩ := hn x (by simp)
    have q := hS.nilRow x.2.1 hpos
    have hr' := repL_set z vs x.1 (x := .os S.N) (repL_mono q.2.le (q.2.kept hS) _ _ hr) (fun u hu => by
      rw [h0] at hu
      injection hu with hu
      subst hu
      simp only [rep, Sg.addRow, if_true]
      exact ⟨Nat.lt_succ_self _, trivial, _, _, _, rfl⟩)
    obtain ⟨z', S', H', h1, h2, h3, h4, h5, h6⟩ := ownNils_sound r _ _ _ vs (fun y hy => hn y (by simp [hy])) q.1 hr' (h S.N hS.fresh)
    exact ⟨z', S', H', h1, h2, q.2.trans h3, (newK_upd hS).trans h4 q.2.le.N, h5, by simpa using h6⟩
theorem nilsT_spec {P : Program} {t : TypeId} {nl : List (Nat × TypeId × Nat)} (h : nilsT P t = some nl) {i : TypeInfo} {v : Value} (hi : P.info? t = some i) (hz : i.zero = some v) : ∀ x ∈ nl, v.cells.toList[x.1]? = some (.slice none 0 0) ∧ 0 < x.2.2 := by
  unfold nilsT at h
  rw [hi] at h
  simp only [hz] at h
  split at h
  · rename_i hall
    injection h with h
    subst h
    intro x hx
    have := List.all_eq_true.1 hall x hx
    simp only [Bool.and_eq_true, decide_eq_true_eq] at this
    refine ⟨?_, this.2⟩
    have h1 := this.1
    unfold isNilV at h1
    split at h1
    · rename_i e; exact e
    · simp at h1
  · simp at h
theorem alloc_sound {t : TypeId} {z : List AV} (hS : St S w H) (hF : FR S w ρ a) (hG : Grow S0 w0 S w) (hN : NewK S0.N H0 H) (hd : a.defers = D) (hn : a.tmps.size = n) (ho : o.op = .alloc t) (hz : zeroT P t = some z)
    (hw : Region.wanted o (yielded ops a.tmps) = true) (hK : ∀ ρ' H' a' w', K ρ' H' → Rel D n S0 w0 H0 ρ' H' a' w' → K' a' w') {nl : List (Nat × TypeId × Nat)} (hnl : nilsT P t = some nl)
    (h : ownNils nl z H fun z H => anew H ⟨t, z.length, [z]⟩ fun k H' => K (upd ρ o.dst (.op k 0 0)) H') : Ends P ops o a w K' Q' := by
  obtain ⟨i, v, hi, hiz, rfl, hsz, hne, h1⟩ := zeroT_spec hz
  have hrun : (Instr.alloc t true (.tuple #[])).run P w = .ok (.pointer (some ⟨w.heap.size, 0, none⟩)) (w.alloc (.cells v.cells t)) := by
    simp [Instr.alloc, zeroValue, typeInfo, hi, hiz, newVar, newRow]
  have hvv : ∀ x ∈ nl, v.cells.toList[x.1]? = some (.slice none 0 0) ∧ 0 < x.2.2 := nilsT_spec hnl hi hiz
  obtain ⟨z', S', H', q0, hS', hG', hN', hr', hl'⟩ := ownNils_sound nl _ S H v.cells.toList hvv hS (zeroL_rep _) h
  obtain ⟨S2, q1, q2, q3⟩ := box_state (t := t) (cs := z') (l := v.cells.toList) hS' (by rw [hl']; simp; omega) hr' h1
  refine ends_of hw (wp_value (v := .pointer (some ⟨w.heap.size, 0, none⟩)) (w' := w.alloc (.cells v.cells t)) (by simp [execOp, ho, hrun]) (hK _ _ _ _ (q0 S'.N hS'.fresh) (Rel.step hS' (hF.keep hG'.le (hG'.kept hS)) (hG.trans hG') (hN.trans hN' hG.le.N) hd hn (by simpa using q1) (by simpa using q2) (newK_upd hS') (by simpa using q3))))
theorem store_sound {t : TypeId} {x y : Operand} {x' : AV} {cs : List AV} {l : List Value} (hS : St S w H) (hF : FR S w ρ a) (hG : Grow S0 w0 S w) (hN : NewK S0.N H0 H) (hd : a.defers = D) (hn : a.tmps.size = n) (ho : o.op = .store t x y)
    (hw : Region.wanted o (yielded ops a.tmps) = true) (hK : ∀ ρ' H' a' w', K ρ' H' → Rel D n S0 w0 H0 ρ' H' a' w' → K' a' w') (ex : rep S w x' (a.eval x)) (e1 : (a.eval y).cells = l.toArray) (e2 : repL S w cs l) (e3 : ∀ u ∈ l, u.oneCell' = true)
    (h4 : astore P o t x' cs ρ H K) : Ends P ops o a w K' Q' := by
  unfold astore at h4
  split at h4
  · rename_i k i f
    split at h4
    · rename_i r ld hk hld
      obtain ⟨⟨c1, c2, c3, c4⟩, h5⟩ := h4
      simp only [rep] at ex
      obtain ⟨_, g, m, c, hloc, ep⟩ := ex
      obtain ⟨g', n', c', w', hloc', hrun, q1, q2⟩ := hS.store hk c1 c3 hloc e2 e3
      rw [hloc] at hloc'
      injection hloc' with i1 i2 i3
      injection i1 with i1
      injection i1 with i1
      subst i1
      rw [← (hS.rows k r hk).sz] at ep
      have hst := storeVar_run (P := P) hld e1 (by rw [repL_len _ _ e2, c2]) (by
        intro hn'
        subst hn'
        exact c4 rfl) (hrun P)
      refine ends_of hw (wp_skip' (w' := w') ?_ (hK _ _ _ _ h5 (Rel.step hS hF hG hN hd hn q1 q2 ?_ (by simp only [rep]))))
      · simp [execOp, ho, ep, hst]
      · intro j _ h0
        rw [updH_ne _ _ _ _ (fun e => by subst e; rw [hk] at h0; simp at h0)]
        exact h0
    · exact h4.elim
  · exact h4.elim
theorem repL_at : ∀ (x : List AV) (l : List Value) (j : Nat) (v : Value), repL S w x l → x[j]? = some (.v v) → l[j]? = some v
  | [], _, _, _, _, h => by simp at h
  | a :: r, l, 0, v, h, hx => by
    simp only [repL] at h
    obtain ⟨u, t, rfl, h1, h2⟩ := h
    have e : a = .v v := by simpa using hx
    subst e
    simp only [rep] at h1
    simp [h1]
  | a :: r, l, j + 1, v, h, hx => by
    simp only [repL] at h
    obtain ⟨u, t, rfl, h1, h2⟩ := h
    simpa using repL_at r t j v h2 (by simpa using hx)
theorem store_soundN {t : TypeId} {x y : Operand} {x' : AV} {cs : List AV} {l : List Value} (hS : St S w H) (hF : FR S w ρ a) (hG : Grow S0 w0 S w) (hN : NewK S0.N H0 H) (hd : a.defers = D) (hn : a.tmps.size = n) (ho : o.op = .store t x y)
    (hw : Region.wanted o (yielded ops a.tmps) = true) (hK : ∀ ρ' H' a' w', K ρ' H' → Rel D n S0 w0 H0 ρ' H' a' w' → K' a' w') (ex : rep S w x' (a.eval x)) (e1 : (a.eval y).cells = l.toArray) (e2 : repL S w cs l) (e3 : ∀ u ∈ l, u.oneCell' = true)
    (h4 : astoreN P o t x' cs ρ H K) : Ends P ops o a w K' Q' := by
  rcases h4 with h4 | ⟨_, nl, hnl, h4⟩
  · exact store_sound hS hF hG hN hd hn ho hw hK ex e1 e2 e3 h4
  · obtain ⟨z', S', H', q0, hS', hG', hN', hr', hl'⟩ := ownNils_sound nl _ S H l (fun x hx => ⟨repL_at _ _ _ _ e2 (hnl x hx).1, (hnl x hx).2⟩) hS e2 h4
    exact store_sound hS' (hF.keep hG'.le (hG'.kept hS)) (hG.trans hG') (hN.trans hN' hG.le.N) hd hn ho hw hK (rep_mono hG'.le (hG'.kept hS) _ _ ex) e1 hr' e3 q0
theorem nilsV_rep {w : World} : ∀ (nl : List (Nat × TypeId × Nat)) (z : List AV) (vs : List Value), (∀ x ∈ nl, vs[x.1]? = some (.slice none 0 0)) → repL S w z vs → repL S w (nilsV nl z) vs
  | [], z, vs, _, h => h
  | x :: r, z, vs, hn, h => nilsV_rep r _ vs (fun y hy => hn y (by simp [hy])) (repL_set z vs x.1 h fun u hu => by
      rw [hn x (by simp)] at hu
      injection hu with hu
      simp only [rep]; exact hu.symm)
theorem buildQ_core {o : Oper} {w1 : World} {t : TypeId} {parts : Array (Nat × Operand)} (hF : FR S w1 ρ a) (hb : ∀ x ∈ o.op.operands, opB a.tmps.size x = true) (ho : o.op = .build t parts)
    (h : abuildQ P o t parts.toList ρ H K) : ∃ z, K (upd ρ o.dst z) H ∧ ∃ v, rep S w1 z v ∧ ∀ w, (execOp a.eval o).run P w = .ok (.value v) w := by
  unfold abuildQ at h
  obtain ⟨ps, h, hps⟩ := wparts_sound hF parts.toList (fun p hp => hb p.2 (by rw [ho]; simpa [Op.operands] using ⟨p.1, by simpa using hp⟩)) h
  split at h
  · rename_i z pl nl hz hpl hnl
    obtain ⟨e1, e2⟩ := hps trivial
    obtain ⟨i, v, hi, hiz, rfl, hsz, hne, h1⟩ := zeroT_spec hz
    split at h
    · rename_i cs hcs
      obtain ⟨A', f1, f2, f3⟩ := partsT_built2 (S := S) (w := w1) hi hiz h1 (nilsV_rep nl _ _ (fun x hx => (nilsT_spec hnl hi hiz x hx).1) (zeroL_rep _)) hpl hcs e1 (fun j i c hj => e2 j i c hj)
      refine ⟨_, h, .agg A', ?_, fun w => ?_⟩
      · simp only [rep]; exact ⟨A'.toList, by simp, f2, f3⟩
      · have : (parts.map fun (p : Nat × Operand) => (p.1, a.eval p.2)).toList = parts.toList.map fun p => (p.1, a.eval p.2) := by simp
        rw [← this] at f1
        simp only [execOp, ho]
        exact exec_of (run_build w t _ A' f1)
    · exact h.elim
  · exact h.elim
theorem buildQ_sound {t : TypeId} {parts : Array (Nat × Operand)} (hS : St S w H) (hF : FR S w ρ a) (hG : Grow S0 w0 S w) (hN : NewK S0.N H0 H) (hd : a.defers = D) (hn : a.tmps.size = n) (ho : o.op = .build t parts) (hb : ∀ x ∈ o.op.operands, opB a.tmps.size x = true)
    (hw : Region.wanted o (yielded ops a.tmps) = true) (hK : ∀ ρ' H' a' w', K ρ' H' → Rel D n S0 w0 H0 ρ' H' a' w' → K' a' w') (h : abuildQ P o t parts.toList ρ H K) : Ends P ops o a w K' Q' := by
  obtain ⟨z, hz, v, hv, hq⟩ := buildQ_core (S := S) (w1 := w) hF hb ho h
  exact ends_of hw (wp_value (v := v) (w' := w) (hq w) (hK _ _ _ _ hz (Rel.step hS hF hG hN hd hn hS (Grow.refl S w) (NewK.refl _ _) hv)))
theorem buildN_sound {t : TypeId} {parts : Array (Nat × Operand)} (hS : St S w H) (hF : FR S w ρ a) (hG : Grow S0 w0 S w) (hN : NewK S0.N H0 H) (hd : a.defers = D) (hn : a.tmps.size = n) (ho : o.op = .build t parts) (hb : ∀ x ∈ o.op.operands, opB a.tmps.size x = true)
    (hw : Region.wanted o (yielded ops a.tmps) = true) (hK : ∀ ρ' H' a' w', K ρ' H' → Rel D n S0 w0 H0 ρ' H' a' w' → K' a' w') (h : abuildN P o t parts.toList ρ H K) : Ends P ops o a w K' Q' := by
  unfold abuildN at h
  obtain ⟨ps, h, hps⟩ := wparts_sound hF parts.toList (fun p hp => hb p.2 (by rw [ho]; simpa [Op.operands] using ⟨p.1, by simpa using hp⟩)) h
  split at h
  · rename_i z pl nl hz hpl hnl
    obtain ⟨e1, e2⟩ := hps trivial
    obtain ⟨i, v, hi, hiz, rfl, hsz, hne, h1⟩ := zeroT_spec hz
    obtain ⟨z', S', H', q0, hS', hG', hN', hr', hl'⟩ := ownNils_sound nl _ S H v.cells.toList (nilsT_spec hnl hi hiz) hS (zeroL_rep _) h
    split at q0
    · rename_i cs hcs
      obtain ⟨A', f1, f2, f3⟩ := partsT_built2 (S := S') (w := w) (z := z') hi hiz h1 hr' hpl hcs e1 (fun j i c hj => by
        obtain ⟨u, l, g1, g2, g3, g4⟩ := e2 j i c hj
        exact ⟨u, l, g1, g2, repL_mono hG'.le (hG'.kept hS) _ _ g3, g4⟩)
      refine ends_of hw (wp_value (v := .agg A') (w' := w) ?_ (hK _ _ _ _ q0 (Rel.step hS' (hF.keep hG'.le (hG'.kept hS)) (hG.trans hG') (hN.trans hN' hG.le.N) hd hn hS' (Grow.refl S' w) (NewK.refl _ _) ?_)))
      · have : (parts.map fun (p : Nat × Operand) => (p.1, a.eval p.2)).toList = parts.toList.map fun p => (p.1, a.eval p.2) := by simp
        rw [← this] at f1
        simp only [execOp, ho]
        exact exec_of (run_build w t _ A' f1)
      · simp only [rep]; exact ⟨A'.toList, by simp, f2, f3⟩
    · exact q0.elim
  · exact h.elim
theorem store_nil_sound {t : TypeId} {x : Operand} {K2 : AV → Prop} (hS : St S w H) (hF : FR S w ρ a) (hG : Grow S0 w0 S w) (hN : NewK S0.N H0 H) (hd : a.defers = D) (hn : a.tmps.size = n) (ho : o.op = .store t x (.const (.slice none 0 0))) (hb : ∀ x ∈ o.op.operands, opB a.tmps.size x = true)
    (hw : Region.wanted o (yielded ops a.tmps) = true) (hK : ∀ ρ' H' a' w', K ρ' H' → Rel D n S0 w0 H0 ρ' H' a' w' → K' a' w')
    (h : wopd none (aev ρ x) fun y => match elemT P t with
        | some (e, sz, _) => anew H ⟨e, sz, []⟩ fun k H => astoreN P o t y [.os k] ρ H K
        | none => False) : Ends P ops o a w K' Q' := by
  obtain ⟨x', h2, hx'⟩ := wopd_sound (S := S) (w := w) h
  have hbx : opB a.tmps.size x = true := hb x (by simp [ho, Op.operands])
  have ex := hx' trivial _ (aev_sound hF hbx)
  split at h2
  · rename_i e sz bytes he
    obtain ⟨i, z, hu, hi, hsz, _, hpos, _⟩ := elemT_spec he
    have q := hS.nilRow e hpos
    have h3 := h2 S.N hS.fresh
    have hN2 := newK_upd hS (r := some ⟨e, sz, []⟩)
    refine store_soundN q.1 (hF.keep q.2.le (q.2.kept hS)) (hG.trans q.2) (hN.trans hN2 hG.le.N) hd hn ho hw hK (rep_mono q.2.le (q.2.kept hS) _ _ ex) (l := [.slice none 0 0]) (by simp [Act.eval, Value.cells]) ?_ (by simp [Value.oneCell']) h3
    simp only [repL, rep, Sg.addRow, if_true]
    exact ⟨_, _, rfl, ⟨Nat.lt_succ_self _, rfl, _, _, _, rfl⟩, rfl⟩
  · exact h2.elim
theorem freeze_sound {x : Operand} (hS : St S w H) (hF : FR S w ρ a) (hG : Grow S0 w0 S w) (hN : NewK S0.N H0 H) (hd : a.defers = D) (hn : a.tmps.size = n) (ho : o.op = .move x) (hb : ∀ x ∈ o.op.operands, opB a.tmps.size x = true)
    (hw : Region.wanted o (yielded ops a.tmps) = true) (hK : ∀ ρ' H' a' w', K ρ' H' → Rel D n S0 w0 H0 ρ' H' a' w' → K' a' w') (h : afreeze x ρ o.dst H K) : Ends P ops o a w K' Q' := by
  unfold afreeze at h
  split at h
  · rename_i t
    split at h
    · rename_i j hj
      split at h
      · rename_i r hr
        have hbt := hb (.tmp t) (by simp [ho, Op.operands])
        have hv : rep S w (ρ t) (a.eval (.tmp t)) := aev_sound (x := .tmp t) hF hbt
        rw [hj] at hv
        let Hf : Heap := fun k => if k = j then H k else none
        let Hr : Heap := fun k => if k = j then none else H k
        have hf : ∀ k r', Hf k = some r' → k = j ∧ H k = some r' := fun k r' hk => by
          by_cases e : k = j
          · exact ⟨e, by simpa [Hf, e] using hk⟩
          · simp [Hf, e] at hk
        have hrr : ∀ k r', Hr k = some r' → k ≠ j ∧ H k = some r' := fun k r' hk => by
          by_cases e : k = j
          · simp [Hr, e] at hk
          · exact ⟨e, by simpa [Hr, e] using hk⟩
        have hSf : St S w Hf := hS.drop fun k r' hk => (hf k r' hk).2
        have hv' : rep (S.froze Hf) w (.sl r.es) (a.eval (.tmp t)) := Conv.rep hSf (Conv.row j r r.es (by simp [Hf, hr]) (ConvE.refl _)) hv
        have hS' : St (S.froze Hf) w Hr := by
          refine ⟨?_, ?_, fun k r' hk => (hS.rows k r' (hrr k r' hk).2).keep (S.le_froze Hf) (Kept.refl S w) (fun _ _ => rfl), ?_, fun k k' r1 r2 hk hk' hne g hg hg' => hS.disj k k' r1 r2 (hrr k r1 hk).2 (hrr k' r2 hk').2 hne g hg hg', hS.tabs.keep (S.le_froze Hf) (Kept.refl S w)⟩
          · rintro g (hg | hg)
            · exact .inl (hS.ro_fz g hg)
            · exact .inr hg
          · rintro g (hg | ⟨k, r', hk, hg⟩)
            · exact hS.fz_lt g hg
            · exact (hS.rows k r' (hf k r' hk).2).block_lt hg
          · rintro k r' hk g hg (h1 | ⟨i, r2, hi, h2⟩)
            · exact hS.free k r' (hrr k r' hk).2 g hg h1
            · exact hS.disj k i r' r2 (hrr k r' hk).2 (hf i r2 hi).2 (fun e => (hrr k r' hk).1 (e.trans (hf i r2 hi).1)) g hg h2
        have hg : Grow S w (S.froze Hf) w := by
          refine ⟨S.le_froze Hf, fun k hk => .inl hk, rfl, rfl, rfl, Nat.le_refl _, fun _ _ => rfl, ?_⟩
          rintro g (hg | ⟨k, r', hk, hg⟩)
          · exact .inl hg
          · exact .inr (hS.free k r' (hf k r' hk).2 g hg)
        have hF' : FR (S.froze Hf) w (upd ρ (some t) (.sl r.es)) a := fun t' ht' => by
          by_cases e : t' = t
          · subst e
            have h1 := hv'
            simp only [upd, if_true]
            simpa [Act.eval, Array.getD, ht'] using h1
          · simp only [upd, if_neg e]
            exact (hF.keep (S.le_froze Hf) (Kept.refl S w)) t' ht'
        have hk := h Hr (by simp [Hr]) (fun k hk => by simp [Hr, hk])
        refine ends_of hw (wp_value (v := a.eval (.tmp t)) (w' := w) ?_ (hK _ _ _ _ hk (Rel.step hS' hF' (hG.trans hg) (hN.trans (fun k _ h0 => by
          by_cases e : k = j
          · simp [Hr, e]
          · simp [Hr, e, h0]) hG.le.N) hd hn hS' (Grow.refl _ _) (NewK.refl _ _) hv')))
        simp [execOp, ho]
      · exact h.elim
    · exact h.elim
  · exact h.elim
theorem thawL_conv {l : List Nat} : ∀ {xs ys : List AV}, thawL l H xs ys → ConvL (fun k => if k ∈ l then H k else none) xs ys
  | [], [], _ => .nil
  | x :: xs, y :: ys, h => by
    simp only [thawL] at h
    obtain ⟨h1, h2⟩ := h
    refine .cons _ _ _ _ ?_ (thawL_conv h2)
    rcases h1 with rfl | ⟨j, r, hj, rfl, hr, rfl⟩
    · exact .refl _
    · exact .row j r r.es (by rw [if_pos hj]; exact hr) (ConvE.refl _)
  | [], _ :: _, h => by simp [thawL] at h
  | _ :: _, [], h => by simp [thawL] at h
theorem thaw_rel {x y : AV} {d : Option Nat} {l : List Nat} {a' : Act} {w' : World} (hR : Rel D n S0 w0 H0 (upd ρ d x) H a' w') (hc : Conv (fun k => if k ∈ l then H k else none) x y) : Rel D n S0 w0 H0 (upd ρ d y) (fun k => if k ∈ l then none else H k) a' w' := by
  obtain ⟨S, hS, hF, hG, hN, hd, hn⟩ := hR
  let Hf : Heap := fun k => if k ∈ l then H k else none
  let Hr : Heap := fun k => if k ∈ l then none else H k
  have hf : ∀ k r', Hf k = some r' → k ∈ l ∧ H k = some r' := fun k r' hk => by
    by_cases e : k ∈ l
    · exact ⟨e, by simpa [Hf, e] using hk⟩
    · simp [Hf, e] at hk
  have hrr : ∀ k r', Hr k = some r' → ¬ k ∈ l ∧ H k = some r' := fun k r' hk => by
    by_cases e : k ∈ l
    · simp [Hr, e] at hk
    · exact ⟨e, by simpa [Hr, e] using hk⟩
  have hSf : St S w' Hf := hS.drop fun k r' hk => (hf k r' hk).2
  have hS' : St (S.froze Hf) w' Hr := by
    refine ⟨?_, ?_, fun k r' hk => (hS.rows k r' (hrr k r' hk).2).keep (S.le_froze Hf) (Kept.refl S w') (fun _ _ => rfl), ?_, fun k k' r1 r2 hk hk' hne g hg hg' => hS.disj k k' r1 r2 (hrr k r1 hk).2 (hrr k' r2 hk').2 hne g hg hg', hS.tabs.keep (S.le_froze Hf) (Kept.refl S w')⟩
    · rintro g (hg | hg)
      · exact .inl (hS.ro_fz g hg)
      · exact .inr hg
    · rintro g (hg | ⟨k, r', hk, hg⟩)
      · exact hS.fz_lt g hg
      · exact (hS.rows k r' (hf k r' hk).2).block_lt hg
    · rintro k r' hk g hg (h1 | ⟨i, r2, hi, h2⟩)
      · exact hS.free k r' (hrr k r' hk).2 g hg h1
      · exact hS.disj k i r' r2 (hrr k r' hk).2 (hf i r2 hi).2 (fun e => (hrr k r' hk).1 (e ▸ (hf i r2 hi).1)) g hg h2
  have hg : Grow S w' (S.froze Hf) w' := by
    refine ⟨S.le_froze Hf, fun k hk => .inl hk, rfl, rfl, rfl, Nat.le_refl _, fun _ _ => rfl, ?_⟩
    rintro g (hg | ⟨k, r', hk, hg⟩)
    · exact .inl hg
    · exact .inr (hS.free k r' (hf k r' hk).2 g hg)
  have hF' : FR (S.froze Hf) w' (upd ρ d y) a' := fun t' ht' => by
    have h1 := hF t' ht'
    cases d with
    | none => exact hF.keep (S.le_froze Hf) (Kept.refl S w') t' ht'
    | some d =>
      by_cases e : t' = d
      · subst e
        simp only [upd, if_true] at h1 ⊢
        exact Conv.rep hSf hc h1
      · simp only [upd, if_neg e] at h1 ⊢
        exact rep_mono (S.le_froze Hf) (Kept.refl S w') _ _ h1
  exact ⟨S.froze Hf, hS', hF', hG.trans hg, hN.trans (fun k _ h0 => by
    by_cases e : k ∈ l
    · simp [e]
    · simp [e, h0]) hG.le.N, hd, hn⟩
theorem aload_mono {G : Option Bool} {l : Option Nat} {y : AV} {K1 K2 : AV → Prop} (hk : ∀ z, K1 z → K2 z) (h : aload G H l y K1) : aload G H l y K2 := by
  unfold aload at h ⊢
  cases y with
  | rp cs off => cases l <;> exact ⟨h.1, hk _ h.2⟩
  | op k i f =>
    simp only at h ⊢
    cases hr : H k with
    | none => rw [hr] at h; exact h.elim
    | some r => rw [hr] at h; cases l <;> exact ⟨h.1, hk _ h.2⟩
  | _ => exact h.elim
theorem wopd_mono {G : Option Bool} {x : AV} {K1 K2 : AV → Prop} (hk : ∀ z, K1 z → K2 z) (h : wopd G x K1) : wopd G x K2 := by
  unfold wopd at h ⊢
  split at h
  · exact ⟨h.1, hk _ h.2⟩
  · exact hk _ h
theorem apure_load_mono {G : Option Bool} {t : TypeId} {x : Operand} {K1 K2 : AV → Prop} (hk : ∀ z, K1 z → K2 z) (h : apure P G ρ H (.load t x) K1) : apure P G ρ H (.load t x) K2 := by
  simp only [apure] at h ⊢
  cases hl : ldT P t with
  | none => rw [hl] at h; exact h.elim
  | some l => rw [hl] at h; exact wopd_mono (fun y hy => aload_mono hk hy) h
theorem thaw_sound {t : TypeId} {x : Operand} (hS : St S w H) (hF : FR S w ρ a) (hG : Grow S0 w0 S w) (hN : NewK S0.N H0 H) (hd : a.defers = D) (hn : a.tmps.size = n) (ho : o.op = .load t x) (hb : ∀ x ∈ o.op.operands, opB n x = true)
    (hgt : Region.wanted o (yielded ops a.tmps) = true ↔ gt none) (hK : ∀ ρ' H' a' w', K ρ' H' → Rel D n S0 w0 H0 ρ' H' a' w' → K' a' w') (h : apure P none ρ H (.load t x) fun x => athaw x ρ o.dst H K) : Ends P ops o a w K' Q' := by
  refine pure_ends (K := fun ρ' H' => ∃ z, ρ' = upd ρ o.dst z ∧ H' = H ∧ athaw z ρ o.dst H K) hS hF hG hN hd hn hb hgt ?_ (by
    rw [ho]
    exact apure_load_mono (fun z hz => ⟨z, rfl, rfl, hz⟩) h)
  rintro ρ' H' a' w' ⟨z, rfl, rfl, hz⟩ hR
  unfold athaw at hz
  split at hz
  · obtain ⟨l, ys, ht, hk⟩ := hz
    exact hK _ _ _ _ (hk (fun k => if k ∈ l then none else H' k) (fun k e => if_pos e) (fun k e => if_neg e)) (thaw_rel hR (.agg _ _ (thawL_conv ht)))
  · exact hz.elim
theorem makeSlice_sound {t : TypeId} {l c : Operand} (hS : St S w H) (hF : FR S w ρ a) (hG : Grow S0 w0 S w) (hN : NewK S0.N H0 H) (hd : a.defers = D) (hn : a.tmps.size = n) (ho : o.op = .makeSlice t l c) (hb : ∀ x ∈ o.op.operands, opB a.tmps.size x = true)
    (hw : Region.wanted o (yielded ops a.tmps) = true) (hK : ∀ ρ' H' a' w', K ρ' H' → Rel D n S0 w0 H0 ρ' H' a' w' → K' a' w')
    (h : wopd none (aev ρ l) fun l => wopd none (aev ρ c) fun c => amakeSlice P o t l c ρ H K) : Ends P ops o a w K' Q' := by
  rw [ho] at hb
  simp only [Op.operands] at hb
  obtain ⟨l', h2, hl⟩ := wopd_sound (S := S) (w := w) h
  obtain ⟨c', h3, hc⟩ := wopd_sound (S := S) (w := w) h2
  have el := hl trivial _ (aev_sound hF (hb l (by simp)))
  have ec := hc trivial _ (aev_sound hF (hb c (by simp)))
  unfold amakeSlice at h3
  split at h3
  · rename_i kl x kc y
    simp only [rep] at el ec
    split at h3
    · rename_i e sz bytes he
      split at h3
      · rename_i z hz
        obtain ⟨⟨⟨p1, p2⟩, p3⟩, h4⟩ := h3
        obtain ⟨i, v, hi, hiz, rfl, hsz, hne, h1⟩ := zeroT_spec hz
        obtain ⟨i', z', hut, hi', hsz', hby', hpos, hbpos, hz', hzs⟩ := elemT_spec he
        rw [hi] at hi'
        injection hi' with hi'
        subst hi'
        have hsz2 : v.cells.size = sz := by rw [hsz, hsz']
        have hyb : y ≤ (bytes : Int) * y := by
          have : (1 : Int) * y ≤ (bytes : Int) * y := Int.mul_le_mul_of_nonneg_right (by omega) (by omega)
          omega
        have hrun := run_make (P := P) w t e i v hut hi hiz kl kc x y p1 p2 (by rw [hby']; omega) (by omega)
        have hm : (madeCells v.cells (y.toNat * sz)).toList = (List.replicate y.toNat v.cells.toList).flatten := by
          rw [← hsz2]; exact madeCells_list _ (by omega) _
        have htake : (madeCells v.cells (y.toNat * sz)).toList.take (x.toNat * sz) = (List.replicate x.toNat v.cells.toList).flatten := by
          rw [hm, ← hsz2]
          have : y.toNat = x.toNat + (y.toNat - x.toNat) := by omega
          rw [this, ← List.replicate_append_replicate, List.flatten_append, List.take_append_of_le_length (by simp [List.length_flatten]), List.take_of_length_le (by simp [List.length_flatten])]
        have hrep : ∀ m, repL S w (List.replicate m (v.cells.toList.map zeroV)).flatten (List.replicate m v.cells.toList).flatten := by
          intro m
          induction m with
          | zero => simp [repL]
          | succ m ih => simp only [List.replicate_succ, List.flatten_cons]; exact repL_append _ _ _ _ (zeroL_rep _) ih
        rw [hsz'] at hrun
        have q := hS.newRow (e := e) (sz := sz) (cap := y.toNat) (es := List.replicate x.toNat (v.cells.toList.map zeroV)) (xs := (List.replicate x.toNat v.cells.toList).flatten) (cur := madeCells v.cells (y.toNat * sz)) hpos
          (fun cs hcs => by rw [List.eq_of_mem_replicate hcs]; simp [hsz2]) (hrep _) (fun u hu => by
            obtain ⟨l, hl, hu⟩ := List.mem_flatten.1 hu
            rw [List.eq_of_mem_replicate hl] at hu
            exact h1 u hu) (by rw [List.length_replicate]; omega) (by simp only [maxLen]; omega) (size_madeCells _ _) (by rw [List.length_replicate]; exact htake) (w' := w.alloc (.cells (madeCells v.cells (y.toNat * sz)) e)) rfl rfl rfl rfl
        refine ends_of hw (wp_value (v := .slice (some ⟨w.heap.size, 0, none⟩) x.toNat y.toNat) (w' := w.alloc (.cells (madeCells v.cells (y.toNat * sz)) e)) ?_ (hK _ _ _ _ (h4 S.N hS.fresh) (Rel.step hS hF hG hN hd hn q.1 q.2 (newK_upd hS) ?_)))
        · simp only [execOp, ho, el, ec]
          exact exec_of2 hrun
        · simp only [rep, Sg.addRow, if_true, List.length_replicate]
          exact ⟨Nat.lt_succ_self _, trivial, _, _, _, rfl⟩
      · exact h3.elim
    · exact h3.elim
  · exact h3.elim
theorem keyStays {old new : Value} (h : ∀ n, Instr.sameBits (n + 1) old new = true) (w : World) : (Instr.keyThatStays old new).run P w = .ok new w := by
  have := h 9999
  simp [Instr.keyThatStays, this]
theorem list_modify {ms : List MapEntry} {i : Nat} {m : MapEntry} (hi : ms[i]? = some m) (f : MapEntry → MapEntry) : ms.modify i f = ms.set i (f m) := by
  apply List.ext_getElem?
  intro j
  rw [List.getElem?_modify, List.getElem?_set]
  by_cases e : i = j
  · subst e
    have hlt : i < ms.length := (List.getElem?_eq_some_iff.1 hi).1
    rw [hi]
    simp [hlt]
  · simp [e]
theorem map_sound {t : TypeId} {m x : AV} {F : Nat → Row → TypeId × TypeId → Option Nat → Prop} (hS : St S w H) {u v : Value} (hu : rep S w m u) (hv : rep S w x v) (h : mapOf P H t m x F) :
    ∃ j r kt oi g ms, F j r kt oi ∧ H j = some r ∧ u = .map (some g) ∧ S.loc j = .map (some g) ∧ w.heap[g]? = some (.map (List.toArray ms) ms.length) ∧ ents S w 0 r.es ms ∧ r.sz = 2 ∧ P.underlying t = some (.map kt.1 kt.2) ∧ (∀ e (w' : World), (Instr.checkKey e 10000 kt.1 v).run P w' = .ok () w') ∧
      ((oi = none ∧ ∀ w' : World, (Instr.findKey kt.1 v ms).run P w' = .ok none w') ∨
      ∃ i m cs, oi = some i ∧ ms[i]? = some m ∧ r.es[i]? = some cs ∧ (∀ w' : World, (Instr.findKey kt.1 v ms).run P w' = .ok (some (i, m.val)) w') ∧ m.key = v ∧ (∀ n, Instr.sameBits (n + 1) m.key v = true) ∧ m.born = i ∧ repL S w cs [m.key, m.val]) := by
  unfold mapOf at h
  split at h
  · rename_i j
    split at h
    · rename_i r kt hj ht
      split at h
      · rename_i oi hf
        obtain ⟨hp, h⟩ := h
        simp only [rep] at hu
        obtain ⟨_, rfl, g0, hl0⟩ := hu
        have hm := (hS.rows j r hj).mp hl0
        obtain ⟨g, ms, h1, h2, h3, h4, h5, h6⟩ := map_find ht hp hf hm hv
        obtain ⟨_, _, _, _, _, hsz⟩ := hm
        exact ⟨j, r, kt, oi, g, ms, h, hj, h1, h1, h2, h3, hsz, h4, h5, h6⟩
      · exact h.elim
    · exact h.elim
  · exact h.elim
theorem newK_set {j : Nat} {r : Row} {q : Option Row} (hj : H j = some r) : NewK S.N H (updH H j q) := fun k _ h0 => by
  rw [updH_ne _ _ _ _ (fun e => by subst e; rw [hj] at h0; cases h0)]; exact h0
theorem mapUpdate_sound {t : TypeId} {m x v : Operand} (hS : St S w H) (hF : FR S w ρ a) (hG : Grow S0 w0 S w) (hN : NewK S0.N H0 H) (hd : a.defers = D) (hn : a.tmps.size = n) (ho : o.op = .mapUpdate t m x v) (hb : ∀ x ∈ o.op.operands, opB a.tmps.size x = true)
    (hw : Region.wanted o (yielded ops a.tmps) = true) (hK : ∀ ρ' H' a' w', K ρ' H' → Rel D n S0 w0 H0 ρ' H' a' w' → K' a' w')
    (h : wopd none (aev ρ m) fun m => wopd none (aev ρ x) fun x => wopd none (aev ρ v) fun v => amapUpdate P o t m x v ρ H K) : Ends P ops o a w K' Q' := by
  rw [ho] at hb
  simp only [Op.operands] at hb
  obtain ⟨m', h, hm⟩ := wopd_sound (S := S) (w := w) h
  obtain ⟨x', h, hx⟩ := wopd_sound (S := S) (w := w) h
  obtain ⟨v', h, hv⟩ := wopd_sound (S := S) (w := w) h
  have em := hm trivial _ (aev_sound hF (hb m (by simp)))
  have ex := hx trivial _ (aev_sound hF (hb x (by simp)))
  have evv := hv trivial _ (aev_sound hF (hb v (by simp)))
  unfold amapUpdate at h
  obtain ⟨j, r, kt, oi, g, ms, hk, hj, e0, hl, hg, hents, hsz, hut, hck, hcase⟩ := map_sound hS em ex h
  have hlt : g < w.heap.size := (Array.getElem?_eq_some_iff.1 hg).1
  rcases hcase with ⟨rfl, hfk⟩ | ⟨i, me, cs, rfl, q1, q2, q3, q4, q5, q6, q7⟩
  · have hents' := ents_app (m := ⟨a.eval x, a.eval v, ms.length⟩) (cs := [x', v']) 0 _ _ hents (by simp [ents_len _ _ _ hents]) (by simp only [repL]; exact ⟨_, _, rfl, ex, _, _, rfl, evv, rfl⟩)
    have q := hS.setMap hj hl hents' hsz hlt
    refine ends_of hw (wp_skip' (w' := { w with heap := w.heap.setIfInBounds g (.map (ms ++ [(⟨a.eval x, a.eval v, ms.length⟩ : MapEntry)]).toArray (ms ++ [(⟨a.eval x, a.eval v, ms.length⟩ : MapEntry)]).length) }) ?_ (hK _ _ _ _ hk (Rel.step hS hF hG hN hd hn q.1 q.2 (newK_set hj) (by simp only [rep]))))
    simp [execOp, ho, e0, Instr.mapUpdate, run_underlying hut, MapKept.run_getObj_map hg, hck, hfk, MapKept.run_setObj_map _ hg]
  · have hents' := ents_set (m := ⟨a.eval x, a.eval v, i⟩) (cs := [x', v']) 0 _ _ i hents (by simp) (by simp only [repL]; exact ⟨_, _, rfl, ex, _, _, rfl, evv, rfl⟩)
    have q := hS.setMap hj hl hents' hsz hlt
    refine ends_of hw (wp_skip' (w' := { w with heap := w.heap.setIfInBounds g (.map (ms.set i ⟨a.eval x, a.eval v, i⟩).toArray (ms.set i (⟨a.eval x, a.eval v, i⟩ : MapEntry)).length) }) ?_ (hK _ _ _ _ hk (Rel.step hS hF hG hN hd hn q.1 q.2 (newK_set hj) (by simp only [rep]))))
    have hks := keyStays (P := P) q5
    simp [execOp, ho, e0, Instr.mapUpdate, run_underlying hut, MapKept.run_getObj_map hg, hck, q3, q1, hks, MapKept.run_setObj_map _ hg, list_modify q1, q6]
theorem insert_sound {t : TypeId} {m x v : Operand} (hS : St S w H) (hF : FR S w ρ a) (hG : Grow S0 w0 S w) (hN : NewK S0.N H0 H) (hd : a.defers = D) (hn : a.tmps.size = n) (ho : o.op = .insert t m x v) (hb : ∀ x ∈ o.op.operands, opB a.tmps.size x = true)
    (hw : Region.wanted o (yielded ops a.tmps) = true) (hK : ∀ ρ' H' a' w', K ρ' H' → Rel D n S0 w0 H0 ρ' H' a' w' → K' a' w')
    (h : wopd none (aev ρ m) fun m => wopd none (aev ρ x) fun x => wopd none (aev ρ v) fun v => amapUpdate P o t m x v ρ H K) : Ends P ops o a w K' Q' := by
  rw [ho] at hb
  simp only [Op.operands] at hb
  obtain ⟨m', h, hm⟩ := wopd_sound (S := S) (w := w) h
  obtain ⟨x', h, hx⟩ := wopd_sound (S := S) (w := w) h
  obtain ⟨v', h, hv⟩ := wopd_sound (S := S) (w := w) h
  have em := hm trivial _ (aev_sound hF (hb m (by simp)))
  have ex := hx trivial _ (aev_sound hF (hb x (by simp)))
  have evv := hv trivial _ (aev_sound hF (hb v (by simp)))
  unfold amapUpdate at h
  obtain ⟨j, r, kt, oi, g, ms, hk, hj, e0, hl, hg, hents, hsz, hut, hck, hcase⟩ := map_sound hS em ex h
  have hlt : g < w.heap.size := (Array.getElem?_eq_some_iff.1 hg).1
  rcases hcase with ⟨rfl, hfk⟩ | ⟨i, me, cs, rfl, q1, q2, q3, q4, q5, q6, q7⟩
  · have hents' := ents_app (m := ⟨a.eval x, a.eval v, ms.length⟩) (cs := [x', v']) 0 _ _ hents (by simp [ents_len _ _ _ hents]) (by simp only [repL]; exact ⟨_, _, rfl, ex, _, _, rfl, evv, rfl⟩)
    have q := hS.setMap hj hl hents' hsz hlt
    refine ends_of hw (wp_skip' (w' := { w with heap := w.heap.setIfInBounds g (.map (ms ++ [(⟨a.eval x, a.eval v, ms.length⟩ : MapEntry)]).toArray (ms ++ [(⟨a.eval x, a.eval v, ms.length⟩ : MapEntry)]).length) }) ?_ (hK _ _ _ _ hk (Rel.step hS hF hG hN hd hn q.1 q.2 (newK_set hj) (by simp only [rep]))))
    simp [execOp, ho, e0, Instr.mapUpdate, run_underlying hut, MapKept.run_getObj_map hg, hck, hfk, MapKept.run_setObj_map _ hg]
  · have hents' := ents_set (m := ⟨a.eval x, a.eval v, i⟩) (cs := [x', v']) 0 _ _ i hents (by simp) (by simp only [repL]; exact ⟨_, _, rfl, ex, _, _, rfl, evv, rfl⟩)
    have q := hS.setMap hj hl hents' hsz hlt
    refine ends_of hw (wp_skip' (w' := { w with heap := w.heap.setIfInBounds g (.map (ms.set i ⟨a.eval x, a.eval v, i⟩).toArray (ms.set i (⟨a.eval x, a.eval v, i⟩ : MapEntry)).length) }) ?_ (hK _ _ _ _ hk (Rel.step hS hF hG hN hd hn q.1 q.2 (newK_set hj) (by simp only [rep]))))
    have hks := keyStays (P := P) q5
    simp [execOp, ho, e0, Instr.mapUpdate, run_underlying hut, MapKept.run_getObj_map hg, hck, q3, q1, hks, MapKept.run_setObj_map _ hg, list_modify q1, q6]
theorem mapEntry_sound {t : TypeId} {m x : Operand} (hS : St S w H) (hF : FR S w ρ a) (hG : Grow S0 w0 S w) (hN : NewK S0.N H0 H) (hd : a.defers = D) (hn : a.tmps.size = n) (ho : o.op = .mapEntry t m x) (hb : ∀ x ∈ o.op.operands, opB a.tmps.size x = true)
    (hw : Region.wanted o (yielded ops a.tmps) = true) (hK : ∀ ρ' H' a' w', K ρ' H' → Rel D n S0 w0 H0 ρ' H' a' w' → K' a' w')
    (h : wopd none (aev ρ m) fun m => wopd none (aev ρ x) fun x => amapEntry P o t m x ρ H K) : Ends P ops o a w K' Q' := by
  rw [ho] at hb
  simp only [Op.operands] at hb
  obtain ⟨m', h, hm⟩ := wopd_sound (S := S) (w := w) h
  obtain ⟨x', h, hx⟩ := wopd_sound (S := S) (w := w) h
  have em := hm trivial _ (aev_sound hF (hb m (by simp)))
  have ex := hx trivial _ (aev_sound hF (hb x (by simp)))
  unfold amapEntry at h
  obtain ⟨j, r, kt, oi, g, ms, hk, hj, e0, hl, hg, hents, hsz, hut, hck, hcase⟩ := map_sound hS em ex h
  have hlt : g < w.heap.size := (Array.getElem?_eq_some_iff.1 hg).1
  rcases hcase with ⟨rfl, hfk⟩ | ⟨i, me, cs, rfl, q1, q2, q3, q4, q5, q6, q7⟩
  · simp only at hk
    split at hk
    · rename_i z hz
      obtain ⟨zv, hzr, hzz⟩ := zeroE_run hz
      have hents' := ents_app (m := ⟨a.eval x, zv, ms.length⟩) (cs := [x', z]) 0 _ _ hents (by simp [ents_len _ _ _ hents]) (by simp only [repL]; exact ⟨_, _, rfl, ex, _, _, rfl, hzz S w, rfl⟩)
      have q := hS.setMap hj hl hents' hsz hlt
      refine ends_of hw (wp_value (v := .tuple #[zv, goInt ms.length]) (w' := { w with heap := w.heap.setIfInBounds g (.map (ms ++ [(⟨a.eval x, zv, ms.length⟩ : MapEntry)]).toArray (ms ++ [(⟨a.eval x, zv, ms.length⟩ : MapEntry)]).length) }) ?_ (hK _ _ _ _ hk (Rel.step hS hF hG hN hd hn q.1 q.2 (newK_set hj) ?_)))
      · simp [execOp, ho, e0, Instr.mapEntry, run_underlying hut, MapKept.run_getObj_map hg, hck, hfk, hzr, MapKept.run_setObj_map _ hg]
      · simp only [rep, repL]
        exact ⟨[zv, goInt ms.length], by simp, _, _, rfl, hzz _ _, _, _, rfl, by rw [← ents_len _ _ _ hents]; rfl, rfl⟩
    · exact hk.elim
  · simp only at hk
    have hsame : ms.set i ⟨a.eval x, me.val, i⟩ = ms := by
      have e0 : (⟨a.eval x, me.val, i⟩ : MapEntry) = me := by rw [← q4, ← q6]
      rw [e0]
      apply List.ext_getElem?
      intro k
      rw [List.getElem?_set]
      by_cases e : i = k
      · subst e
        have hlt : i < ms.length := (List.getElem?_eq_some_iff.1 q1).1
        rw [q1]
        simp [hlt]
      · simp [e]
    have hm : ({ w with heap := w.heap.setIfInBounds g (.map ms.toArray ms.length) } : World) = w := by
      have hh : w.heap.setIfInBounds g (.map ms.toArray ms.length) = w.heap := by
        apply Array.ext_getElem?
        intro k
        rw [Array.getElem?_setIfInBounds]
        by_cases e : g = k
        · subst e; rw [hg]; simp [hlt]
        · simp [e]
      rw [hh]
    obtain ⟨xk, xv, rfl, r1, r2⟩ := pair_get q7
    have e1 : (r.es.getD i []).getD 1 .any = xv := by simp [List.getD, q2]
    rw [e1] at hk
    refine ends_of hw (wp_value (v := .tuple #[me.val, goInt i]) (w' := w) ?_ (hK _ _ _ _ hk (Rel.step hS hF hG hN hd hn hS (Grow.refl S w) (NewK.refl _ _) ?_)))
    · have hks := keyStays (P := P) q5
      have hset := MapKept.run_setObj_map (P := P) (.map (List.toArray ms) ms.length) hg
      rw [hm] at hset
      simp [execOp, ho, e0, Instr.mapEntry, run_underlying hut, MapKept.run_getObj_map hg, hck, q3, q1, hks, list_modify q1, hsame, hset, q6]
    · simp only [rep, repL]
      exact ⟨[me.val, goInt i], by simp, _, _, rfl, r2, _, _, rfl, rfl, rfl⟩
theorem born_find : ∀ (i : Nat) (es : List (List AV)) (ms : List MapEntry) (j : Nat) {m : MapEntry}, ents S w i es ms → ms[j]? = some m → ms.findIdx? (fun e => (e.born : Int) == ((i + j : Nat) : Int)) = some j
  | _, [], ms, j, m, h, hj => by simp only [ents] at h; subst h; simp at hj
  | i, c :: r, ms, 0, m, h, hj => by
    simp only [ents] at h
    obtain ⟨m0, t, rfl, h1, _, h3⟩ := h
    simp [List.findIdx?_cons, h1]
  | i, c :: r, ms, j + 1, m, h, hj => by
    simp only [ents] at h
    obtain ⟨m0, t, rfl, h1, _, h3⟩ := h
    have ih := born_find (i + 1) r t j h3 (by simpa using hj)
    have hne : ((m0.born : Int) == ((i + (j + 1) : Nat) : Int)) = false := by simp [h1]; omega
    rw [List.findIdx?_cons, hne, show i + (j + 1) = i + 1 + j by omega, ih]
    rfl
theorem entryStore_sound {t : TypeId} {m s v : Operand} (hS : St S w H) (hF : FR S w ρ a) (hG : Grow S0 w0 S w) (hN : NewK S0.N H0 H) (hd : a.defers = D) (hn : a.tmps.size = n) (ho : o.op = .entryStore t m s v) (hb : ∀ x ∈ o.op.operands, opB a.tmps.size x = true)
    (hw : Region.wanted o (yielded ops a.tmps) = true) (hK : ∀ ρ' H' a' w', K ρ' H' → Rel D n S0 w0 H0 ρ' H' a' w' → K' a' w')
    (h : wopd none (aev ρ m) fun m => wopd none (aev ρ s) fun s => wopd none (aev ρ v) fun v => aentryStore o m s v ρ H K) : Ends P ops o a w K' Q' := by
  rw [ho] at hb
  simp only [Op.operands] at hb
  obtain ⟨m', h, hm⟩ := wopd_sound (S := S) (w := w) h
  obtain ⟨s', h, hs⟩ := wopd_sound (S := S) (w := w) h
  obtain ⟨v', h, hv⟩ := wopd_sound (S := S) (w := w) h
  have em := hm trivial _ (aev_sound hF (hb m (by simp)))
  have es := hs trivial _ (aev_sound hF (hb s (by simp)))
  have evv := hv trivial _ (aev_sound hF (hb v (by simp)))
  unfold aentryStore at h
  split at h
  · rename_i j kd i _ _
    split at h
    · rename_i r hj
      obtain ⟨⟨i0, i1⟩, h⟩ := h
      simp only [rep] at em es
      obtain ⟨_, e0, g0, hl0⟩ := em
      rw [e0] at hl0
      obtain ⟨g, ms, hl, hg, hents, hsz⟩ := (hS.rows j r hj).mp hl0
      have hlt : g < w.heap.size := (Array.getElem?_eq_some_iff.1 hg).1
      obtain ⟨me, g1, g2, g3⟩ := ents_get 0 _ _ i.toNat hents (by omega)
      obtain ⟨xk, xv, e1, r1, r2⟩ := pair_get g3
      have e2 : (r.es.getD i.toNat []).getD 0 .any = xk := by rw [e1]; rfl
      rw [e2] at h
      have hents' := ents_set (m := ⟨me.key, a.eval v, me.born⟩) (cs := [xk, v']) 0 _ _ i.toNat hents (by simpa using g2) (by simp only [repL]; exact ⟨_, _, rfl, r1, _, _, rfl, evv, rfl⟩)
      have q := hS.setMap hj hl hents' hsz hlt
      have hfi := born_find 0 _ _ i.toNat hents g1
      rw [Nat.zero_add, Int.toNat_of_nonneg i0] at hfi
      refine ends_of hw (wp_skip' (w' := { w with heap := w.heap.setIfInBounds g (.map (ms.set i.toNat ⟨me.key, a.eval v, me.born⟩).toArray (ms.set i.toNat (⟨me.key, a.eval v, me.born⟩ : MapEntry)).length) }) ?_ (hK _ _ _ _ h (Rel.step hS hF hG hN hd hn q.1 q.2 (newK_set hj) (by simp only [rep]))))
      rw [hl] at e0
      simp [execOp, ho, e0, es, asInt, asIntOf, Instr.entryStore, MapKept.run_getObj_map hg, hfi, MapKept.run_setObj_map _ hg, list_modify g1]
    · exact h.elim
  · exact h.elim
theorem makeMap_sound {t : TypeId} (hS : St S w H) (hF : FR S w ρ a) (hG : Grow S0 w0 S w) (hN : NewK S0.N H0 H) (hd : a.defers = D) (hn : a.tmps.size = n) (ho : o.op = .makeMap t none)
    (hw : Region.wanted o (yielded ops a.tmps) = true) (hK : ∀ ρ' H' a' w', K ρ' H' → Rel D n S0 w0 H0 ρ' H' a' w' → K' a' w')
    (h : anew H ⟨0, 2, []⟩ fun k H' => K (upd ρ o.dst (.om k)) H') : Ends P ops o a w K' Q' := by
  have q := hS.newMap (w' := w.alloc (.map #[] 0)) rfl rfl rfl rfl
  refine ends_of hw (wp_value (v := .map (some w.heap.size)) (w' := w.alloc (.map #[] 0)) ?_ (hK _ _ _ _ (h S.N hS.fresh) (Rel.step hS hF hG hN hd hn q.1 q.2 (newK_upd hS) ?_)))
  · simp [execOp, ho, Instr.makeMap]
  · simp only [rep, Sg.addRow, if_true]
    exact ⟨Nat.lt_succ_self _, trivial, _, rfl⟩
theorem aop_sound {quiet : Bool} (hops : ∀ o ∈ ops, operB n o = true) (hS : St S w H) (hF : FR S w ρ a) (hG : Grow S0 w0 S w) (hN : NewK S0.N H0 H) (hd : a.defers = D) (hn : a.tmps.size = n) (hb : operB n o = true)
    (hK : ∀ ρ' H' a' w', K ρ' H' → Rel D n S0 w0 H0 ρ' H' a' w' → K' a' w') (h : aop P (FCalls P) (QCalls P) mt quiet ops o ρ H K) : Ends P ops o a w K' Q' := by
  obtain ⟨hbo, _⟩ := operB_spec hb
  unfold aop at h
  obtain ⟨G, h2, hgt⟩ := wguard_sound hops hF hn h
  clear h
  have h := h2
  clear h2
  split at h
  · -- assign
    rename_i x ho
    unfold aassign at h
    split at h
    · rename_i hmt
      obtain ⟨_, rfl, _, hx⟩ := hmt
      have hx : x = .const (.slice none 0 0) := by
        unfold isNilC at hx
        split at hx
        · rfl
        · simp at hx
      subst hx
      split at h
      · rename_i e sz bytes he
        obtain ⟨i, z, hu, hi, hsz, _, hpos, _⟩ := elemT_spec he
        have hw := wanted_none hgt rfl
        have q := hS.nilRow e hpos
        refine ends_of hw (wp_value (v := .slice none 0 0) (w' := w) (by simp [execOp, ho, Act.eval]) (hK _ _ _ _ (h S.N hS.fresh) (Rel.step hS hF hG hN hd hn q.1 q.2 (newK_upd hS) ?_)))
        simp only [rep, Sg.addRow, if_true]
        exact ⟨Nat.lt_succ_self _, trivial, _, _, _, rfl⟩
      · exact h.elim
    · exact pure_ends hS hF hG hN hd hn hbo hgt hK (by rw [ho]; exact h)
  · -- alloc
    rename_i t ho
    split at h
    · rename_i z hz
      obtain ⟨rfl, _, h⟩ := h
      have hw := wanted_none hgt rfl
      split at h
      · split at h
        · rename_i nl hnl
          exact alloc_sound hS hF hG hN hd hn ho hz hw hK hnl h
        · exact h.elim
      obtain ⟨v, i, hi, rfl, h1, hne, hrun⟩ := run_alloc hz (.tuple #[]) w
      obtain ⟨S', q1, q2, q3⟩ := box_state (t := t) (cs := v.cells.toList.map zeroV) (l := v.cells.toList) hS (by simp; omega) (zeroL_rep _) h1
      refine ends_of hw (wp_value (v := .pointer (some ⟨w.heap.size, 0, none⟩)) (w' := w.alloc (.cells v.cells t)) (by simp [execOp, ho, hrun]) (hK _ _ _ _ (h S.N hS.fresh) (Rel.step hS hF hG hN hd hn (by simpa using q1) (by simpa using q2) (newK_upd hS) (by simpa using q3))))
    · exact h.elim
  · -- box
    rename_i t x ho
    obtain ⟨rfl, _, h⟩ := h
    have hw := wanted_none hgt rfl
    obtain ⟨y, h2, hy⟩ := wopd_sound (S := S) (w := w) h
    obtain ⟨cs, h3, hcs⟩ := wcells_sound (S := S) (w := w) h2
    have hx : opB a.tmps.size x = true := hn ▸ hbo x (by simp [ho, Op.operands])
    obtain ⟨l, e1, e2, e3⟩ := hcs _ (hy trivial _ (aev_sound hF hx))
    have hrun : (execOp a.eval o).run P w = .ok (.value (.pointer (some ⟨w.heap.size, 0, none⟩))) (w.alloc (.cells l.toArray t)) := by
      simp [execOp, ho, run_box, e1]
    unfold abox at h3
    split at h3
    · obtain ⟨hpos, h4⟩ := h3
      obtain ⟨S', q1, q2, q3⟩ := box_state (t := t) hS hpos e2 e3
      exact ends_of hw (wp_value hrun (hK _ _ _ _ (h4 S.N hS.fresh) (Rel.step hS hF hG hN hd hn q1 q2 (newK_upd hS) q3)))
    · have q := hS.newRo (o := .cells l.toArray t) (w' := w.alloc (.cells l.toArray t)) rfl rfl rfl rfl
      refine ends_of hw (wp_value hrun (hK _ _ _ _ h3 (Rel.step hS hF hG hN hd hn q.1 q.2 (NewK.refl _ _) ?_)))
      simp only [rep]
      refine ⟨w.heap.size, 0, by simp, .inr rfl, ?_⟩
      refine cellsAt_of_repL _ l 0 (repL_mono q.2.le (q.2.kept hS) _ _ e2) e3 fun j u hj => ?_
      rw [cell_of_row (w.alloc (.cells l.toArray t)) w.heap.size (0 + j) l.toArray t (0, 0) (heap_alloc_new w _)]
      simpa using hj
  · -- buildSlice
    rename_i t m parts ho
    obtain ⟨_, h⟩ := h
    obtain ⟨ps, h2, hps⟩ := wparts_sound hF parts.toList (fun p hp => hn ▸ hbo p.2 (by rw [ho]; simpa [Op.operands] using ⟨p.1, by simpa using hp⟩)) h
    unfold abuildSlice at h2
    split at h2
    · rename_i e sz bytes he
      obtain ⟨⟨p1, p2, p3⟩, h3⟩ := h2
      have go : ∀ (_ : gt G), ∃ xs : List Value, (execOp a.eval o).run P w = .ok (.value (.slice (some ⟨w.heap.size, 0, none⟩) m m)) (w.alloc (.cells xs.toArray e)) ∧ repL S w (ps.map (·.2)).flatten xs ∧ (∀ u ∈ xs, u.oneCell' = true) ∧ ps.length = m ∧ xs.length = m * sz := fun hg => by
        obtain ⟨f1, f2⟩ := hps hg
        have hl : (parts.map fun (p : Nat × Operand) => (p.1, a.eval p.2)).toList = parts.toList.map fun p => (p.1, a.eval p.2) := by simp
        rw [← hl] at f1 f2
        obtain ⟨xs, g1, g2, g3, g4, g5⟩ := run_buildSlice (w := w) he p1 p2 f1 f2 p3
        refine ⟨xs, ?_, g2, g3, g4, g5⟩
        simp only [execOp, ho]
        exact exec_of2 g1
      obtain ⟨inf, z, hu, hi, hsz, _, hpos, _⟩ := elemT_spec he
      split at h3
      · rename_i hmt
        obtain ⟨_, rfl⟩ := hmt
        have hw := wanted_none hgt rfl
        obtain ⟨xs, g1, g2, g3, g4, g5⟩ := go trivial
        have hlen : (ps.map (·.2)).length = m := by simpa using g4
        have q := hS.newRow (e := e) (sz := sz) (cap := m) (es := ps.map (·.2)) (xs := xs) (cur := xs.toArray) hpos (allLen_iff.1 p2) g2 g3 (by omega) (by simp only [maxLen]; have : m ≤ m * sz := Nat.le_mul_of_pos_right _ hpos; omega) (by simpa using g5)
          (by rw [hlen, List.take_of_length_le (by simp [g5])]) (w' := w.alloc (.cells xs.toArray e)) rfl rfl rfl rfl
        refine ends_of hw (wp_value g1 (hK _ _ _ _ (h3 S.N hS.fresh) (Rel.step hS hF hG hN hd hn q.1 q.2 (newK_upd hS) ?_)))
        simp only [rep, Sg.addRow, if_true]
        exact ⟨Nat.lt_succ_self _, by rw [hlen], _, _, _, rfl⟩
      · refine And.symm ⟨fun hw => ?_, fun hw => ?_⟩
        · have hgG : ¬ gt G := fun h => by rw [hgt.2 h] at hw; simp at hw
          exact hK _ _ _ _ h3 (Rel.step hS hF hG hN hd hn hS (Grow.refl S w) (NewK.refl _ _) (rep_wr_false hgG))
        have hgG := hgt.1 hw
        obtain ⟨xs, g1, g2, g3, g4, g5⟩ := go hgG
        have hlen : (ps.map (·.2)).length = m := by simpa using g4
        have q := hS.newRo (o := .cells xs.toArray e) (w' := w.alloc (.cells xs.toArray e)) rfl rfl rfl rfl
        refine wp_value g1 (hK _ _ _ _ h3 (Rel.step hS hF hG hN hd hn q.1 q.2 (NewK.refl _ _) (rep_wr_true hgG ?_)))
        simp only [rep]
        refine ⟨_, _, _, rfl, hlen, Nat.le_refl _, by simp only [maxLen]; have : m ≤ m * sz := Nat.le_mul_of_pos_right _ hpos; omega, .inr ⟨w.heap.size, 0, sz, rfl, .inr rfl, hpos, ?_⟩⟩
        refine elsAt_of_flat _ _ (allLen_iff.1 p2) (cellsAt_of_repL _ xs 0 (repL_mono q.2.le (q.2.kept hS) _ _ g2) g3 fun j u hj => ?_)
        rw [cell_of_row (w.alloc (.cells xs.toArray e)) w.heap.size (0 + j) xs.toArray e (0, 0) (heap_alloc_new w _)]
        simpa using hj
    · exact h2.elim
  · -- store
    rename_i t x y ho
    obtain ⟨rfl, _, h⟩ := h
    have hw := wanted_none hgt rfl
    split at h
    · rename_i hny
      have hy : y = .const (.slice none 0 0) := by
        unfold isNilC at hny
        split at hny
        · rfl
        · simp at hny
      subst hy
      exact store_nil_sound (K2 := fun _ => True) hS hF hG hN hd hn ho (fun x hx => hn ▸ hbo x hx) hw hK h
    obtain ⟨x', h2, hx'⟩ := wopd_sound (S := S) (w := w) h
    obtain ⟨y', h3, hy'⟩ := wopd_sound (S := S) (w := w) h2
    obtain ⟨cs, h4, hcs⟩ := wcells_sound (S := S) (w := w) h3
    have hbx : opB a.tmps.size x = true := hn ▸ hbo x (by simp [ho, Op.operands])
    have hby : opB a.tmps.size y = true := hn ▸ hbo y (by simp [ho, Op.operands])
    have ex := hx' trivial _ (aev_sound hF hbx)
    obtain ⟨l, e1, e2, e3⟩ := hcs _ (hy' trivial _ (aev_sound hF hby))
    exact store_soundN hS hF hG hN hd hn ho hw hK ex e1 e2 e3 h4
  · rename_i c ho; exact acall_sound hS hF hG hN hd hn ho hbo hgt hK h
  all_goals first
    | exact h.elim
    | (rename_i ho; split at h
       · obtain ⟨rfl, _, h⟩ := h; exact freeze_sound hS hF hG hN hd hn ho (fun x hx => hn ▸ hbo x hx) (wanted_none hgt rfl) hK h
       · exact pure_ends hS hF hG hN hd hn hbo hgt hK (by rw [ho]; exact h))
    | (rename_i ho; split at h
       · obtain ⟨rfl, _, h⟩ := h; exact thaw_sound hS hF hG hN hd hn ho hbo hgt hK h
       · exact pure_ends hS hF hG hN hd hn hbo hgt hK (by rw [ho]; exact h))
    | (rename_i ho; split at h
       · obtain ⟨rfl, h⟩ := h
         split at h
         · exact buildQ_sound hS hF hG hN hd hn ho (fun x hx => hn ▸ hbo x hx) (wanted_none hgt rfl) hK h
         · exact buildN_sound hS hF hG hN hd hn ho (fun x hx => hn ▸ hbo x hx) (wanted_none hgt rfl) hK h
       · exact pure_ends hS hF hG hN hd hn hbo hgt hK (by rw [ho]; exact h))
    | (rename_i ho; obtain ⟨rfl, _, h⟩ := h; exact makeSlice_sound hS hF hG hN hd hn ho (fun x hx => hn ▸ hbo x hx) (wanted_none hgt rfl) hK h)
    | (rename_i ho; exact pure_ends hS hF hG hN hd hn hbo hgt hK (by rw [ho]; exact h))
    | (rename_i ho; obtain ⟨rfl, _, h⟩ := h; exact makeMap_sound hS hF hG hN hd hn ho (wanted_none hgt rfl) hK h)
    | (rename_i ho; obtain ⟨rfl, _, h⟩ := h; exact mapUpdate_sound hS hF hG hN hd hn ho (fun x hx => hn ▸ hbo x hx) (wanted_none hgt rfl) hK h)
    | (rename_i ho; obtain ⟨rfl, _, h⟩ := h; exact insert_sound hS hF hG hN hd hn ho (fun x hx => hn ▸ hbo x hx) (wanted_none hgt rfl) hK h)
    | (rename_i ho; obtain ⟨rfl, _, h⟩ := h; exact mapEntry_sound hS hF hG hN hd hn ho (fun x hx => hn ▸ hbo x hx) (wanted_none hgt rfl) hK h)
    | (rename_i ho; obtain ⟨rfl, _, h⟩ := h; exact entryStore_sound hS hF hG hN hd hn ho (fun x hx => hn ▸ hbo x hx) (wanted_none hgt rfl) hK h)
end
end Go.Aw
