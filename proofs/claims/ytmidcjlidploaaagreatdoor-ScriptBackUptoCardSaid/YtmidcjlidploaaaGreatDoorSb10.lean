/- Texts joined by a program: AwWp2. -/
import Derived.Test.YtmidcjlidploaaaGreatDoorSb09

set_option linter.unusedSimpArgs false
set_option linter.unusedVariables false
namespace Go.Aw
open Go.RowKit
section
variable {D : List Deferred} {P : Program} {n : Nat} {S0 : Sg} {w0 : World} {H0 : Heap} {mt : Nat → Bool} {ops : Array Oper} {K : Env → Heap → Prop} {K' : Act → World → Prop} {Q' : Exit → Act → World → Prop} {ρ : Env} {H : Heap} {a : Act} {w : World} {o : Oper} {S : Sg}
theorem wanted_none {G : Option Bool} (hgt : Region.wanted o (yielded ops a.tmps) = true ↔ gt G) (hG : G = none) : Region.wanted o (yielded ops a.tmps) = true := by subst hG; exact hgt.2 trivial
theorem callOk_spec {f : FuncId} (h : callOk P f = true) : ∃ fn, P.funcs[f]? = some fn ∧ (fn.name == "runtime.NumGoroutine") = false ∧ fn.body.isNone = false := by
  unfold callOk at h
  split at h
  · rename_i fn hf
    simp only [Bool.and_eq_true, bne_iff_ne, ne_eq] at h
    refine ⟨fn, hf, by simpa using h.1, ?_⟩
    cases hb : fn.body <;> simp_all
  · simp at h
theorem run_callFunc {f : FuncId} (h : callOk P f = true) (args : Array Value) (w : World) : (callFunc f args).run P w = .ok (.enter f args) w := by
  obtain ⟨fn, h1, h2, h3⟩ := callOk_spec h
  have h2' : ¬ fn.name = "runtime.NumGoroutine" := by simpa using h2
  have h3' : ¬ fn.body = none := fun e => by rw [e] at h3; simp at h3
  simp [callFunc, h1, h2', h3']
theorem ends_of (hw : Region.wanted o (yielded ops a.tmps) = true) (h : o.wp P a w K' Q') : Ends P ops o a w K' Q' := ⟨fun _ => h, fun e => by rw [hw] at e; simp at e⟩
theorem repL_vs : ∀ (l : List Value), repL S w (l.map .v) l
  | [] => by simp [repL]
  | v :: r => by simp only [List.map_cons, repL]; exact ⟨v, r, rfl, rep_v, repL_vs r⟩
theorem fnOf_sound {x : AV} {g : FuncId} {fst cpt : List AV} {u : Value} (h : fnOf x = some (g, fst, cpt)) (hu : rep S w x u) :
    ∃ first captured : Array Value, u = .func (.func g) first captured ∧ repL S w fst first.toList ∧ repL S w cpt captured.toList := by
  unfold fnOf at h
  split at h
  · rename_i f first captured
    simp only [Option.some.injEq, Prod.mk.injEq] at h
    obtain ⟨rfl, rfl, rfl⟩ := h
    simp only [rep] at hu
    exact ⟨first, captured, hu, repL_vs _, repL_vs _⟩
  · rename_i f cap
    simp only [Option.some.injEq, Prod.mk.injEq] at h
    obtain ⟨rfl, rfl, rfl⟩ := h
    simp only [rep] at hu
    obtain ⟨l, rfl, hl⟩ := hu
    exact ⟨#[], l.toArray, rfl, by simp [repL], by simpa using hl⟩
  · simp at h
theorem run_resolve_fn {c : Call} {f : Operand} (hc : c.callee = .value f) {g : FuncId} {first captured : Array Value} (hf : a.eval f = .func (.func g) first captured) (ty : TypeId) :
    resolve a.eval c ty = pure { target := .fn (.func g) captured, args := first ++ c.args.map a.eval } := by
  unfold resolve
  simp only [hc]
  rw [hf]
  rfl
theorem acall_sound {nl quiet : Bool} {G : Option Bool} {c : Call} (hS : St S w H) (hF : FR S w ρ a) (hG : Grow S0 w0 S w) (hN : NewK S0.N H0 H) (hd : a.defers = D) (hn : a.tmps.size = n) (ho : o.op = .call c) (hb : ∀ x ∈ o.op.operands, opB n x = true)
    (hgt : Region.wanted o (yielded ops a.tmps) = true ↔ gt G) (hK : ∀ ρ' H' a' w', K ρ' H' → Rel D n S0 w0 H0 ρ' H' a' w' → K' a' w') (h : acall P (FCalls P) (QCalls P) nl quiet G o c ρ H K) : Ends P ops o a w K' Q' := by
  rw [ho] at hb
  simp only [Op.operands, Call.operands] at hb
  unfold acall at h
  split at h
  · rename_i b hc
    obtain ⟨ys, h2, hys⟩ := wopds_sound hF c.args.toList (fun x hx => hn ▸ hb x (by simp [Array.mem_toList_iff.1 hx])) h
    clear h
    have h := h2
    clear h2
    split at h
    · rename_i x t hargs
      obtain ⟨z, hz, hl⟩ := alen_sound (G := G) (ty := o.type) hS.rows h
      refine ⟨fun hw => ?_, fun hw => ?_⟩
      · have hgG := hgt.1 hw
        have hr := hys hgG
        simp only [repL] at hr
        obtain ⟨u, t', e1, e2, rfl⟩ := hr
        obtain ⟨v, hv, hrun⟩ := hl hgG u e2
        have ea : c.args.map a.eval = #[u] := by
          apply Array.toList_inj.1
          simpa using e1
        have et : c.argTypes = #[t] := Array.toList_inj.1 (by simpa using hargs)
        refine wp_value (v := v) (w' := w) ?_ (hK _ _ _ _ hz (Rel.step hS hF hG hN hd hn hS (Grow.refl S w) (NewK.refl _ _) (rep_wr_true hgG hv)))
        simp [execOp, ho, resolve, hc, invoke, builtin, ea, et, hrun w (Agree.refl S H w)]
      · have hgG : ¬ gt G := fun h => by rw [hgt.2 h] at hw; simp at hw
        exact hK _ _ _ _ hz (Rel.step hS hF hG hN hd hn hS (Grow.refl S w) (NewK.refl _ _) (rep_wr_false hgG))
    · rename_i s x t t' hargs
      split at h
      · rename_i hcond
        obtain ⟨htt, hGn, _⟩ := hcond
        subst hGn
        subst htt
        have hw := wanted_none hgt rfl
        refine ends_of hw ?_
        have hr := hys trivial
        simp only [repL] at hr
        obtain ⟨us, t1, e1, e2, ux, t2, rfl, e3, rfl⟩ := hr
        have ea : c.args.map a.eval = #[us, ux] := Array.toList_inj.1 (by simpa using e1)
        have et : c.argTypes = #[t, t] := Array.toList_inj.1 (by simpa using hargs)
        unfold aappend at h
        split at h
        · rename_i k e sz bytes he
          split at h
          · rename_i r hk
            have app : ∀ news, SrcOK S w ux news → ((r.e = e ∧ r.sz = sz ∧ allLen sz news ∧ (r.es.length + news.length) * bytes ≤ 140737488355328) ∧
                ∀ k', H k' = none → K (upd ρ o.dst (.os k')) (updH (updH H k none) k' (some ⟨e, sz, r.es ++ news⟩))) → o.wp P a w K' Q' := by
              rintro news hsrc ⟨⟨rfl, rfl, hlen, hsize⟩, hk'⟩
              simp only [rep] at e2
              obtain ⟨hkN, rfl, _, _, _, hloc0⟩ := e2
              obtain ⟨v', w', q1, q2, q3, q4⟩ := hS.append hk hloc0 (ty := o.type) he hsrc hlen hsize
              refine wp_value (v := v') (w' := w') ?_ (hK _ _ _ _ (hk' S.N hS.fresh) (Rel.step hS hF hG hN hd hn q3 q4 ?_ ?_))
              · simp [execOp, ho, resolve, hc, invoke, builtin, ea, et, q1]
              · intro j hj h0
                rw [updH_ne _ _ _ _ (Nat.ne_of_lt hj)]
                by_cases e : j = k
                · subst e; exact updH_same _ _ _
                · rw [updH_ne _ _ _ _ e]; exact h0
              · simp only [rep, Sg.addRow, if_true]
                exact ⟨Nat.lt_succ_self _, trivial, q2⟩
            unfold asrc at h
            split at h
            · exact app _ (src_sl e3) h
            · rename_i k2
              split at h
              · rename_i r2 hk2
                simp only [rep] at e3
                obtain ⟨_, rfl, _, _, _, hloc2⟩ := e3
                exact app _ (src_os (hS.rows k2 r2 hk2) hloc2) h
              · exact h.elim
            · rename_i k2 a2 b2
              split at h
              · rename_i r2 hk2
                exact app _ (src_oz (hS.rows k2 r2 hk2) e3).1 h
              · exact h.elim
            · exact h.elim
          · exact h.elim
        · rename_i es e sz bytes he
          have app : ∀ news, SrcOK S w ux news → ((news ≠ [] ∧ allLen sz es ∧ allLen sz news ∧ (es.length + news.length) * bytes ≤ 140737488355328) ∧
              ∀ k', H k' = none → K (upd ρ o.dst (.os k')) (updH H k' (some ⟨e, sz, es ++ news⟩))) → o.wp P a w K' Q' := by
            rintro news hsrc ⟨⟨hne, hes, hlen, hsize⟩, hk'⟩
            obtain ⟨v', w', q1, q2, q3, q4⟩ := hS.appendNew e2 (ty := o.type) he hsrc hne hes hlen hsize
            refine wp_value (v := v') (w' := w') ?_ (hK _ _ _ _ (hk' S.N hS.fresh) (Rel.step hS hF hG hN hd hn q3 q4 ?_ ?_))
            · simp [execOp, ho, resolve, hc, invoke, builtin, ea, et, q1]
            · intro j hj h0
              rw [updH_ne _ _ _ _ (Nat.ne_of_lt hj)]
              exact h0
            · simp only [rep, Sg.addRow, if_true]
              exact ⟨Nat.lt_succ_self _, trivial, q2⟩
          unfold asrc at h
          split at h
          · exact app _ (src_sl e3) h
          · rename_i k2
            split at h
            · rename_i r2 hk2
              simp only [rep] at e3
              obtain ⟨_, rfl, _, _, _, hloc2⟩ := e3
              exact app _ (src_os (hS.rows k2 r2 hk2) hloc2) h
            · exact h.elim
          · rename_i k2 a2 b2
            split at h
            · rename_i r2 hk2
              exact app _ (src_oz (hS.rows k2 r2 hk2) e3).1 h
            · exact h.elim
          · exact h.elim
        · rename_i k a0 b0 e sz bytes he
          split at h
          · rename_i r hk
            have app : ∀ news, SrcOK S w ux news → ((r.e = e ∧ r.sz = sz ∧ news ≠ [] ∧ allLen sz news ∧ b0 = r.es.length ∧ (r.es.length + news.length) * bytes ≤ 140737488355328) ∧
                ∀ (k' : Nat) (pre : List (List AV)), pre.length ≤ a0 → H k' = none → K (upd ρ o.dst (.oz k' pre.length (pre.length + (b0 - a0) + news.length))) (updH (updH H k none) k' (some ⟨e, sz, pre ++ (r.es.drop a0 ++ news)⟩))) → o.wp P a w K' Q' := by
              rintro news hsrc ⟨⟨rfl, rfl, hne, hlen, hb, hsize⟩, hk'⟩
              obtain ⟨v', w', vl, pre, q1, q3, q4, q5, q6⟩ := hS.appendOz hk e2 (ty := o.type) he hsrc hne hb hlen hsize
              refine wp_value (v := v') (w' := w') ?_ (hK _ _ _ _ (hk' S.N pre q6 hS.fresh) (Rel.step hS hF hG hN hd hn q3 q4 ?_ q5))
              · simp [execOp, ho, resolve, hc, invoke, builtin, ea, et, q1]
              · intro j hj h0
                rw [updH_ne _ _ _ _ (Nat.ne_of_lt hj)]
                by_cases e : j = k
                · subst e; exact updH_same _ _ _
                · rw [updH_ne _ _ _ _ e]; exact h0
            unfold asrc at h
            split at h
            · exact app _ (src_sl e3) h
            · rename_i k2
              split at h
              · rename_i r2 hk2
                simp only [rep] at e3
                obtain ⟨_, rfl, _, _, _, hloc2⟩ := e3
                exact app _ (src_os (hS.rows k2 r2 hk2) hloc2) h
              · exact h.elim
            · rename_i k2 a2 b2
              split at h
              · rename_i r2 hk2
                exact app _ (src_oz (hS.rows k2 r2 hk2) e3).1 h
              · exact h.elim
            · exact h.elim
          · exact h.elim
        · rename_i e sz bytes he
          have e2' : rep S w (.cl []) us := by
            have hu : us = .slice none 0 0 := by simp only [rep] at e2; exact e2
            subst hu
            simp only [rep]
            exact ⟨none, 0, rfl, rfl, Nat.zero_le _, .inl trivial⟩
          have app : ∀ news, SrcOK S w ux news → ((news = [] ∧ K (upd ρ o.dst (.v (.slice none 0 0))) H) ∨ (news ≠ [] ∧ allLen sz ([] : List (List AV)) ∧ allLen sz news ∧ (([] : List (List AV)).length + news.length) * bytes ≤ 140737488355328) ∧
              ∀ k', H k' = none → K (upd ρ o.dst (.os k')) (updH H k' (some ⟨e, sz, [] ++ news⟩))) → o.wp P a w K' Q' := by
            rintro news hsrc (⟨rfl, h0⟩ | ⟨⟨hne, hes, hlen, hsize⟩, hk'⟩)
            · obtain ⟨inf, z, hut, hi, _⟩ := elemT_spec he
              obtain ⟨ad, c, l, rfl, _⟩ := hsrc
              have hu : us = .slice none 0 0 := by simp only [rep] at e2; exact e2
              subst hu
              refine wp_value (v := .slice none 0 0) (w' := w) ?_ (hK _ _ _ _ h0 (Rel.step hS hF hG hN hd hn hS (Grow.refl S w) (NewK.refl _ _) e2))
              simp [execOp, ho, resolve, hc, invoke, builtin, ea, et, run_append_nothing (b := none) (ad := ad) (c2 := c) (ty := o.type) hut hi (Nat.le_refl 0)]
            obtain ⟨v', w', q1, q2, q3, q4⟩ := hS.appendNew e2' (ty := o.type) he hsrc hne hes hlen hsize
            refine wp_value (v := v') (w' := w') ?_ (hK _ _ _ _ (hk' S.N hS.fresh) (Rel.step hS hF hG hN hd hn q3 q4 ?_ ?_))
            · simp [execOp, ho, resolve, hc, invoke, builtin, ea, et, q1]
            · intro j hj h0
              rw [updH_ne _ _ _ _ (Nat.ne_of_lt hj)]
              exact h0
            · simp only [rep, Sg.addRow, if_true]
              exact ⟨Nat.lt_succ_self _, trivial, q2⟩
          unfold asrc at h
          split at h
          · exact app _ (src_sl e3) h
          · rename_i k2
            split at h
            · rename_i r2 hk2
              simp only [rep] at e3
              obtain ⟨_, rfl, _, _, _, hloc2⟩ := e3
              exact app _ (src_os (hS.rows k2 r2 hk2) hloc2) h
            · exact h.elim
          · rename_i k2 a2 b2
            split at h
            · rename_i r2 hk2
              exact app _ (src_oz (hS.rows k2 r2 hk2) e3).1 h
            · exact h.elim
          · exact h.elim
        · rename_i es e' he
          have app : ∀ news, SrcOK S w ux news → (news = [] ∧ K (upd ρ o.dst (.sl es)) H) → o.wp P a w K' Q' := by
            rintro news hsrc ⟨rfl, h0⟩
            obtain ⟨e, sz, bytes⟩ := e'
            obtain ⟨inf, z, hut, hi, _⟩ := elemT_spec he
            obtain ⟨ad, c, l, rfl, _⟩ := hsrc
            have e4 := e2
            simp only [rep] at e2
            obtain ⟨ad2, n2, c2, rfl, hl2, hnc, _⟩ := e2
            refine wp_value (v := .slice ad2 n2 c2) (w' := w) ?_ (hK _ _ _ _ h0 (Rel.step hS hF hG hN hd hn hS (Grow.refl S w) (NewK.refl _ _) e4))
            simp [execOp, ho, resolve, hc, invoke, builtin, ea, et, run_append_nothing (b := ad2) (ad := ad) (c2 := c) (ty := o.type) hut hi hnc]
          unfold asrc at h
          split at h
          · exact app _ (src_sl e3) h
          · rename_i k2
            split at h
            · rename_i r2 hk2
              simp only [rep] at e3
              obtain ⟨_, rfl, _, _, _, hloc2⟩ := e3
              exact app _ (src_os (hS.rows k2 r2 hk2) hloc2) h
            · exact h.elim
          · rename_i k2 a2 b2
            split at h
            · rename_i r2 hk2
              exact app _ (src_oz (hS.rows k2 r2 hk2) e3).1 h
            · exact h.elim
          · exact h.elim
        · exact h.elim
      · split at h
        · rename_i hcond
          obtain ⟨hGn, _⟩ := hcond
          subst hGn
          have hw := wanted_none hgt rfl
          refine ends_of hw ?_
          have hr := hys trivial
          simp only [repL] at hr
          obtain ⟨us, t1, e1, e2, ux, t2, rfl, e3, rfl⟩ := hr
          have ea : c.args.map a.eval = #[us, ux] := Array.toList_inj.1 (by simpa using e1)
          have et : c.argTypes = #[t, t'] := Array.toList_inj.1 (by simpa using hargs)
          unfold aappendS at h
          split at h
          · rename_i k b e y he
            split at h
            · rename_i r hk
              obtain ⟨⟨rfl, hsz, hby, hsize⟩, hk'⟩ := h
              simp only [rep] at e2 e3
              subst e3
              rw [Bool.and_eq_true] at hby
              obtain ⟨hkN, rfl, _, _, _, hloc0⟩ := e2
              obtain ⟨v', w', q1, q2, q3, q4⟩ := hS.appendStr hk hloc0 (ty := o.type) he hsz (stringT_spec hby.2) hby.1 b hsize
              rw [hsz] at q3 q4
              refine wp_value (v := v') (w' := w') ?_ (hK _ _ _ _ (hk' S.N hS.fresh) (Rel.step hS hF hG hN hd hn q3 q4 ?_ ?_))
              · simp [execOp, ho, resolve, hc, invoke, builtin, ea, et, q1]
              · intro j hj h0
                rw [updH_ne _ _ _ _ (Nat.ne_of_lt hj)]
                by_cases e : j = k
                · subst e; exact updH_same _ _ _
                · rw [updH_ne _ _ _ _ e]; exact h0
              · simp only [rep, Sg.addRow, if_true]
                exact ⟨Nat.lt_succ_self _, trivial, q2⟩
            · exact h.elim
          · exact h.elim
        · exact h.elim
    · rename_i x y t t' hargs
      split at h
      · rename_i hcond
        obtain ⟨hGn, _⟩ := hcond
        subst hGn
        have hw := wanted_none hgt rfl
        refine ends_of hw ?_
        have hr := hys trivial
        simp only [repL] at hr
        obtain ⟨us, t1, e1, e2, ux, t2, rfl, e3, rfl⟩ := hr
        have ea : c.args.map a.eval = #[us, ux] := Array.toList_inj.1 (by simpa using e1)
        have et : c.argTypes = #[t, t'] := Array.toList_inj.1 (by simpa using hargs)
        have go : ∀ k a0 n0 r, H k = some r → a0 + n0 ≤ r.es.length → (∃ ad cc, us = .slice ad n0 cc ∧ (0 < n0 → ∃ g n' c', S.loc k = .slice (some ⟨g, 0, none⟩) n' c' ∧ ad = some ⟨g, a0 * r.sz, none⟩)) → ∀ news, SrcOK S w ux news →
            (match elemT P t with
              | some (_, sz, _) => (r.sz = sz ∧ allLen sz news) ∧ K (upd ρ o.dst (.v (.int .i64 (min news.length n0 : Nat)))) (updH H k (some { r with es := r.es.take a0 ++ news.take (min news.length n0) ++ r.es.drop (a0 + min news.length n0) }))
              | none => False) → o.wp P a w K' Q' := by
          intro k a0 n0 r hk han hx news hsrc hc2
          split at hc2
          · rename_i e sz bytes he
            obtain ⟨⟨h1, h2⟩, h3⟩ := hc2
            obtain ⟨w', q1, q2, q3⟩ := hS.copy hk (t' := t') (ty := o.type) he h1 han hsrc h2 hx
            refine wp_value (v := goInt (min news.length n0 : Nat)) (w' := w') ?_ (hK _ _ _ _ h3 (Rel.step hS hF hG hN hd hn q2 q3 ?_ (by simp only [rep]; rfl)))
            · simp [execOp, ho, resolve, hc, invoke, builtin, ea, et, q1]
            · intro j hj h0
              by_cases e : j = k
              · subst e; rw [hk] at h0; simp at h0
              · rw [updH_ne _ _ _ _ e]; exact h0
          · exact hc2.elim
        have src : ∀ F : List (List AV) → Prop, asrc H y F → ∃ news, SrcOK S w ux news ∧ F news := by
          intro F hF
          unfold asrc at hF
          split at hF
          · exact ⟨_, src_sl e3, hF⟩
          · rename_i k2
            split at hF
            · rename_i r2 hk2
              simp only [rep] at e3
              obtain ⟨_, rfl, _, _, _, hloc2⟩ := e3
              exact ⟨_, src_os (hS.rows k2 r2 hk2) hloc2, hF⟩
            · exact hF.elim
          · rename_i k2 a2 b2
            split at hF
            · rename_i r2 hk2
              exact ⟨_, (src_oz (hS.rows k2 r2 hk2) e3).1, hF⟩
            · exact hF.elim
          · exact hF.elim
        unfold acopy atgt at h
        split at h
        · rename_i k
          split at h
          · rename_i r hk
            obtain ⟨news, hs, hc2⟩ := src _ h
            have hR := hS.rows k r hk
            simp only [rep] at e2
            obtain ⟨_, rfl, ad, n, cc, hloc⟩ := e2
            obtain ⟨xs, hown, _, _⟩ := hR.sl hloc
            have hn : n = r.es.length ∧ (0 < r.es.length → ∃ g, ad = some ⟨g, 0, none⟩) := by
              rcases hown.2 with ⟨hv, h0⟩ | ⟨g, cap, cur, hv, _⟩
              · rw [hloc] at hv; injection hv with _ h2 _; exact ⟨by omega, fun h => by omega⟩
              · rw [hloc] at hv; injection hv with h1 h2 _; exact ⟨h2, fun _ => ⟨g, h1⟩⟩
            refine go k 0 r.es.length r hk (by omega) ⟨ad, cc, by rw [hloc, hn.1], fun hp => ?_⟩ news hs hc2
            obtain ⟨g, rfl⟩ := hn.2 hp
            exact ⟨g, n, cc, hloc, by simp⟩
          · exact h.elim
        · rename_i k a0 b0
          split at h
          · rename_i r hk
            obtain ⟨news, hs, hc2⟩ := src _ h
            have hR := hS.rows k r hk
            obtain ⟨_, hb, hab⟩ := src_oz hR e2
            simp only [rep] at e2
            obtain ⟨_, ad, n, c0, ad', cc, hloc, rfl, hab0, hbn0, hpos, _, hnc0, _⟩ := e2
            refine go k a0 (b0 - a0) r hk (by omega) ⟨ad', cc, rfl, fun hp => ?_⟩ news hs hc2
            obtain ⟨g, rfl, rfl⟩ := hpos (by omega)
            exact ⟨g, n, c0, hloc, by rw [hR.sz]⟩
          · exact h.elim
        · exact h.elim
      · exact h.elim
    · rename_i x t hargs
      split at h
      · rename_i hcond
        obtain ⟨hGn, _⟩ := hcond
        subst hGn
        have hw := wanted_none hgt rfl
        refine ends_of hw ?_
        have hr := hys trivial
        simp only [repL] at hr
        obtain ⟨us, t1, e1, e2, rfl⟩ := hr
        have ea : c.args.map a.eval = #[us] := Array.toList_inj.1 (by simpa using e1)
        have et : c.argTypes = #[t] := Array.toList_inj.1 (by simpa using hargs)
        have go : ∀ k a0 n0 r, H k = some r → a0 + n0 ≤ r.es.length → (∃ ad cc, us = .slice ad n0 cc ∧ (0 < n0 → ∃ g n' c', S.loc k = .slice (some ⟨g, 0, none⟩) n' c' ∧ ad = some ⟨g, a0 * r.sz, none⟩)) →
            (match elemT P t with
              | some (e, sz, _) => match zeroT P e with
                | some zs => r.sz = sz ∧ K (upd ρ o.dst .any) (updH H k (some { r with es := r.es.take a0 ++ List.replicate n0 zs ++ r.es.drop (a0 + n0) }))
                | none => False
              | none => False) → o.wp P a w K' Q' := by
          intro k a0 n0 r hk han hx hc2
          split at hc2
          · rename_i e sz bytes he
            split at hc2
            · rename_i zs hzs
              obtain ⟨h1, h3⟩ := hc2
              obtain ⟨w', q1, q2, q3⟩ := hS.clear hk (ty := o.type) he hzs h1 han hx
              refine wp_value (v := .tuple #[]) (w' := w') ?_ (hK _ _ _ _ h3 (Rel.step hS hF hG hN hd hn q2 q3 ?_ (by simp only [rep])))
              · simp [execOp, ho, resolve, hc, invoke, builtin, ea, et, q1]
              · intro j hj h0
                by_cases e : j = k
                · subst e; rw [hk] at h0; simp at h0
                · rw [updH_ne _ _ _ _ e]; exact h0
            · exact hc2.elim
          · exact hc2.elim
        unfold aclear atgt at h
        split at h
        · rename_i k
          split at h
          · rename_i r hk
            have hR := hS.rows k r hk
            simp only [rep] at e2
            obtain ⟨_, rfl, ad, n, cc, hloc⟩ := e2
            obtain ⟨xs, hown, _, _⟩ := hR.sl hloc
            have hn : n = r.es.length ∧ (0 < r.es.length → ∃ g, ad = some ⟨g, 0, none⟩) := by
              rcases hown.2 with ⟨hv, h0⟩ | ⟨g, cap, cur, hv, _⟩
              · rw [hloc] at hv; injection hv with _ h2 _; exact ⟨by omega, fun h => by omega⟩
              · rw [hloc] at hv; injection hv with h1 h2 _; exact ⟨h2, fun _ => ⟨g, h1⟩⟩
            refine go k 0 r.es.length r hk (by omega) ⟨ad, cc, by rw [hloc, hn.1], fun hp => ?_⟩ h
            obtain ⟨g, rfl⟩ := hn.2 hp
            exact ⟨g, n, cc, hloc, by simp⟩
          · exact h.elim
        · rename_i k a0 b0
          split at h
          · rename_i r hk
            have hR := hS.rows k r hk
            obtain ⟨_, hb, hab⟩ := src_oz hR e2
            simp only [rep] at e2
            obtain ⟨_, ad, n, c0, ad', cc, hloc, rfl, hab0, hbn0, hpos, _, hnc0, _⟩ := e2
            refine go k a0 (b0 - a0) r hk (by omega) ⟨ad', cc, rfl, fun hp => ?_⟩ h
            obtain ⟨g, rfl, rfl⟩ := hpos (by omega)
            exact ⟨g, n, c0, hloc, by rw [hR.sz]⟩
          · exact h.elim
        · exact h.elim
      · exact h.elim
    · rename_i x y t t' hargs
      obtain ⟨z, hz, hl⟩ := amax_sound (P := P) (S := S) (w := w) (H := H) (G := G) (tys := c.argTypes) (ty := o.type) h
      refine ⟨fun hw => ?_, fun hw => ?_⟩
      · have hgG := hgt.1 hw
        have hr := hys hgG
        simp only [repL] at hr
        obtain ⟨us, t1, e1, e2, ux, t2, rfl, e3, rfl⟩ := hr
        obtain ⟨v, hv, hrun⟩ := hl hgG us ux e2 e3
        have ea : c.args.map a.eval = #[us, ux] := Array.toList_inj.1 (by simpa using e1)
        refine wp_value (v := v) (w' := w) ?_ (hK _ _ _ _ hz (Rel.step hS hF hG hN hd hn hS (Grow.refl S w) (NewK.refl _ _) (rep_wr_true hgG hv)))
        simp [execOp, ho, resolve, hc, invoke, builtin, ea, hrun w (Agree.refl S H w)]
      · have hgG : ¬ gt G := fun h => by rw [hgt.2 h] at hw; simp at hw
        exact hK _ _ _ _ hz (Rel.step hS hF hG hN hd hn hS (Grow.refl S w) (NewK.refl _ _) (rep_wr_false hgG))
    · rename_i x y t t' hargs
      obtain ⟨z, hz, hl⟩ := amin_sound (P := P) (S := S) (w := w) (H := H) (G := G) (tys := c.argTypes) (ty := o.type) h
      refine ⟨fun hw => ?_, fun hw => ?_⟩
      · have hgG := hgt.1 hw
        have hr := hys hgG
        simp only [repL] at hr
        obtain ⟨us, t1, e1, e2, ux, t2, rfl, e3, rfl⟩ := hr
        obtain ⟨v, hv, hrun⟩ := hl hgG us ux e2 e3
        have ea : c.args.map a.eval = #[us, ux] := Array.toList_inj.1 (by simpa using e1)
        refine wp_value (v := v) (w' := w) ?_ (hK _ _ _ _ hz (Rel.step hS hF hG hN hd hn hS (Grow.refl S w) (NewK.refl _ _) (rep_wr_true hgG hv)))
        simp [execOp, ho, resolve, hc, invoke, builtin, ea, hrun w (Agree.refl S H w)]
      · have hgG : ¬ gt G := fun h => by rw [hgt.2 h] at hw; simp at hw
        exact hK _ _ _ _ hz (Rel.step hS hF hG hN hd hn hS (Grow.refl S w) (NewK.refl _ _) (rep_wr_false hgG))
    · exact h.elim
  · rename_i f hc
    obtain ⟨yf, h2, hf⟩ := wopd_sound (S := S) (w := w) h
    clear h
    have h := h2
    clear h2
    split at h
    · rename_i g fst cpt hfn
      by_cases hnl : nl = true
      · rw [if_pos hnl] at h
        obtain ⟨hGn, hq0, hok, h⟩ := h
        have hw := hgt.2 hGn
        obtain ⟨first, captured, hfe, h2, h3⟩ := fnOf_sound hfn (hf hGn _ (aev_sound hF (hn ▸ hb f (by simp [hc]))))
        have hra : repL S w (fst ++ c.args.toList.map (aevn ρ) ++ cpt) (first ++ c.args.map a.eval ++ captured).toList := by
          simp only [Array.toList_append]
          refine repL_append _ _ _ _ (repL_append _ _ _ _ h2 ?_) h3
          have := aevns_sound hF c.args.toList (fun x hx => hn ▸ hb x (by simp [hc, Array.mem_toList_iff.1 hx]))
          simpa using this
        have hexec : (execOp a.eval o).run P w = .ok (.enter g (first ++ c.args.map a.eval ++ captured)) w := by
          simp only [execOp, ho]
          rw [run_resolve_fn hc hfe]
          simp [invoke, run_callFunc hok]
        refine ends_of hw ?_
        have hcalls := h S w _ hS hra
        unfold Oper.wp
        rw [hexec]
        simp only [Oper.upon, Array.toArray_toList] at hcalls ⊢
        refine hcalls.mono fun e w' ⟨v, r, H', S', he, hr, hS', hv, hg', hn'⟩ => ?_
        subst he
        exact hK _ _ _ _ hr (Rel.step hS hF hG hN hd hn hS' hg' hn' hv)
      rw [if_neg hnl] at h
      obtain ⟨ys, h2, hys⟩ := wopds_sound hF c.args.toList (fun x hx => hn ▸ hb x (by simp [hc, Array.mem_toList_iff.1 hx])) h
      clear h
      obtain ⟨hok, h⟩ := h2
      have hfv := fun hg => fnOf_sound hfn (hf hg _ (aev_sound hF (hn ▸ hb f (by simp [hc]))))
      have hargs : gt G → ∃ first captured : Array Value, a.eval f = .func (.func g) first captured ∧ repL S w (fst ++ ys ++ cpt) (first ++ c.args.map a.eval ++ captured).toList := fun hg => by
        obtain ⟨first, captured, h1, h2, h3⟩ := hfv hg
        refine ⟨first, captured, h1, ?_⟩
        simp only [Array.toList_append]
        refine repL_append _ _ _ _ (repL_append _ _ _ _ h2 ?_) h3
        simpa using hys hg
      split at h
      · rename_i hcond
        obtain ⟨hGn, _⟩ := hcond
        subst hGn
        have hw := wanted_none hgt rfl
        obtain ⟨first, captured, hfe, hra⟩ := hargs trivial
        have hexec : (execOp a.eval o).run P w = .ok (.enter g (first ++ c.args.map a.eval ++ captured)) w := by
          simp only [execOp, ho]
          rw [run_resolve_fn hc hfe]
          simp [invoke, run_callFunc hok]
        refine ends_of hw ?_
        have hcalls := h S w _ hS hra
        unfold Oper.wp
        rw [hexec]
        simp only [Oper.upon, Array.toArray_toList] at hcalls ⊢
        refine hcalls.mono fun e w' ⟨v, r, H', S', he, hr, hS', hv, hg', hn'⟩ => ?_
        subst he
        exact hK _ _ _ _ hr (Rel.step hS hF hG hN hd hn hS' hg' hn' hv)
      · obtain ⟨r, hq, hk⟩ := h
        refine ⟨fun hw => ?_, fun hw => ?_⟩
        · have hgG := hgt.1 hw
          obtain ⟨first, captured, hfe, hra⟩ := hargs hgG
          have hexec : (execOp a.eval o).run P w = .ok (.enter g (first ++ c.args.map a.eval ++ captured)) w := by
            simp only [execOp, ho]
            rw [run_resolve_fn hc hfe]
            simp [invoke, run_callFunc hok]
          rcases hq hgG with hq | ⟨x, rfl, hpc⟩
          · obtain ⟨v, hv'⟩ := hq.val
            obtain ⟨hv, hcalls⟩ := hq.calls hv' hS hra
            rw [nfq_flat (by rw [hv']; rfl)] at hk
            unfold Oper.wp
            rw [hexec]
            simp only [Oper.upon, Array.toArray_toList] at hcalls ⊢
            refine hcalls.mono fun e w' ⟨he, p1, p2, p3, p4, p5⟩ => ?_
            subst he
            exact hK _ _ _ _ hk (Rel.step hS hF hG hN hd hn (hS.after p4 p5) (hS.grow p1 p2 p3 p4 p5) (NewK.refl _ _) (rep_wr_true hgG (hv S w')))
          · cases quiet with
            | true => exact hk.elim
            | false =>
              have hcalls := (PC.use (H := H) hpc (K := fun y H' => y = x ∧ H' = H) ⟨rfl, rfl⟩) S w _ hS hra
              unfold Oper.wp
              rw [hexec]
              simp only [Oper.upon, Array.toArray_toList] at hcalls ⊢
              refine hcalls.mono fun e w' ⟨v, r, H', S', he, ⟨hr, hH⟩, hS', hv, hg', hn'⟩ => ?_
              subst he hr hH
              exact hK _ _ _ _ hk (Rel.step hS hF hG hN hd hn hS' hg' hn' (rep_wr_true hgG hv))
        · have hgG : ¬ gt G := fun h => by rw [hgt.2 h] at hw; simp at hw
          obtain ⟨z, hk⟩ := nfq_elim hk
          exact hK _ _ _ _ hk (Rel.step hS hF hG hN hd hn hS (Grow.refl S w) (NewK.refl _ _) (rep_wr_false hgG))
    · exact h.elim
  · exact h.elim
end
end Go.Aw
