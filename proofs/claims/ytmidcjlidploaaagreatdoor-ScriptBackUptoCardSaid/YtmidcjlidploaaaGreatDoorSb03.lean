/- Texts joined by a program: AwOps2. -/
import Derived.Test.YtmidcjlidploaaaGreatDoorSb02

set_option linter.unusedSimpArgs false
set_option linter.unusedVariables false
namespace Go.Aw
open Go.RowKit
section
variable {P : Program} {S : Sg} {H : Heap} {w : World} {G : Option Bool} {K : AV → Prop}
theorem does_pure {z : AV} {e : Sem Value} {v : Value} (hz : rep S w z v) (h : ∀ w', e.run P w' = .ok v w') : Does P S H w z e := ⟨v, hz, fun w' _ => h w'⟩
theorem kindT_spec {t : TypeId} {c : Nat} (h : kindT P t = some c) : (c = 0 ∧ ∃ k, P.underlying t = some (.int k)) ∨ (c = 1 ∧ P.underlying t = some .string) ∨ (c = 2 ∧ P.underlying t = some .bool) := by
  unfold kindT at h
  split at h <;> simp_all
theorem kind_ld {t : TypeId} {c : Nat} (h : kindT P t = some c) (hi : (P.info? t).isSome = true) : ldT P t = some none := by
  obtain ⟨i, hi⟩ := Option.isSome_iff_exists.1 hi
  unfold ldT
  rw [hi]
  rcases kindT_spec h with ⟨_, k, hk⟩ | ⟨_, hk⟩ | ⟨_, hk⟩ <;> rw [hk]
theorem run_equalIn_cell {t : TypeId} {c : Nat} {x y : AV} {u v : Value} {b : Bool} {d : Nat} (ht : kindT P t = some c) (h : eqCell c x y = some b) (hu : rep S w x u) (hv : rep S w y v) (w' : World) :
    (Op.equalIn (d + 1) t u v).run P w' = .ok b w' := by
  unfold eqCell at h
  split at h
  · split at h
    · simp only [rep] at hu hv
      subst hu hv
      rename_i hkk
      subst hkk
      simp at h
      rcases kindT_spec ht with ⟨_, k', hk'⟩ | ⟨h0, _⟩ | ⟨h0, _⟩
      · rw [run_equalIn_int w' d t _ k' _ _ hk', h]
      · simp at h0
      · simp at h0
    · simp at h
  · simp only [rep] at hu hv
    subst hu hv
    rcases kindT_spec ht with ⟨h0, _⟩ | ⟨_, hk'⟩ | ⟨h0, _⟩
    · simp at h0
    · rw [run_equalIn_string w' d t _ _ hk']
      injection h with h
      rw [h]
    · simp at h0
  · simp only [rep] at hu hv
    subst hu hv
    rcases kindT_spec ht with ⟨h0, _⟩ | ⟨h0, _⟩ | ⟨_, hk'⟩
    · simp at h0
    · simp at h0
    · rw [run_equalIn_bool' w' d t _ _ hk']
      injection h with h
      rw [h]
  · simp at h
theorem run_eqFields_flat : ∀ (fs : List Field) (l : List Nat) (xs ys : List AV) (o : Nat) (us vs pu pv : List Value) (b : Bool) (d : Nat),
    flatFields P o fs = some l → eqCells l xs ys = some b → repL S w xs us → repL S w ys vs → pu.length = o → pv.length = o → ∀ w' : World,
    (Op.eqFields (d + 1) (pu ++ us).toArray (pv ++ vs).toArray fs).run P w' = .ok b w'
  | [], l, xs, ys, o, us, vs, pu, pv, b, d, hf, he, _, _, _, _, w' => by
    simp only [flatFields] at hf
    injection hf with hf
    subst hf
    cases xs <;> cases ys <;> simp [eqCells] at he
    subst he
    simp [Op.eqFields]
  | f :: fs, l, xs, ys, o, us, vs, pu, pv, b, d, hf, he, hx, hy, e1, e2, w' => by
    simp only [flatFields] at hf
    split at hf
    · rename_i hc
      simp only [Bool.and_eq_true, bne_iff_ne, ne_eq, beq_iff_eq] at hc
      obtain ⟨⟨hn, ho⟩, hi⟩ := hc
      cases hk : kindT P f.type with
      | none => simp [hk] at hf
      | some c =>
        cases hr : flatFields P (o + 1) fs with
        | none => simp [hk, hr] at hf
        | some l' =>
          simp [hk, hr] at hf
          subst hf
          cases xs with
          | nil => simp [eqCells] at he
          | cons x xs =>
            cases ys with
            | nil => simp [eqCells] at he
            | cons y ys =>
              simp only [eqCells] at he
              cases hb1 : eqCell c x y with
              | none => simp [hb1, andO] at he
              | some b1 =>
                cases hb2 : eqCells l' xs ys with
                | none => simp [hb1, hb2, andO] at he
                | some b2 =>
                  simp [hb1, hb2, andO] at he
                  simp only [repL] at hx hy
                  obtain ⟨u, us', rfl, hu, hus⟩ := hx
                  obtain ⟨v, vs', rfl, hv, hvs⟩ := hy
                  have hld := kind_ld hk hi
                  have p1 : ∀ w' : World, (part f.type (pu ++ u :: us').toArray f.offset).run P w' = .ok u w' := fun w' => run_part_one (w := w') hld (by rw [ho, ← e1]; simp)
                  have p2 : ∀ w' : World, (part f.type (pv ++ v :: vs').toArray f.offset).run P w' = .ok v w' := fun w' => run_part_one (w := w') hld (by rw [ho, ← e2]; simp)
                  have q := run_equalIn_cell (d := d) hk hb1 hu hv
                  have ih := run_eqFields_flat fs l' xs ys (o + 1) us' vs' (pu ++ [u]) (pv ++ [v]) b2 d hr hb2 hus hvs (by simp [e1]) (by simp [e2]) w'
                  simp only [List.append_assoc, List.singleton_append] at ih
                  simp only [Op.eqFields, hn, ne_eq, not_false_eq_true, if_true, Sem.run_bind, p1, p2, q, Result.andThen_ok, Sem.run_ite]
                  subst he
                  cases b1
                  · simp
                  · simp only [Bool.not_true, Bool.false_eq_true, if_false, Bool.true_and]
                    exact ih
    · simp at hf
theorem run_eq_array {e : TypeId} {c : Nat} (hk : kindT P e = some c) (hi : (P.info? e).isSome = true) {d : Nat} : ∀ (m i : Nat) (xs ys : List AV) (us vs pu pv : List Value) (b : Bool),
    eqCells (List.replicate m c) xs ys = some b → repL S w xs us → repL S w ys vs → pu.length = i → pv.length = i → ∀ w' : World,
    ((forIn (m := Sem) (List.range' i m) ((none, ()) : Option Bool × Unit) (fun i _ => do
          if !(← Op.equalIn (d + 1) e (← part e (pu ++ us).toArray (i * 1)) (← part e (pv ++ vs).toArray (i * 1))) then pure (ForInStep.done (some false, ()))
          else pure (ForInStep.yield (none, ())))).run P w').andThen (fun r w' => Sem.run P (match r.1 with
        | some x => pure x
        | none => pure true : Sem Bool) w') = .ok b w'
  | 0, i, xs, ys, us, vs, pu, pv, b, he, _, _, _, _, w' => by
    cases xs <;> cases ys <;> simp [eqCells] at he
    subst he
    simp
  | m + 1, i, xs, ys, us, vs, pu, pv, b, he, hx, hy, e1, e2, w' => by
    rw [List.replicate_succ] at he
    cases xs with
    | nil => simp [eqCells] at he
    | cons x xs =>
      cases ys with
      | nil => simp [eqCells] at he
      | cons y ys =>
        simp only [eqCells] at he
        cases hb1 : eqCell c x y with
        | none => simp [hb1, andO] at he
        | some b1 =>
          cases hb2 : eqCells (List.replicate m c) xs ys with
          | none => simp [hb1, hb2, andO] at he
          | some b2 =>
            simp [hb1, hb2, andO] at he
            simp only [repL] at hx hy
            obtain ⟨u, us', rfl, hu, hus⟩ := hx
            obtain ⟨v, vs', rfl, hv, hvs⟩ := hy
            have hld := kind_ld hk hi
            have p1 : ∀ w' : World, (part e (pu ++ u :: us').toArray (i * 1)).run P w' = .ok u w' := fun w' => run_part_one (w := w') hld (by rw [Nat.mul_one, ← e1]; simp)
            have p2 : ∀ w' : World, (part e (pv ++ v :: vs').toArray (i * 1)).run P w' = .ok v w' := fun w' => run_part_one (w := w') hld (by rw [Nat.mul_one, ← e2]; simp)
            have q := run_equalIn_cell (d := d) hk hb1 hu hv
            have ih := run_eq_array hk hi (d := d) m (i + 1) xs ys us' vs' (pu ++ [u]) (pv ++ [v]) b2 hb2 hus hvs (by simp [e1]) (by simp [e2]) w'
            simp only [List.append_assoc, List.singleton_append] at ih
            simp only [List.range'_succ, List.forIn_cons, Sem.run_bind, p1, p2, q, Result.andThen_ok, Sem.run_ite, bind_assoc]
            subst he
            cases b1
            · simp
            · simp only [Bool.not_true, Bool.false_eq_true, if_false, Bool.true_and, Sem.run_pure, Result.andThen_ok]
              exact ih
theorem run_equalIn_flat {t : TypeId} {l : List Nat} (h : flatT P t = some l) {xs ys : List AV} {b : Bool} (he : eqCells l xs ys = some b) {us vs : List Value}
    (hx : repL S w xs us) (hy : repL S w ys vs) (d : Nat) (w' : World) : (Op.equalIn (d + 2) t (.agg us.toArray) (.agg vs.toArray)).run P w' = .ok b w' := by
  unfold flatT at h
  split at h
  · rename_i fs hu
    split at h
    · rename_i hc
      have hf : P.fieldsOf t = fs := by unfold Program.fieldsOf; rw [hu]
      rw [run_equalIn_struct w' (d + 1) t _ _ (by rw [hf]; exact hu) hc.1, hf]
      simpa using run_eqFields_flat fs.toList l xs ys 0 us vs [] [] b d h he hx hy rfl rfl w'
    · simp at h
  · rename_i n e hu
    split at h
    · rename_i hc
      cases hk : kindT P e with
      | none => simp [hk] at h
      | some c =>
        simp [hk] at h
        subst h
        cases hi : P.info? e with
        | none => simp [hi] at hc
        | some i =>
          have hsz : i.size = 1 := by simpa [hi] using hc.1
          have key := run_eq_array (P := P) (S := S) (w := w) hk (by simp [hi]) (d := d) n 0 xs ys us vs [] [] b he hx hy rfl rfl w'
          simp only [List.nil_append] at key
          rw [Op.equalIn]
          simp only [Sem.run_bind, run_underlying hu, Result.andThen_ok, sizeOf, typeInfo, run_program, hi, Sem.run_pure, hsz]
          rw [Std.Legacy.Range.forIn_eq_forIn_range']
          simp only [Std.Legacy.Range.size, Nat.sub_zero, Nat.add_one_sub_one, Nat.div_one]
          have e : ∀ (r : Result (Option Bool × Unit)) (f g : Option Bool × Unit → World → Result Bool), (∀ a w, f a w = g a w) → r.andThen f = r.andThen g := fun r f g h => by cases r <;> simp [Result.andThen, h]
          exact (e _ _ _ (fun a w => by rcases a with ⟨a, _⟩; cases a <;> rfl)).trans key
    · simp at h
  · simp at h
theorem run_eqGuard_plain (op : BinOp) (t : TypeId) (x y : Operand) (a b : Value) (h1 : a ≠ .nilIface) (h2 : ∀ cs, a ≠ .agg cs) (w' : World) : (eqGuard op t x y a b).run P w' = .ok () w' := by
  cases op <;> simp only [eqGuard] <;> (try rfl) <;> cases a <;> first | rfl | (exact absurd rfl h1) | (exact absurd rfl (h2 _))
theorem flat_guard {t : TypeId} {l : List Nat} (h : flatT P t = some l) : P.eqGuardType P.depth t = false := by
  unfold flatT at h
  split at h
  · split at h
    · rename_i hc; exact hc.2
    · simp at h
  · split at h
    · rename_i hc; exact hc.2
    · simp at h
  · simp at h
theorem abin_sound {op : BinOp} {t : TypeId} {x y : AV} (h : abin P G op t x y K) :
    ∃ z, K z ∧ (gt G → ∀ u v, rep S w x u → rep S w y v → ∀ ox oy, Does P S H w z (do eqGuard op t ox oy u v; binOp op t u v)) := by
  unfold abin at h
  split at h
  · rename_i k a k' b
    split at h
    · rename_i hsh
      refine ⟨_, h.2, fun hg u v hu hv ox oy => ?_⟩
      have hb := h.1 hg
      simp only [rep] at hu hv
      subst hu hv
      refine does_pure rep_v fun w' => ?_
      simp only [Sem.run_bind, run_eqGuard_plain op t ox oy (.int k a) (.int k' b) (by simp) (by simp) w', Result.andThen_ok]
      have hb' : ¬ b < 0 := by omega
      cases op <;> simp only [isSh, Bool.false_eq_true] at hsh <;> simp [binOp, Op.shift, hb', shV]
    split at h
    · rename_i hk
      subst hk
      have base : ∀ (z : Value), (∀ w', (binOp op t (.int k a) (.int k b)).run P w' = .ok z w') → ∀ u v, rep S w (.v (.int k a)) u → rep S w (.v (.int k b)) v → ∀ ox oy, Does P S H w (.v z) (do eqGuard op t ox oy u v; binOp op t u v) := by
        intro z hz u v hu hv ox oy
        simp only [rep] at hu hv
        subst hu hv
        refine does_pure rep_v fun w' => ?_
        simp only [Sem.run_bind, run_eqGuard_plain op t ox oy (.int k a) (.int k b) (by simp) (by simp) w', Result.andThen_ok, hz]
      cases op <;> simp only at h <;> first
        | exact h.elim
        | (refine ⟨_, h, fun _ => base _ (fun w' => ?_)⟩
           first
             | (simp [binOp, Op.intArith, Op.intCmp]; done)
             | (simp [binOp]; rfl))
        | exact ⟨_, h.2, fun hg => base _ (fun w' => by simp [binOp, Op.intDiv, h.1 hg])⟩
    · exact h.elim
  · rename_i a b
    have base : ∀ (z : Value), (∀ w', (binOp op t (.string a) (.string b)).run P w' = .ok z w') → ∀ u v, rep S w (.v (.string a)) u → rep S w (.v (.string b)) v → ∀ ox oy, Does P S H w (.v z) (do eqGuard op t ox oy u v; binOp op t u v) := by
      intro z hz u v hu hv ox oy
      simp only [rep] at hu hv
      subst hu hv
      refine does_pure rep_v fun w' => ?_
      simp only [Sem.run_bind, run_eqGuard_plain op t ox oy (.string a) (.string b) (by simp) (by simp) w', Result.andThen_ok, hz]
    cases op <;> simp only at h <;> first
      | exact h.elim
      | exact ⟨_, h, fun _ => base _ (fun w' => by simp [binOp, Op.stringOp])⟩
      | exact ⟨_, h.2, fun hg => base _ (fun w' => by
          have := h.1 hg
          have h2 : ¬ ((a.size + b.size : Nat) : Int) > IntKind.i64.max := by omega
          simp only [binOp, Op.stringOp]
          rw [if_neg h2]
          rfl)⟩
  · rename_i a b
    split at h
    · rename_i hb
      have hu' := boolT_spec hb
      cases op <;> simp only at h <;> first
        | exact h.elim
        | (refine ⟨_, h, fun _ u v hu hv ox oy => ?_⟩
           simp only [rep] at hu hv
           subst hu hv
           refine does_pure rep_v fun w' => ?_
           simp only [Sem.run_bind, run_eqGuard_plain _ t ox oy (.bool a) (.bool b) (by simp) (by simp) w', Result.andThen_ok]
           simp [binOp, run_equal_bool w' t a b hu'])
    · exact h.elim
  · rename_i xs ys
    split at h
    · rename_i l hl
      split at h
      · rename_i b hb
        cases op <;> simp only at h <;> first
          | exact h.elim
          | (refine ⟨_, h, fun _ u v hu hv ox oy => ?_⟩
             simp only [rep] at hu hv
             obtain ⟨us, rfl, hus, _⟩ := hu
             obtain ⟨vs, rfl, hvs, _⟩ := hv
             refine does_pure rep_v fun w' => ?_
             have q := run_equalIn_flat hl hb hus hvs 9998 w'
             simp only [Sem.run_bind, run_eqGuard_agg _ _ _ _ _ _ _ (flat_guard hl), Result.andThen_ok]
             first
               | (rw [run_eql_struct, q]; rfl)
               | (rw [run_neq_struct, q]; rfl))
      · exact h.elim
    · exact h.elim
  · split at h
    · rename_i hp
      obtain ⟨rfl, rfl, rfl, hp⟩ := hp
      have hp' : ∃ e i, P.underlying t = some (.pointer e) ∧ P.info? e = some i := by
        unfold isPtr1T at hp
        split at hp
        · rename_i e he
          obtain ⟨i, hi⟩ := Option.isSome_iff_exists.1 hp
          exact ⟨e, i, he, hi⟩
        · simp at hp
      obtain ⟨e, i, hu', hi⟩ := hp'
      have he : ∀ (a : Addr) w', (Op.equal t (.pointer (some a)) (.pointer (some a))).run P w' = .ok true w' := by
        intro a w'
        have e0 : Op.equal t (.pointer (some a)) (.pointer (some a)) = Op.equalIn (9999 + 1) t (.pointer (some a)) (.pointer (some a)) := rfl
        rw [e0]
        unfold Op.equalIn
        simp [run_underlying hu', sizeOf, typeInfo, hi, sameAddr]
        try (split <;> simp_all)
      cases op <;> simp only at h <;> first
        | exact h.elim
        | (refine ⟨_, h, fun _ u v hu hv ox oy => ?_⟩
           simp only [rep] at hu hv
           obtain ⟨_, g, n, c, e1, rfl⟩ := hu
           obtain ⟨_, g', n', c', e2, rfl⟩ := hv
           rw [e1] at e2
           obtain rfl : g = g' := by simpa using congrArg (fun v => match v with | Value.slice (some a) _ _ => a.block | _ => 0) e2
           refine does_pure rep_v fun w' => ?_
           simp only [Sem.run_bind, run_eqGuard_plain _ t ox oy (.pointer _) (.pointer _) (by simp) (by simp) w', Result.andThen_ok]
           simp [binOp, he])
    · exact ⟨_, h.2, fun hg => (h.1 hg).elim⟩
  · skip
    split at h
    · rename_i b hb
      split at h
      · rename_i hp
        obtain ⟨e, hu'⟩ := ptrT_spec hp
        have hq : ∀ u, rep S w x u → ∃ a, u = .pointer a ∧ a.isNone = b := by
          intro u hu
          unfold ptrNil at hb
          split at hb
          · simp only [rep] at hu; exact ⟨_, hu, by simpa using hb⟩
          · simp only [rep] at hu; obtain ⟨g, o, e, _⟩ := hu; exact ⟨_, e, by simpa using hb⟩
          · simp only [rep] at hu; obtain ⟨_, g, n, c, _, e⟩ := hu; exact ⟨_, e, by simpa using hb⟩
          · cases hb
        have he : ∀ (a : Option Addr) w', (Op.equal t (.pointer a) (.pointer none)).run P w' = .ok a.isNone w' := by
          intro a w'
          have e0 : Op.equal t (.pointer a) (.pointer none) = Op.equalIn (9999 + 1) t (.pointer a) (.pointer none) := rfl
          rw [e0]
          unfold Op.equalIn
          cases a <;> simp [run_underlying hu']
        cases op <;> simp only at h <;> first
          | exact h.elim
          | (refine ⟨_, h, fun _ u v hu hv ox oy => ?_⟩
             obtain ⟨a, rfl, rfl⟩ := hq u hu
             simp only [rep] at hv
             subst hv
             refine does_pure rep_v fun w' => ?_
             simp only [Sem.run_bind, run_eqGuard_plain _ t ox oy (.pointer a) (.pointer none) (by simp) (by simp) w', Result.andThen_ok]
             simp [binOp, he])
      · exact h.elim
    · exact ⟨_, h.2, fun hg => (h.1 hg).elim⟩
  · exact ⟨_, h.2, fun hg => (h.1 hg).elim⟩
end
end Go.Aw
