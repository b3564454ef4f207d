/- Texts joined by a program: AwMap. -/
import Derived.MapKept
import Derived.Test.YtmidcjlidploaaaGreatDoorSb04

set_option linter.unusedSimpArgs false
set_option linter.unusedVariables false
namespace Go.Aw
open Go.RowKit
section
variable {P : Program} {S : Sg} {H : Heap} {w : World} {G : Option Bool} {K : AV → Prop}
theorem bytes_ext {a b : ByteArray} (h : a.toList = b.toList) : a = b := by
  rw [ByteArray.toList_eq, ByteArray.toList_eq] at h
  exact ByteArray.ext (Array.toList_inj.1 h)
theorem mapT_spec {t : TypeId} {kt : TypeId × TypeId} (h : mapT P t = some kt) : P.underlying t = some (.map kt.1 kt.2) := by
  unfold mapT at h
  split at h
  · rename_i k e he
    injection h with h
    subst h
    exact he
  · simp at h
theorem zeroE_run {t : TypeId} {z : AV} (h : zeroE P t = some z) : ∃ v, (∀ w' : World, (zeroValue t).run P w' = .ok v w') ∧ ∀ S w, rep S w z v := by
  unfold zeroE at h
  split at h
  · rename_i i hi
    split at h
    · rename_i cs hz
      split at h
      · rename_i hall
        injection h with h
        subst h
        refine ⟨.agg cs, fun w' => by simp [zeroValue, typeInfo, hi, hz], fun S w => ?_⟩
        simp only [rep]
        refine ⟨cs.toList, by simp, zeroL_rep _, fun u hu => List.all_eq_true.1 hall u hu⟩
      · simp at h
    · rename_i v _ hz
      split at h
      · injection h with h
        subst h
        exact ⟨v, fun w' => by simp [zeroValue, typeInfo, hi, hz], fun S w => zeroV_rep _⟩
      · simp at h
    · simp at h
  · simp at h
theorem keyEq_val {kt : TypeId} {x y : AV} {b : Bool} (hx : ∀ xs, x ≠ .agg xs) (h : keyEq P kt x y = some b) {u v : Value} (hu : rep S w x u) (hv : rep S w y v) :
    ∃ d, P.underlying kt = some d ∧ Instr.sameNow d u v = some b ∧ (b = true → u = v ∧ ∀ n, Instr.sameBits (n + 1) v u = true) := by
  unfold keyEq at h
  split at h
  · rename_i a c
    simp only [rep] at hu hv
    subst hu hv
    split at h
    · rename_i k hk
      unfold eqCell at h
      split at h
      · rename_i k1 a1 k2 b1 e1 e2
        cases e1
        cases e2
        split at h
        · rename_i hkk
          subst hkk
          rcases kindT_spec hk with ⟨_, k', hk'⟩ | ⟨h0, _⟩ | ⟨h0, _⟩
          · injection h with h
            subst h
            refine ⟨_, hk', by simp [Instr.sameNow], fun hb => ?_⟩
            have : a1 = b1 := by simpa using hb
            subst this
            exact ⟨rfl, fun n => by simp [Instr.sameBits]⟩
          · simp at h0
          · simp at h0
        · simp at h
      · rename_i a1 b1 e1 e2
        cases e1
        cases e2
        rcases kindT_spec hk with ⟨h0, _⟩ | ⟨_, hk'⟩ | ⟨h0, _⟩
        · simp at h0
        · injection h with h
          have hb : (a1 == b1) = b := by rw [beq_toListBytes]; exact h
          refine ⟨_, hk', by simp [Instr.sameNow, hb], fun hb' => ?_⟩
          have : a1 = b1 := bytes_ext (by rw [hb'] at h; simpa using h)
          subst this
          exact ⟨rfl, fun n => by simp [Instr.sameBits, beq_toListBytes]⟩
        · simp at h0
      · rename_i a1 b1 e1 e2
        cases e1
        cases e2
        rcases kindT_spec hk with ⟨h0, _⟩ | ⟨h0, _⟩ | ⟨_, hk'⟩
        · simp at h0
        · simp at h0
        · injection h with h
          subst h
          refine ⟨_, hk', by simp [Instr.sameNow], fun hb => ?_⟩
          have : a1 = b1 := by simpa using hb
          subst this
          exact ⟨rfl, fun n => by simp [Instr.sameBits]⟩
      · simp at h
    · simp at h
  · exact absurd rfl (hx _)
  · simp at h
theorem eqCell_true {c : Nat} {x y : AV} (h : eqCell c x y = some true) {u v : Value} (hu : rep S w x u) (hv : rep S w y v) : u = v ∧ ∀ n, Instr.sameBits n v u = true := by
  unfold eqCell at h
  split at h
  · simp only [rep] at hu hv
    subst hu hv
    split at h
    · rename_i hk
      subst hk
      injection h with h
      have e := by simpa using h
      subst e
      exact ⟨rfl, fun n => by cases n <;> simp [Instr.sameBits]⟩
    · simp at h
  · rename_i a b
    simp only [rep] at hu hv
    subst hu hv
    injection h with h
    have : a = b := bytes_ext (by simpa using h)
    subst this
    exact ⟨rfl, fun n => by cases n <;> simp [Instr.sameBits, beq_toListBytes]⟩
  · simp only [rep] at hu hv
    subst hu hv
    injection h with h
    have e := by simpa using h
    subst e
    exact ⟨rfl, fun n => by cases n <;> simp [Instr.sameBits]⟩
  · simp at h
theorem eqCells_true : ∀ (l : List Nat) (xs ys : List AV) (us vs : List Value), eqCells l xs ys = some true → repL S w xs us → repL S w ys vs → us = vs ∧ ∀ n, ((vs.zip us).all fun p => Instr.sameBits n p.1 p.2) = true
  | l, [], ys, us, vs, h, hu, hv => by
    cases ys with
    | nil =>
      simp only [repL] at hu hv
      subst hu hv
      exact ⟨rfl, fun n => rfl⟩
    | cons y ys => cases l <;> simp [eqCells] at h
  | l, x :: xs, ys, us, vs, h, hu, hv => by
    cases l with
    | nil => simp [eqCells] at h
    | cons c l =>
      cases ys with
      | nil => simp [eqCells] at h
      | cons y ys =>
        simp only [eqCells] at h
        cases h1 : eqCell c x y with
        | none => simp [h1, andO] at h
        | some b1 =>
          cases h2 : eqCells l xs ys with
          | none => simp [h1, h2, andO] at h
          | some b2 =>
            simp [h1, h2, andO] at h
            obtain ⟨rfl, rfl⟩ := h
            simp only [repL] at hu hv
            obtain ⟨u, us', rfl, q1, q2⟩ := hu
            obtain ⟨v, vs', rfl, q3, q4⟩ := hv
            obtain ⟨rfl, e1⟩ := eqCell_true h1 q1 q3
            obtain ⟨rfl, e2⟩ := eqCells_true l xs ys us' vs' h2 q2 q4
            exact ⟨rfl, fun n => by simp only [List.zip_cons_cons, List.all_cons, e1 n, Bool.true_and]; exact e2 n⟩
theorem keyEq_agg {kt : TypeId} {xs : List AV} {y : AV} {b : Bool} (h : keyEq P kt (.agg xs) y = some b) {u v : Value} (hu : rep S w (.agg xs) u) (hv : rep S w y v) :
    (∀ w' : World, (Op.equal kt u v).run P w' = .ok b w') ∧ (b = true → u = v ∧ ∀ n, Instr.sameBits (n + 1) v u = true) := by
  cases y with
  | agg ys =>
    simp only [keyEq] at h
    split at h
    · rename_i l hl
      simp only [rep] at hu hv
      obtain ⟨us, rfl, hus, _⟩ := hu
      obtain ⟨vs, rfl, hvs, _⟩ := hv
      refine ⟨fun w' => run_equalIn_flat hl h hus hvs 9998 w', fun hb => ?_⟩
      subst hb
      obtain ⟨rfl, hs⟩ := eqCells_true l xs ys us vs h hus hvs
      exact ⟨rfl, fun n => by simp only [Instr.sameBits, beq_self_eq_true, Bool.true_and]; exact hs n⟩
    · simp at h
  | _ => simp [keyEq] at h
theorem mfind_ask {kt : TypeId} {xs : List AV} {u : Value} (hu : rep S w (.agg xs) u) : ∀ (es : List (List AV)) (ms : List MapEntry) (i : Nat) {oi : Option Nat}, ents S w i es ms → mfind (keyEq P kt (.agg xs)) es i = some oi →
    (oi = none → ∀ w' : World, (Instr.findAsking kt u ms i).run P w' = .ok none w') ∧ ∀ j, oi = some j → ∃ m cs, i ≤ j ∧ ms[j - i]? = some m ∧ es[j - i]? = some cs ∧ (∀ w' : World, (Instr.findAsking kt u ms i).run P w' = .ok (some (j, m.val)) w') ∧ m.key = u ∧ (∀ n, Instr.sameBits (n + 1) m.key u = true) ∧ m.born = j ∧ repL S w cs [m.key, m.val]
  | [], ms, i, oi, he, hf => by
    simp only [ents] at he
    subst he
    simp only [mfind] at hf
    injection hf with hf
    subst hf
    exact ⟨fun _ w' => by simp [Instr.findAsking], fun j h => by simp at h⟩
  | cs :: r, ms, i, oi, he, hf => by
    simp only [ents] at he
    obtain ⟨m, t, rfl, hb, hr, ht⟩ := he
    unfold mfind at hf
    have hk : rep S w (cs.getD 0 .any) m.key := by
      cases cs with
      | nil => simp [repL] at hr
      | cons c cs =>
        simp only [repL] at hr
        obtain ⟨_, _, e, h1, _⟩ := hr
        injection e with e1 e2
        subst e1
        simpa using h1
    split at hf
    · rename_i heq
      injection hf with hf
      subst hf
      obtain ⟨h1, h2⟩ := keyEq_agg heq hu hk
      refine ⟨fun h => by simp at h, fun j hj => ?_⟩
      injection hj with hj
      subst hj
      exact ⟨m, cs, Nat.le_refl _, by simp, by simp, fun w' => by simp [Instr.findAsking, h1 w'], (h2 rfl).1.symm, (h2 rfl).2, hb, hr⟩
    · rename_i heq
      obtain ⟨h1, h2⟩ := keyEq_agg heq hu hk
      obtain ⟨g1, g2⟩ := mfind_ask hu r t (i + 1) ht hf
      refine ⟨fun h w' => by simp [Instr.findAsking, h1 w', g1 h w'], fun j hj => ?_⟩
      obtain ⟨m', cs', q1, q2, q3, q4, q5⟩ := g2 j hj
      have e : j - i = (j - (i + 1)) + 1 := by omega
      exact ⟨m', cs', by omega, by rw [e]; simpa using q2, by rw [e]; simpa using q3, fun w' => by simp [Instr.findAsking, h1 w', q4 w'], q5⟩
    · simp at hf
theorem mfind_now {kt : TypeId} {x : AV} {u : Value} {d : TypeDesc} (hx : ∀ xs, x ≠ .agg xs) (hd : P.underlying kt = some d) (hu : rep S w x u) : ∀ (es : List (List AV)) (ms : List MapEntry) (i : Nat) {oi : Option Nat}, ents S w i es ms → mfind (keyEq P kt x) es i = some oi →
    (oi = none → Instr.findNow d u ms i = some none) ∧ ∀ j, oi = some j → ∃ m cs, i ≤ j ∧ ms[j - i]? = some m ∧ es[j - i]? = some cs ∧ Instr.findNow d u ms i = some (some (j, m.val)) ∧ m.key = u ∧ (∀ n, Instr.sameBits (n + 1) m.key u = true) ∧ m.born = j ∧ repL S w cs [m.key, m.val]
  | [], ms, i, oi, he, hf => by
    simp only [ents] at he
    subst he
    simp only [mfind] at hf
    injection hf with hf
    subst hf
    exact ⟨fun _ => rfl, fun j h => by simp at h⟩
  | cs :: r, ms, i, oi, he, hf => by
    simp only [ents] at he
    obtain ⟨m, t, rfl, hb, hr, ht⟩ := he
    unfold mfind at hf
    have hk : rep S w (cs.getD 0 .any) m.key := by
      cases cs with
      | nil => simp [repL] at hr
      | cons c cs =>
        simp only [repL] at hr
        obtain ⟨_, _, e, h1, _⟩ := hr
        injection e with e1 e2
        subst e1
        simpa using h1
    split at hf
    · rename_i heq
      injection hf with hf
      subst hf
      obtain ⟨d', hd', h1, h2⟩ := keyEq_val hx heq hu hk
      rw [hd] at hd'
      injection hd' with hd'
      subst hd'
      refine ⟨fun h => by simp at h, fun j hj => ?_⟩
      injection hj with hj
      subst hj
      exact ⟨m, cs, Nat.le_refl _, by simp, by simp, by simp [Instr.findNow, h1], (h2 rfl).1.symm, (h2 rfl).2, hb, hr⟩
    · rename_i heq
      obtain ⟨d', hd', h1, h2⟩ := keyEq_val hx heq hu hk
      rw [hd] at hd'
      injection hd' with hd'
      subst hd'
      obtain ⟨g1, g2⟩ := mfind_now hx hd hu r t (i + 1) ht hf
      refine ⟨fun h => by simp [Instr.findNow, h1, g1 h], fun j hj => ?_⟩
      obtain ⟨m', cs', q1, q2, q3, q4, q5⟩ := g2 j hj
      have e : j - i = (j - (i + 1)) + 1 := by omega
      exact ⟨m', cs', by omega, by rw [e]; simpa using q2, by rw [e]; simpa using q3, by simp [Instr.findNow, h1, q4], q5⟩
    · simp at hf
theorem ents_len : ∀ (i : Nat) (es : List (List AV)) (ms : List MapEntry), ents S w i es ms → ms.length = es.length
  | _, [], ms, h => by simp only [ents] at h; simp [h]
  | i, cs :: r, ms, h => by
    simp only [ents] at h
    obtain ⟨m, t, rfl, _, _, h3⟩ := h
    simp [ents_len (i + 1) r t h3]
theorem ents_get : ∀ (i : Nat) (es : List (List AV)) (ms : List MapEntry) (j : Nat), ents S w i es ms → j < es.length → ∃ m, ms[j]? = some m ∧ m.born = i + j ∧ repL S w (es.getD j []) [m.key, m.val]
  | _, [], _, _, _, h => by simp at h
  | i, cs :: r, ms, 0, h, _ => by
    simp only [ents] at h
    obtain ⟨m, t, rfl, h1, h2, _⟩ := h
    exact ⟨m, by simp, by simpa using h1, by simpa using h2⟩
  | i, cs :: r, ms, j + 1, h, hj => by
    simp only [ents] at h
    obtain ⟨m, t, rfl, _, _, h3⟩ := h
    obtain ⟨m', g1, g2, g3⟩ := ents_get (i + 1) r t j h3 (by simpa using hj)
    exact ⟨m', by simpa using g1, by omega, by simpa using g3⟩
theorem ents_set : ∀ (i : Nat) (es : List (List AV)) (ms : List MapEntry) (j : Nat) {cs : List AV} {m : MapEntry}, ents S w i es ms → m.born = i + j → repL S w cs [m.key, m.val] → ents S w i (es.set j cs) (ms.set j m)
  | _, [], ms, _, _, _, h, _, _ => by simp only [ents] at h; subst h; simp [ents]
  | i, c :: r, ms, 0, cs, m, h, hb, hr => by
    simp only [ents] at h
    obtain ⟨m0, t, rfl, _, _, h3⟩ := h
    simp only [List.set_cons_zero, ents]
    exact ⟨m, t, rfl, by simpa using hb, hr, h3⟩
  | i, c :: r, ms, j + 1, cs, m, h, hb, hr => by
    simp only [ents] at h
    obtain ⟨m0, t, rfl, h1, h2, h3⟩ := h
    simp only [List.set_cons_succ, ents]
    exact ⟨m0, t.set j m, rfl, h1, h2, ents_set (i + 1) r t j h3 (by omega) hr⟩
theorem ents_app : ∀ (i : Nat) (es : List (List AV)) (ms : List MapEntry) {cs : List AV} {m : MapEntry}, ents S w i es ms → m.born = i + es.length → repL S w cs [m.key, m.val] → ents S w i (es ++ [cs]) (ms ++ [m])
  | i, [], ms, cs, m, h, hb, hr => by
    simp only [ents] at h
    subst h
    simp only [List.nil_append, ents]
    exact ⟨m, [], rfl, by simpa using hb, hr, rfl⟩
  | i, c :: r, ms, cs, m, h, hb, hr => by
    simp only [ents] at h
    obtain ⟨m0, t, rfl, h1, h2, h3⟩ := h
    simp only [List.cons_append, ents]
    exact ⟨m0, t ++ [m], rfl, h1, h2, ents_app (i + 1) r t h3 (by simp at hb; omega) hr⟩
theorem run_checkFields (e : Bool) (n : Nat) : ∀ (fs : List Field) (l : List Nat) (xs : List AV) (o : Nat) (us pu : List Value), flatFields P o fs = some l → eqCells l xs xs = some true → repL S w xs us → pu.length = o → ∀ w' : World,
    ((forIn (m := Sem) fs PUnit.unit fun f _ => do
      if f.name ≠ "_" then
        Instr.checkKey e (n + 1) f.type (← part f.type (pu ++ us).toArray f.offset)
      pure (ForInStep.yield PUnit.unit)).run P w') = .ok PUnit.unit w'
  | [], l, xs, o, us, pu, hf, he, hx, hp, w' => by simp
  | f :: fs, l, xs, o, us, pu, hf, he, hx, hp, w' => by
    simp only [flatFields] at hf
    split at hf
    · rename_i hc
      simp only [Bool.and_eq_true, bne_iff_ne, ne_eq, beq_iff_eq] at hc
      obtain ⟨⟨hn, ho⟩, hi⟩ := hc
      cases hk : kindT P f.type with
      | none => simp [hk] at hf
      | some c =>
        cases hr : flatFields P (o + 1) fs with
        | none => simp [hk, hr] at hf
        | some l' =>
          simp [hk, hr] at hf
          subst hf
          cases xs with
          | nil => simp [eqCells] at he
          | cons x xs =>
            simp only [eqCells] at he
            cases hb1 : eqCell c x x with
            | none => simp [hb1, andO] at he
            | some b1 =>
              cases hb2 : eqCells l' xs xs with
              | none => simp [hb1, hb2, andO] at he
              | some b2 =>
                simp [hb1, hb2, andO] at he
                obtain ⟨rfl, rfl⟩ := he
                simp only [repL] at hx
                obtain ⟨u, us', rfl, hu, hus⟩ := hx
                have hld := kind_ld hk hi
                have p1 : ∀ w' : World, (part f.type (pu ++ u :: us').toArray f.offset).run P w' = .ok u w' := fun w' => run_part_one (w := w') hld (by rw [ho, ← hp]; simp)
                have ih := run_checkFields e n fs l' xs (o + 1) us' (pu ++ [u]) hr hb2 hus (by simp [hp])
                simp only [List.append_assoc, List.singleton_append] at ih
                have q : ∀ w' : World, (Instr.checkKey e (n + 1) f.type u).run P w' = .ok () w' := fun w' => by
                  rcases kindT_spec hk with ⟨_, k', hk'⟩ | ⟨_, hk'⟩ | ⟨_, hk'⟩ <;>
                    (unfold Instr.checkKey; simp only [Sem.run_bind, run_underlying hk', Result.andThen]; rfl)
                simp only [List.forIn_cons, hn, ne_eq, not_false_eq_true, if_true, Sem.run_bind, p1, q, Result.andThen_ok, Sem.run_pure]
                exact ih w'
    · simp at hf
theorem plainKey_check {kt : TypeId} {x : AV} (h : plainKey P kt x = true) {u : Value} (hu : rep S w x u) (e : Bool) (n : Nat) (w' : World) : (∃ d, P.underlying kt = some d) ∧ (Instr.checkKey e (n + 2) kt u).run P w' = .ok () w' := by
  unfold plainKey at h
  split at h
  all_goals first | (simp at h; done) | skip
  case h_4 xs =>
    simp only [Bool.and_eq_true] at h
    obtain ⟨hs, h⟩ := h
    split at h
    · rename_i l hl
      have h : eqCells l xs xs = some true := by simpa using h
      unfold isStructT at hs
      split at hs
      · rename_i fs hd
        refine ⟨⟨_, hd⟩, ?_⟩
        simp only [rep] at hu
        obtain ⟨us, rfl, hus, _⟩ := hu
        unfold flatT at hl
        rw [hd] at hl
        simp only at hl
        split at hl
        · unfold Instr.checkKey
          simp only [Sem.run_bind, run_underlying hd, Result.andThen_ok]
          have q := run_checkFields e n fs.toList l xs 0 us [] hl h hus rfl w'
          rw [← Array.forIn_toList]
          exact (congrArg (fun r : Result PUnit => r.andThen fun a w' => Sem.run P (pure ()) w') q).trans rfl
        · simp at hl
      · simp at hs
    · simp at h
  all_goals
    simp only [beq_iff_eq] at h
    simp only [rep] at hu
    subst hu
    rcases kindT_spec h with ⟨h0, k', hk'⟩ | ⟨h0, hk'⟩ | ⟨h0, hk'⟩ <;> first
      | (simp at h0; done)
      | exact ⟨⟨_, hk'⟩, by unfold Instr.checkKey; simp only [Sem.run_bind, run_underlying hk', Result.andThen]; rfl⟩
theorem map_find {t : TypeId} {kt : TypeId × TypeId} {x : AV} {r : Row} {k : Nat} {u : Value} {oi : Option Nat} (ht : mapT P t = some kt) (hp : plainKey P kt.1 x = true) (hf : mfind (keyEq P kt.1 x) r.es 0 = some oi) (hm : MapOK S w k r) (hu : rep S w x u) :
    ∃ g ms, S.loc k = .map (some g) ∧ w.heap[g]? = some (.map (List.toArray ms) ms.length) ∧ ents S w 0 r.es ms ∧ P.underlying t = some (.map kt.1 kt.2) ∧ (∀ e (w' : World), (Instr.checkKey e 10000 kt.1 u).run P w' = .ok () w') ∧
      ((oi = none ∧ ∀ w' : World, (Instr.findKey kt.1 u ms).run P w' = .ok none w') ∨
      ∃ j m cs, oi = some j ∧ ms[j]? = some m ∧ r.es[j]? = some cs ∧ (∀ w' : World, (Instr.findKey kt.1 u ms).run P w' = .ok (some (j, m.val)) w') ∧ m.key = u ∧ (∀ n, Instr.sameBits (n + 1) m.key u = true) ∧ m.born = j ∧ repL S w cs [m.key, m.val]) := by
  obtain ⟨g, ms, h1, h2, h3, _⟩ := hm
  obtain ⟨⟨d, hd⟩, _⟩ := plainKey_check hp hu true 0 w
  refine ⟨g, ms, h1, h2, h3, mapT_spec ht, fun e w' => (plainKey_check hp hu e 9998 w').2, ?_⟩
  by_cases hx : ∀ xs, x ≠ .agg xs
  · obtain ⟨f1, f2⟩ := mfind_now hx hd hu r.es ms 0 h3 hf
    cases oi with
    | none => exact .inl ⟨rfl, fun w' => by simp [Instr.findKey, run_underlying hd, f1 rfl]⟩
    | some j =>
      obtain ⟨m, cs, _, q2, q3, q4, q5, q6, q7, q8⟩ := f2 j rfl
      exact .inr ⟨j, m, cs, rfl, by simpa using q2, by simpa using q3, fun w' => by simp [Instr.findKey, run_underlying hd, q4], q5, q6, q7, q8⟩
  · have hx' : ∃ xs, x = .agg xs := Classical.byContradiction fun h => hx fun xs e => h ⟨xs, e⟩
    obtain ⟨xs, rfl⟩ := hx'
    have hfn : Instr.findNow d u ms 0 = none ∨ ms = [] := by
      cases ms with
      | nil => exact .inr rfl
      | cons m t =>
        refine .inl ?_
        simp only [rep] at hu
        obtain ⟨us, rfl, _⟩ := hu
        have : Instr.sameNow d (.agg us.toArray) m.key = none := by cases d <;> rfl
        simp [Instr.findNow, this]
    have hkey : ∀ w' : World, (Instr.findKey kt.1 u ms).run P w' = (Instr.findAsking kt.1 u ms).run P w' := fun w' => by
      rcases hfn with h | h
      · simp [Instr.findKey, run_underlying hd, h]
      · subst h
        simp [Instr.findKey, run_underlying hd, Instr.findNow, Instr.findAsking]
    obtain ⟨f1, f2⟩ := mfind_ask hu r.es ms 0 h3 hf
    cases oi with
    | none => exact .inl ⟨rfl, fun w' => by rw [hkey]; exact f1 rfl w'⟩
    | some j =>
      obtain ⟨m, cs, _, q2, q3, q4, q5, q6, q7, q8⟩ := f2 j rfl
      exact .inr ⟨j, m, cs, rfl, by simpa using q2, by simpa using q3, fun w' => by rw [hkey]; exact q4 w', q5, q6, q7, q8⟩
theorem pair_get {cs : List AV} {a b : Value} (h : repL S w cs [a, b]) : ∃ x y, cs = [x, y] ∧ rep S w x a ∧ rep S w y b := by
  cases cs with
  | nil => simp [repL] at h
  | cons x cs =>
    simp only [repL] at h
    obtain ⟨u, t, e, h1, h2⟩ := h
    injection e with e1 e2
    subst e1 e2
    cases cs with
    | nil => simp [repL] at h2
    | cons y cs =>
      simp only [repL] at h2
      obtain ⟨u, t, e, h3, h4⟩ := h2
      injection e with e1 e2
      subst e1 e2
      cases cs with
      | nil => exact ⟨x, y, rfl, h1, h3⟩
      | cons _ _ => simp [repL] at h4
theorem alookup_sound {t : TypeId} {x key : AV} {ok : Bool} (hH : Rows' S w H) (h : alookup P H t x key ok K) :
    ∃ z, K z ∧ (gt G → ∀ u v, rep S w x u → rep S w key v → Does P S H w z (Instr.lookup t u v ok)) := by
  unfold alookup mapOf at h
  split at h
  · rename_i j
    split at h
    · rename_i r kt hj ht
      split at h
      · rename_i oi hf
        obtain ⟨hp, h⟩ := h
        split at h
        · rename_i z hz
          refine ⟨_, h, fun _ u v hu hv => ?_⟩
          simp only [rep] at hu
          obtain ⟨_, rfl, g0, hl0⟩ := hu
          obtain ⟨g, ms, h1, h2, h3, h4, h5, h6⟩ := map_find ht hp hf ((hH j r hj).mp hl0) hv
          obtain ⟨zv, hzr, hzz⟩ := zeroE_run hz
          have hget : ∀ w', Agree S H w w' → w'.heap[g]? = some (.map (List.toArray ms) ms.length) := fun w' ha => (ha.own j r hj g (by rw [h1]; rfl)).trans h2
          rcases h6 with ⟨rfl, h6⟩ | ⟨i, m, cs, rfl, q1, q2, q3, q4, q5, q6, q7⟩
          · cases ok with
            | false =>
              refine ⟨zv, hzz S w, fun w' ha => ?_⟩
              simp [Instr.lookup, run_underlying h4, h1, MapKept.run_getObj_map (hget w' ha), h5, h6, hzr, mget]
            | true =>
              refine ⟨.tuple #[zv, .bool false], ?_, fun w' ha => ?_⟩
              · simp only [mget, if_true, rep, repL]
                exact ⟨[zv, .bool false], by simp, _, _, rfl, hzz S w, _, _, rfl, rfl, rfl⟩
              · simp [Instr.lookup, run_underlying h4, h1, MapKept.run_getObj_map (hget w' ha), h5, h6, hzr, mget]
          · obtain ⟨xk, xv, rfl, r1, r2⟩ := pair_get q7
            have e1 : (r.es.getD i []).getD 1 .any = xv := by simp [List.getD, q2]
            cases ok with
            | false =>
              refine ⟨m.val, by simp only [mget, e1]; exact r2, fun w' ha => ?_⟩
              simp [Instr.lookup, run_underlying h4, h1, MapKept.run_getObj_map (hget w' ha), h5, q3]
            | true =>
              refine ⟨.tuple #[m.val, .bool true], ?_, fun w' ha => ?_⟩
              · simp only [mget, if_true, e1, rep, repL]
                exact ⟨[m.val, .bool true], by simp, _, _, rfl, r2, _, _, rfl, rfl, rfl⟩
              · simp [Instr.lookup, run_underlying h4, h1, MapKept.run_getObj_map (hget w' ha), h5, q3]
        · exact h.elim
      · exact h.elim
    · exact h.elim
  · exact h.elim
end
end Go.Aw
