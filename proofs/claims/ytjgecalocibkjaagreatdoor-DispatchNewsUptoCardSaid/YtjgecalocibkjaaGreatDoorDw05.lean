/- Texts joined by a program: AwMap, AwSound, AwTab. -/
import Derived.MapKept
import Derived.Lib.ItoaMem
import Derived.Lib.TrailingZeros
import Derived.Test.YtjgecalocibkjaaGreatDoorDw01
import Derived.Test.YtjgecalocibkjaaGreatDoorDw04

section
set_option linter.unusedSimpArgs false
set_option linter.unusedVariables false
namespace Go.Aw
open Go.RowKit
section
variable {P : Program} {S : Sg} {H : Heap} {w : World} {G : Option Bool} {K : AV → Prop}
theorem bytes_ext {a b : ByteArray} (h : a.toList = b.toList) : a = b := by
  rw [ByteArray.toList_eq, ByteArray.toList_eq] at h
  exact ByteArray.ext (Array.toList_inj.1 h)
theorem mapT_spec {t : TypeId} {kt : TypeId × TypeId} (h : mapT P t = some kt) : P.underlying t = some (.map kt.1 kt.2) := by
  unfold mapT at h
  split at h
  · rename_i k e he
    injection h with h
    subst h
    exact he
  · simp at h
theorem zeroE_run {t : TypeId} {z : AV} (h : zeroE P t = some z) : ∃ v, (∀ w' : World, (zeroValue t).run P w' = .ok v w') ∧ ∀ S w, rep S w z v := by
  unfold zeroE at h
  split at h
  · rename_i i hi
    split at h
    · rename_i cs hz
      split at h
      · rename_i hall
        injection h with h
        subst h
        refine ⟨.agg cs, fun w' => by simp [zeroValue, typeInfo, hi, hz], fun S w => ?_⟩
        simp only [rep]
        refine ⟨cs.toList, by simp, zeroL_rep _, fun u hu => List.all_eq_true.1 hall u hu⟩
      · simp at h
    · rename_i v _ hz
      split at h
      · injection h with h
        subst h
        exact ⟨v, fun w' => by simp [zeroValue, typeInfo, hi, hz], fun S w => zeroV_rep _⟩
      · simp at h
    · simp at h
  · simp at h
theorem keyEq_val {kt : TypeId} {x y : AV} {b : Bool} (hx : ∀ xs, x ≠ .agg xs) (h : keyEq P kt x y = some b) {u v : Value} (hu : rep S w x u) (hv : rep S w y v) :
    ∃ d, P.underlying kt = some d ∧ Instr.sameNow d u v = some b ∧ (b = true → u = v ∧ ∀ n, Instr.sameBits (n + 1) v u = true) := by
  unfold keyEq at h
  split at h
  · rename_i a c
    simp only [rep] at hu hv
    subst hu hv
    split at h
    · rename_i k hk
      unfold eqCell at h
      split at h
      · rename_i k1 a1 k2 b1 e1 e2
        cases e1
        cases e2
        split at h
        · rename_i hkk
          subst hkk
          rcases kindT_spec hk with ⟨_, k', hk'⟩ | ⟨h0, _⟩ | ⟨h0, _⟩
          · injection h with h
            subst h
            refine ⟨_, hk', by simp [Instr.sameNow], fun hb => ?_⟩
            have : a1 = b1 := by simpa using hb
            subst this
            exact ⟨rfl, fun n => by simp [Instr.sameBits]⟩
          · simp at h0
          · simp at h0
        · simp at h
      · rename_i a1 b1 e1 e2
        cases e1
        cases e2
        rcases kindT_spec hk with ⟨h0, _⟩ | ⟨_, hk'⟩ | ⟨h0, _⟩
        · simp at h0
        · injection h with h
          have hb : (a1 == b1) = b := by rw [beq_toListBytes]; exact h
          refine ⟨_, hk', by simp [Instr.sameNow, hb], fun hb' => ?_⟩
          have : a1 = b1 := bytes_ext (by rw [hb'] at h; simpa using h)
          subst this
          exact ⟨rfl, fun n => by simp [Instr.sameBits, beq_toListBytes]⟩
        · simp at h0
      · rename_i a1 b1 e1 e2
        cases e1
        cases e2
        rcases kindT_spec hk with ⟨h0, _⟩ | ⟨h0, _⟩ | ⟨_, hk'⟩
        · simp at h0
        · simp at h0
        · injection h with h
          subst h
          refine ⟨_, hk', by simp [Instr.sameNow], fun hb => ?_⟩
          have : a1 = b1 := by simpa using hb
          subst this
          exact ⟨rfl, fun n => by simp [Instr.sameBits]⟩
      · simp at h
    · simp at h
  · exact absurd rfl (hx _)
  · simp at h
theorem eqCell_true {c : Nat} {x y : AV} (h : eqCell c x y = some true) {u v : Value} (hu : rep S w x u) (hv : rep S w y v) : u = v ∧ ∀ n, Instr.sameBits n v u = true := by
  unfold eqCell at h
  split at h
  · simp only [rep] at hu hv
    subst hu hv
    split at h
    · rename_i hk
      subst hk
      injection h with h
      have e := by simpa using h
      subst e
      exact ⟨rfl, fun n => by cases n <;> simp [Instr.sameBits]⟩
    · simp at h
  · rename_i a b
    simp only [rep] at hu hv
    subst hu hv
    injection h with h
    have : a = b := bytes_ext (by simpa using h)
    subst this
    exact ⟨rfl, fun n => by cases n <;> simp [Instr.sameBits, beq_toListBytes]⟩
  · simp only [rep] at hu hv
    subst hu hv
    injection h with h
    have e := by simpa using h
    subst e
    exact ⟨rfl, fun n => by cases n <;> simp [Instr.sameBits]⟩
  · simp at h
theorem eqCells_true : ∀ (l : List Nat) (xs ys : List AV) (us vs : List Value), eqCells l xs ys = some true → repL S w xs us → repL S w ys vs → us = vs ∧ ∀ n, ((vs.zip us).all fun p => Instr.sameBits n p.1 p.2) = true
  | l, [], ys, us, vs, h, hu, hv => by
    cases ys with
    | nil =>
      simp only [repL] at hu hv
      subst hu hv
      exact ⟨rfl, fun n => rfl⟩
    | cons y ys => cases l <;> simp [eqCells] at h
  | l, x :: xs, ys, us, vs, h, hu, hv => by
    cases l with
    | nil => simp [eqCells] at h
    | cons c l =>
      cases ys with
      | nil => simp [eqCells] at h
      | cons y ys =>
        simp only [eqCells] at h
        cases h1 : eqCell c x y with
        | none => simp [h1, andO] at h
        | some b1 =>
          cases h2 : eqCells l xs ys with
          | none => simp [h1, h2, andO] at h
          | some b2 =>
            simp [h1, h2, andO] at h
            obtain ⟨rfl, rfl⟩ := h
            simp only [repL] at hu hv
            obtain ⟨u, us', rfl, q1, q2⟩ := hu
            obtain ⟨v, vs', rfl, q3, q4⟩ := hv
            obtain ⟨rfl, e1⟩ := eqCell_true h1 q1 q3
            obtain ⟨rfl, e2⟩ := eqCells_true l xs ys us' vs' h2 q2 q4
            exact ⟨rfl, fun n => by simp only [List.zip_cons_cons, List.all_cons, e1 n, Bool.true_and]; exact e2 n⟩
theorem keyEq_agg {kt : TypeId} {xs : List AV} {y : AV} {b : Bool} (h : keyEq P kt (.agg xs) y = some b) {u v : Value} (hu : rep S w (.agg xs) u) (hv : rep S w y v) :
    (∀ w' : World, (Op.equal kt u v).run P w' = .ok b w') ∧ (b = true → u = v ∧ ∀ n, Instr.sameBits (n + 1) v u = true) := by
  cases y with
  | agg ys =>
    simp only [keyEq] at h
    split at h
    · rename_i l hl
      simp only [rep] at hu hv
      obtain ⟨us, rfl, hus, _⟩ := hu
      obtain ⟨vs, rfl, hvs, _⟩ := hv
      refine ⟨fun w' => run_equalIn_flat hl h hus hvs 9998 w', fun hb => ?_⟩
      subst hb
      obtain ⟨rfl, hs⟩ := eqCells_true l xs ys us vs h hus hvs
      exact ⟨rfl, fun n => by simp only [Instr.sameBits, beq_self_eq_true, Bool.true_and]; exact hs n⟩
    · simp at h
  | _ => simp [keyEq] at h
theorem mfind_ask {kt : TypeId} {xs : List AV} {u : Value} (hu : rep S w (.agg xs) u) : ∀ (es : List (List AV)) (ms : List MapEntry) (i : Nat) {oi : Option Nat}, ents S w i es ms → mfind (keyEq P kt (.agg xs)) es i = some oi →
    (oi = none → ∀ w' : World, (Instr.findAsking kt u ms i).run P w' = .ok none w') ∧ ∀ j, oi = some j → ∃ m cs, i ≤ j ∧ ms[j - i]? = some m ∧ es[j - i]? = some cs ∧ (∀ w' : World, (Instr.findAsking kt u ms i).run P w' = .ok (some (j, m.val)) w') ∧ m.key = u ∧ (∀ n, Instr.sameBits (n + 1) m.key u = true) ∧ m.born = j ∧ repL S w cs [m.key, m.val]
  | [], ms, i, oi, he, hf => by
    simp only [ents] at he
    subst he
    simp only [mfind] at hf
    injection hf with hf
    subst hf
    exact ⟨fun _ w' => by simp [Instr.findAsking], fun j h => by simp at h⟩
  | cs :: r, ms, i, oi, he, hf => by
    simp only [ents] at he
    obtain ⟨m, t, rfl, hb, hr, ht⟩ := he
    unfold mfind at hf
    have hk : rep S w (cs.getD 0 .any) m.key := by
      cases cs with
      | nil => simp [repL] at hr
      | cons c cs =>
        simp only [repL] at hr
        obtain ⟨_, _, e, h1, _⟩ := hr
        injection e with e1 e2
        subst e1
        simpa using h1
    split at hf
    · rename_i heq
      injection hf with hf
      subst hf
      obtain ⟨h1, h2⟩ := keyEq_agg heq hu hk
      refine ⟨fun h => by simp at h, fun j hj => ?_⟩
      injection hj with hj
      subst hj
      exact ⟨m, cs, Nat.le_refl _, by simp, by simp, fun w' => by simp [Instr.findAsking, h1 w'], (h2 rfl).1.symm, (h2 rfl).2, hb, hr⟩
    · rename_i heq
      obtain ⟨h1, h2⟩ := keyEq_agg heq hu hk
      obtain ⟨g1, g2⟩ := mfind_ask hu r t (i + 1) ht hf
      refine ⟨fun h w' => by simp [Instr.findAsking, h1 w', g1 h w'], fun j hj => ?_⟩
      obtain ⟨m', cs', q1, q2, q3, q4, q5⟩ := g2 j hj
      have e : j - i = (j - (i + 1)) + 1 := by omega
      exact ⟨m', cs', by omega, by rw [e]; simpa using q2, by rw [e]; simpa using q3, fun w' => by simp [Instr.findAsking, h1 w', q4 w'], q5⟩
    · simp at hf
theorem mfind_now {kt : TypeId} {x : AV} {u : Value} {d : TypeDesc} (hx : ∀ xs, x ≠ .agg xs) (hd : P.underlying kt = some d) (hu : rep S w x u) : ∀ (es : List (List AV)) (ms : List MapEntry) (i : Nat) {oi : Option Nat}, ents S w i es ms → mfind (keyEq P kt x) es i = some oi →
    (oi = none → Instr.findNow d u ms i = some none) ∧ ∀ j, oi = some j → ∃ m cs, i ≤ j ∧ ms[j - i]? = some m ∧ es[j - i]? = some cs ∧ Instr.findNow d u ms i = some (some (j, m.val)) ∧ m.key = u ∧ (∀ n, Instr.sameBits (n + 1) m.key u = true) ∧ m.born = j ∧ repL S w cs [m.key, m.val]
  | [], ms, i, oi, he, hf => by
    simp only [ents] at he
    subst he
    simp only [mfind] at hf
    injection hf with hf
    subst hf
    exact ⟨fun _ => rfl, fun j h => by simp at h⟩
  | cs :: r, ms, i, oi, he, hf => by
    simp only [ents] at he
    obtain ⟨m, t, rfl, hb, hr, ht⟩ := he
    unfold mfind at hf
    have hk : rep S w (cs.getD 0 .any) m.key := by
      cases cs with
      | nil => simp [repL] at hr
      | cons c cs =>
        simp only [repL] at hr
        obtain ⟨_, _, e, h1, _⟩ := hr
        injection e with e1 e2
        subst e1
        simpa using h1
    split at hf
    · rename_i heq
      injection hf with hf
      subst hf
      obtain ⟨d', hd', h1, h2⟩ := keyEq_val hx heq hu hk
      rw [hd] at hd'
      injection hd' with hd'
      subst hd'
      refine ⟨fun h => by simp at h, fun j hj => ?_⟩
      injection hj with hj
      subst hj
      exact ⟨m, cs, Nat.le_refl _, by simp, by simp, by simp [Instr.findNow, h1], (h2 rfl).1.symm, (h2 rfl).2, hb, hr⟩
    · rename_i heq
      obtain ⟨d', hd', h1, h2⟩ := keyEq_val hx heq hu hk
      rw [hd] at hd'
      injection hd' with hd'
      subst hd'
      obtain ⟨g1, g2⟩ := mfind_now hx hd hu r t (i + 1) ht hf
      refine ⟨fun h => by simp [Instr.findNow, h1, g1 h], fun j hj => ?_⟩
      obtain ⟨m', cs', q1, q2, q3, q4, q5⟩ := g2 j hj
      have e : j - i = (j - (i + 1)) + 1 := by omega
      exact ⟨m', cs', by omega, by rw [e]; simpa using q2, by rw [e]; simpa using q3, by simp [Instr.findNow, h1, q4], q5⟩
    · simp at hf
theorem ents_len : ∀ (i : Nat) (es : List (List AV)) (ms : List MapEntry), ents S w i es ms → ms.length = es.length
  | _, [], ms, h => by simp only [ents] at h; simp [h]
  | i, cs :: r, ms, h => by
    simp only [ents] at h
    obtain ⟨m, t, rfl, _, _, h3⟩ := h
    simp [ents_len (i + 1) r t h3]
theorem ents_get : ∀ (i : Nat) (es : List (List AV)) (ms : List MapEntry) (j : Nat), ents S w i es ms → j < es.length → ∃ m, ms[j]? = some m ∧ m.born = i + j ∧ repL S w (es.getD j []) [m.key, m.val]
  | _, [], _, _, _, h => by simp at h
  | i, cs :: r, ms, 0, h, _ => by
    simp only [ents] at h
    obtain ⟨m, t, rfl, h1, h2, _⟩ := h
    exact ⟨m, by simp, by simpa using h1, by simpa using h2⟩
  | i, cs :: r, ms, j + 1, h, hj => by
    simp only [ents] at h
    obtain ⟨m, t, rfl, _, _, h3⟩ := h
    obtain ⟨m', g1, g2, g3⟩ := ents_get (i + 1) r t j h3 (by simpa using hj)
    exact ⟨m', by simpa using g1, by omega, by simpa using g3⟩
theorem ents_set : ∀ (i : Nat) (es : List (List AV)) (ms : List MapEntry) (j : Nat) {cs : List AV} {m : MapEntry}, ents S w i es ms → m.born = i + j → repL S w cs [m.key, m.val] → ents S w i (es.set j cs) (ms.set j m)
  | _, [], ms, _, _, _, h, _, _ => by simp only [ents] at h; subst h; simp [ents]
  | i, c :: r, ms, 0, cs, m, h, hb, hr => by
    simp only [ents] at h
    obtain ⟨m0, t, rfl, _, _, h3⟩ := h
    simp only [List.set_cons_zero, ents]
    exact ⟨m, t, rfl, by simpa using hb, hr, h3⟩
  | i, c :: r, ms, j + 1, cs, m, h, hb, hr => by
    simp only [ents] at h
    obtain ⟨m0, t, rfl, h1, h2, h3⟩ := h
    simp only [List.set_cons_succ, ents]
    exact ⟨m0, t.set j m, rfl, h1, h2, ents_set (i + 1) r t j h3 (by omega) hr⟩
theorem ents_app : ∀ (i : Nat) (es : List (List AV)) (ms : List MapEntry) {cs : List AV} {m : MapEntry}, ents S w i es ms → m.born = i + es.length → repL S w cs [m.key, m.val] → ents S w i (es ++ [cs]) (ms ++ [m])
  | i, [], ms, cs, m, h, hb, hr => by
    simp only [ents] at h
    subst h
    simp only [List.nil_append, ents]
    exact ⟨m, [], rfl, by simpa using hb, hr, rfl⟩
  | i, c :: r, ms, cs, m, h, hb, hr => by
    simp only [ents] at h
    obtain ⟨m0, t, rfl, h1, h2, h3⟩ := h
    simp only [List.cons_append, ents]
    exact ⟨m0, t ++ [m], rfl, h1, h2, ents_app (i + 1) r t h3 (by simp at hb; omega) hr⟩
theorem run_checkFields (e : Bool) (n : Nat) : ∀ (fs : List Field) (l : List Nat) (xs : List AV) (o : Nat) (us pu : List Value), flatFields P o fs = some l → eqCells l xs xs = some true → repL S w xs us → pu.length = o → ∀ w' : World,
    ((forIn (m := Sem) fs PUnit.unit fun f _ => do
      if f.name ≠ "_" then
        Instr.checkKey e (n + 1) f.type (← part f.type (pu ++ us).toArray f.offset)
      pure (ForInStep.yield PUnit.unit)).run P w') = .ok PUnit.unit w'
  | [], l, xs, o, us, pu, hf, he, hx, hp, w' => by simp
  | f :: fs, l, xs, o, us, pu, hf, he, hx, hp, w' => by
    simp only [flatFields] at hf
    split at hf
    · rename_i hc
      simp only [Bool.and_eq_true, bne_iff_ne, ne_eq, beq_iff_eq] at hc
      obtain ⟨⟨hn, ho⟩, hi⟩ := hc
      cases hk : kindT P f.type with
      | none => simp [hk] at hf
      | some c =>
        cases hr : flatFields P (o + 1) fs with
        | none => simp [hk, hr] at hf
        | some l' =>
          simp [hk, hr] at hf
          subst hf
          cases xs with
          | nil => simp [eqCells] at he
          | cons x xs =>
            simp only [eqCells] at he
            cases hb1 : eqCell c x x with
            | none => simp [hb1, andO] at he
            | some b1 =>
              cases hb2 : eqCells l' xs xs with
              | none => simp [hb1, hb2, andO] at he
              | some b2 =>
                simp [hb1, hb2, andO] at he
                obtain ⟨rfl, rfl⟩ := he
                simp only [repL] at hx
                obtain ⟨u, us', rfl, hu, hus⟩ := hx
                have hld := kind_ld hk hi
                have p1 : ∀ w' : World, (part f.type (pu ++ u :: us').toArray f.offset).run P w' = .ok u w' := fun w' => run_part_one (w := w') hld (by rw [ho, ← hp]; simp)
                have ih := run_checkFields e n fs l' xs (o + 1) us' (pu ++ [u]) hr hb2 hus (by simp [hp])
                simp only [List.append_assoc, List.singleton_append] at ih
                have q : ∀ w' : World, (Instr.checkKey e (n + 1) f.type u).run P w' = .ok () w' := fun w' => by
                  rcases kindT_spec hk with ⟨_, k', hk'⟩ | ⟨_, hk'⟩ | ⟨_, hk'⟩ <;>
                    (unfold Instr.checkKey; simp only [Sem.run_bind, run_underlying hk', Result.andThen]; rfl)
                simp only [List.forIn_cons, hn, ne_eq, not_false_eq_true, if_true, Sem.run_bind, p1, q, Result.andThen_ok, Sem.run_pure]
                exact ih w'
    · simp at hf
theorem plainKey_check {kt : TypeId} {x : AV} (h : plainKey P kt x = true) {u : Value} (hu : rep S w x u) (e : Bool) (n : Nat) (w' : World) : (∃ d, P.underlying kt = some d) ∧ (Instr.checkKey e (n + 2) kt u).run P w' = .ok () w' := by
  unfold plainKey at h
  split at h
  all_goals first | (simp at h; done) | skip
  case h_4 xs =>
    simp only [Bool.and_eq_true] at h
    obtain ⟨hs, h⟩ := h
    split at h
    · rename_i l hl
      have h : eqCells l xs xs = some true := by simpa using h
      unfold isStructT at hs
      split at hs
      · rename_i fs hd
        refine ⟨⟨_, hd⟩, ?_⟩
        simp only [rep] at hu
        obtain ⟨us, rfl, hus, _⟩ := hu
        unfold flatT at hl
        rw [hd] at hl
        simp only at hl
        split at hl
        · unfold Instr.checkKey
          simp only [Sem.run_bind, run_underlying hd, Result.andThen_ok]
          have q := run_checkFields e n fs.toList l xs 0 us [] hl h hus rfl w'
          rw [← Array.forIn_toList]
          exact (congrArg (fun r : Result PUnit => r.andThen fun a w' => Sem.run P (pure ()) w') q).trans rfl
        · simp at hl
      · simp at hs
    · simp at h
  all_goals
    simp only [beq_iff_eq] at h
    simp only [rep] at hu
    subst hu
    rcases kindT_spec h with ⟨h0, k', hk'⟩ | ⟨h0, hk'⟩ | ⟨h0, hk'⟩ <;> first
      | (simp at h0; done)
      | exact ⟨⟨_, hk'⟩, by unfold Instr.checkKey; simp only [Sem.run_bind, run_underlying hk', Result.andThen]; rfl⟩
theorem map_find {t : TypeId} {kt : TypeId × TypeId} {x : AV} {r : Row} {k : Nat} {u : Value} {oi : Option Nat} (ht : mapT P t = some kt) (hp : plainKey P kt.1 x = true) (hf : mfind (keyEq P kt.1 x) r.es 0 = some oi) (hm : MapOK S w k r) (hu : rep S w x u) :
    ∃ g ms, S.loc k = .map (some g) ∧ w.heap[g]? = some (.map (List.toArray ms) ms.length) ∧ ents S w 0 r.es ms ∧ P.underlying t = some (.map kt.1 kt.2) ∧ (∀ e (w' : World), (Instr.checkKey e 10000 kt.1 u).run P w' = .ok () w') ∧
      ((oi = none ∧ ∀ w' : World, (Instr.findKey kt.1 u ms).run P w' = .ok none w') ∨
      ∃ j m cs, oi = some j ∧ ms[j]? = some m ∧ r.es[j]? = some cs ∧ (∀ w' : World, (Instr.findKey kt.1 u ms).run P w' = .ok (some (j, m.val)) w') ∧ m.key = u ∧ (∀ n, Instr.sameBits (n + 1) m.key u = true) ∧ m.born = j ∧ repL S w cs [m.key, m.val]) := by
  obtain ⟨g, ms, h1, h2, h3, _⟩ := hm
  obtain ⟨⟨d, hd⟩, _⟩ := plainKey_check hp hu true 0 w
  refine ⟨g, ms, h1, h2, h3, mapT_spec ht, fun e w' => (plainKey_check hp hu e 9998 w').2, ?_⟩
  by_cases hx : ∀ xs, x ≠ .agg xs
  · obtain ⟨f1, f2⟩ := mfind_now hx hd hu r.es ms 0 h3 hf
    cases oi with
    | none => exact .inl ⟨rfl, fun w' => by simp [Instr.findKey, run_underlying hd, f1 rfl]⟩
    | some j =>
      obtain ⟨m, cs, _, q2, q3, q4, q5, q6, q7, q8⟩ := f2 j rfl
      exact .inr ⟨j, m, cs, rfl, by simpa using q2, by simpa using q3, fun w' => by simp [Instr.findKey, run_underlying hd, q4], q5, q6, q7, q8⟩
  · have hx' : ∃ xs, x = .agg xs := Classical.byContradiction fun h => hx fun xs e => h ⟨xs, e⟩
    obtain ⟨xs, rfl⟩ := hx'
    have hfn : Instr.findNow d u ms 0 = none ∨ ms = [] := by
      cases ms with
      | nil => exact .inr rfl
      | cons m t =>
        refine .inl ?_
        simp only [rep] at hu
        obtain ⟨us, rfl, _⟩ := hu
        have : Instr.sameNow d (.agg us.toArray) m.key = none := by cases d <;> rfl
        simp [Instr.findNow, this]
    have hkey : ∀ w' : World, (Instr.findKey kt.1 u ms).run P w' = (Instr.findAsking kt.1 u ms).run P w' := fun w' => by
      rcases hfn with h | h
      · simp [Instr.findKey, run_underlying hd, h]
      · subst h
        simp [Instr.findKey, run_underlying hd, Instr.findNow, Instr.findAsking]
    obtain ⟨f1, f2⟩ := mfind_ask hu r.es ms 0 h3 hf
    cases oi with
    | none => exact .inl ⟨rfl, fun w' => by rw [hkey]; exact f1 rfl w'⟩
    | some j =>
      obtain ⟨m, cs, _, q2, q3, q4, q5, q6, q7, q8⟩ := f2 j rfl
      exact .inr ⟨j, m, cs, rfl, by simpa using q2, by simpa using q3, fun w' => by rw [hkey]; exact q4 w', q5, q6, q7, q8⟩
theorem pair_get {cs : List AV} {a b : Value} (h : repL S w cs [a, b]) : ∃ x y, cs = [x, y] ∧ rep S w x a ∧ rep S w y b := by
  cases cs with
  | nil => simp [repL] at h
  | cons x cs =>
    simp only [repL] at h
    obtain ⟨u, t, e, h1, h2⟩ := h
    injection e with e1 e2
    subst e1 e2
    cases cs with
    | nil => simp [repL] at h2
    | cons y cs =>
      simp only [repL] at h2
      obtain ⟨u, t, e, h3, h4⟩ := h2
      injection e with e1 e2
      subst e1 e2
      cases cs with
      | nil => exact ⟨x, y, rfl, h1, h3⟩
      | cons _ _ => simp [repL] at h4
theorem alookup_sound {t : TypeId} {x key : AV} {ok : Bool} (hH : Rows' S w H) (h : alookup P H t x key ok K) :
    ∃ z, K z ∧ (gt G → ∀ u v, rep S w x u → rep S w key v → Does P S H w z (Instr.lookup t u v ok)) := by
  unfold alookup mapOf at h
  split at h
  · rename_i j
    split at h
    · rename_i r kt hj ht
      split at h
      · rename_i oi hf
        obtain ⟨hp, h⟩ := h
        split at h
        · rename_i z hz
          refine ⟨_, h, fun _ u v hu hv => ?_⟩
          simp only [rep] at hu
          obtain ⟨_, rfl, g0, hl0⟩ := hu
          obtain ⟨g, ms, h1, h2, h3, h4, h5, h6⟩ := map_find ht hp hf ((hH j r hj).mp hl0) hv
          obtain ⟨zv, hzr, hzz⟩ := zeroE_run hz
          have hget : ∀ w', Agree S H w w' → w'.heap[g]? = some (.map (List.toArray ms) ms.length) := fun w' ha => (ha.own j r hj g (by rw [h1]; rfl)).trans h2
          rcases h6 with ⟨rfl, h6⟩ | ⟨i, m, cs, rfl, q1, q2, q3, q4, q5, q6, q7⟩
          · cases ok with
            | false =>
              refine ⟨zv, hzz S w, fun w' ha => ?_⟩
              simp [Instr.lookup, run_underlying h4, h1, MapKept.run_getObj_map (hget w' ha), h5, h6, hzr, mget]
            | true =>
              refine ⟨.tuple #[zv, .bool false], ?_, fun w' ha => ?_⟩
              · simp only [mget, if_true, rep, repL]
                exact ⟨[zv, .bool false], by simp, _, _, rfl, hzz S w, _, _, rfl, rfl, rfl⟩
              · simp [Instr.lookup, run_underlying h4, h1, MapKept.run_getObj_map (hget w' ha), h5, h6, hzr, mget]
          · obtain ⟨xk, xv, rfl, r1, r2⟩ := pair_get q7
            have e1 : (r.es.getD i []).getD 1 .any = xv := by simp [List.getD, q2]
            cases ok with
            | false =>
              refine ⟨m.val, by simp only [mget, e1]; exact r2, fun w' ha => ?_⟩
              simp [Instr.lookup, run_underlying h4, h1, MapKept.run_getObj_map (hget w' ha), h5, q3]
            | true =>
              refine ⟨.tuple #[m.val, .bool true], ?_, fun w' ha => ?_⟩
              · simp only [mget, if_true, e1, rep, repL]
                exact ⟨[m.val, .bool true], by simp, _, _, rfl, r2, _, _, rfl, rfl, rfl⟩
              · simp [Instr.lookup, run_underlying h4, h1, MapKept.run_getObj_map (hget w' ha), h5, q3]
        · exact h.elim
      · exact h.elim
    · exact h.elim
  · exact h.elim
end
end Go.Aw
end

section
set_option linter.unusedSimpArgs false
set_option linter.unusedVariables false
namespace Go.Aw
open Go.RowKit
section
variable {P : Program} {S : Sg} {H : Heap} {w : World} {G : Option Bool} {K : AV → Prop}
theorem exec_of {s : Sem Value} {v : Value} {w' : World} (h : s.run P w' = .ok v w') : (do pure (Next.value (← s)) : Sem Next).run P w' = .ok (.value v) w' := by
  simp [h]
def Gives (P : Program) (S : Sg) (H : Heap) (w : World) (a : Act) (op : Op) (z : AV) : Prop :=
  ∃ v, rep S w z v ∧ ∀ w', Agree S H w w' → ∀ o : Oper, o.op = op → (execOp a.eval o).run P w' = .ok (.value v) w'
theorem Gives.of_does {a : Act} {op : Op} {z : AV} {s : Sem Value} (hs : Does P S H w z s) (he : ∀ o : Oper, o.op = op → execOp a.eval o = (do pure (Next.value (← s)) : Sem Next)) : Gives P S H w a op z := by
  obtain ⟨v, hv, hr⟩ := hs
  exact ⟨v, hv, fun w' ha o ho => by rw [he o ho]; exact exec_of (hr w' ha)⟩
theorem wopds_sound {G : Option Bool} {ρ : Env} {a : Act} (hF : FR S w ρ a) : ∀ (l : List Operand) {K : List AV → Prop}, (∀ x ∈ l, opB a.tmps.size x = true) → wopds G ρ l K →
    ∃ ys, K ys ∧ (gt G → repL S w ys (l.map a.eval))
  | [], K, _, h => ⟨[], h, fun _ => by simp [repL]⟩
  | x :: rest, K, hb, h => by
    simp only [wopds] at h
    obtain ⟨y, h, hy⟩ := wopd_sound (S := S) (w := w) h
    obtain ⟨ys, hK, hys⟩ := wopds_sound hF rest (fun x hx => hb x (by simp [hx])) h
    refine ⟨_, hK, fun hg => ?_⟩
    simp only [List.map_cons, repL]
    exact ⟨_, _, rfl, hy hg _ (aev_sound hF (hb x (by simp))), hys hg⟩
theorem apure_sound {ρ : Env} {a : Act} {op : Op} (hb : ∀ x ∈ op.operands, opB a.tmps.size x = true) (hF : FR S w ρ a) (hH : Rows' S w H) (h : apure P G ρ H op K) :
    ∃ z, K z ∧ (gt G → Gives P S H w a op z) := by
  have ev := fun x hx => aev_sound hF (hb x hx)
  cases op <;> simp only [apure] at h <;> simp only [Op.operands] at ev hb <;> try exact h.elim
  case move x =>
    obtain ⟨z, hz, hy⟩ := wopd_sound (S := S) (w := w) h
    exact ⟨z, hz, fun hg => ⟨_, hy hg _ (ev x (by simp)), fun w' _ o ho => by simp [execOp, ho]⟩⟩
  case assign x =>
    obtain ⟨z, hz, hy⟩ := wopd_sound (S := S) (w := w) h
    exact ⟨z, hz, fun hg => ⟨_, hy hg _ (ev x (by simp)), fun w' _ o ho => by simp [execOp, ho]⟩⟩
  case pick c x y =>
    obtain ⟨zc, h, hc⟩ := wopd_sound (S := S) (w := w) h
    split at h
    · rename_i b
      obtain ⟨z, hz, hy⟩ := apick_sound (S := S) (w := w) h
      refine ⟨z, hz, fun hg => ?_⟩
      have e := rep_bool (hc hg _ (ev c (by simp)))
      refine ⟨_, hy hg _ _ (ev x (by simp)) (ev y (by simp)), fun w' _ o ho => ?_⟩
      simp [execOp, ho, e, asBool]
    · exact h.elim
  case build t parts =>
    obtain ⟨ps, h, hps⟩ := wparts_sound hF parts.toList (fun p hp => hb p.2 (by simpa using ⟨p.1, by simpa using hp⟩)) h
    unfold abuild at h
    split at h
    · rename_i z pl hz hpl
      split at h
      · rename_i cs hcs
        refine ⟨_, h, fun hg => ?_⟩
        obtain ⟨e1, e2⟩ := hps hg
        obtain ⟨A', f1, f2, f3⟩ := partsT_built (S := S) (w := w) hz hpl hcs e1 e2
        refine ⟨.agg A', by simp only [rep]; exact ⟨A'.toList, by simp, f2, f3⟩, fun w' _ o ho => ?_⟩
        have : (parts.map fun (p : Nat × Operand) => (p.1, a.eval p.2)).toList = parts.toList.map fun p => (p.1, a.eval p.2) := by simp
        rw [← this] at f1
        simp only [execOp, ho]
        exact exec_of (run_build w' t _ A' f1)
      · exact h.elim
    · exact h.elim
  case load t x =>
    split at h
    · rename_i l hl
      obtain ⟨y, h, hy⟩ := wopd_sound (S := S) (w := w) h
      obtain ⟨z, hz, hd⟩ := aload_sound hl hH h
      exact ⟨z, hz, fun hg => Gives.of_does (hd hg _ (hy hg _ (ev x (by simp)))) (fun o ho => by simp [execOp, ho])⟩
    · exact h.elim
  case nilCheck x =>
    obtain ⟨y, h, hy⟩ := wopd_sound (S := S) (w := w) h
    split at h
    · refine ⟨_, h, fun hg => ?_⟩
      have e := hy hg _ (ev x (by simp))
      refine ⟨_, e, fun w' _ o ho => ?_⟩
      simp only [rep] at e
      obtain ⟨b, p, e, _⟩ := e
      simp [execOp, ho, e]
    · refine ⟨_, h, fun hg => ?_⟩
      have e := hy hg _ (ev x (by simp))
      refine ⟨_, e, fun w' _ o ho => ?_⟩
      simp only [rep] at e
      obtain ⟨_, b, p, c, _, e⟩ := e
      simp [execOp, ho, e]
    · obtain ⟨h0, cs, off, h⟩ := h
      exact ⟨_, h, fun hg => (h0 hg).elim⟩
    · exact h.elim
  case binOp op t x y t' =>
    split at h
    · rename_i hny
      have hy : y = .const (.slice none 0 0) := by
        unfold isNilC at hny
        split at hny
        · rfl
        · simp at hny
      subst hy
      obtain ⟨x', h, hx⟩ := wopd_sound (S := S) (w := w) h
      obtain ⟨hst, h⟩ := h
      obtain ⟨e, hut⟩ := sliceT_spec hst
      have exec : ∀ (b : Bool) (ad : Option Addr) (n c : Nat), a.eval x = .slice ad n c → (op = .eql ∧ b = ad.isNone ∨ op = .neq ∧ b = !ad.isNone) → Gives P S H w a (.binOp op t x (.const (.slice none 0 0)) t') (.v (.bool b)) := by
        intro b ad n c hx hb
        refine ⟨.bool b, by simp only [rep], fun w' _ o ho => ?_⟩
        have ec : a.eval (.const (.slice none 0 0)) = .slice none 0 0 := rfl
        simp only [execOp, ho, hx, ec]
        have hg : (eqGuard op t x (.const (.slice none 0 0)) (.slice ad n c) (.slice none 0 0)).run P w' = .ok () w' := run_eqGuard_plain op t x _ _ _ (by simp) (by simp) w'
        have he : (Op.equal t (.slice ad n c) (.slice none 0 0)).run P w' = .ok ad.isNone w' := by
          have e0 : Op.equal t (.slice ad n c) (.slice none 0 0) = Op.equalIn (9999 + 1) t (.slice ad n c) (.slice none 0 0) := rfl
          rw [e0]
          unfold Op.equalIn
          cases ad <;> simp [run_underlying hut]
        rcases hb with ⟨rfl, rfl⟩ | ⟨rfl, rfl⟩
        · exact exec_of (by simp only [Sem.run_bind, hg, Result.andThen_ok]; simp [binOp, he])
        · exact exec_of (by simp only [Sem.run_bind, hg, Result.andThen_ok]; simp [binOp, he])
      by_cases hg : gt G
      · have ex := hx hg _ (ev x (by simp))
        unfold aeqNil at h
        split at h
        · simp only [rep] at ex
          obtain ⟨ad, n, c, hv, hl, _, _, hc⟩ := ex
          cases ad with
          | none =>
            rcases hc with hc | ⟨b, o, sz, hc, _⟩
            · exact ⟨_, h.1 hc, fun _ => exec _ _ _ _ hv (.inl ⟨rfl, rfl⟩)⟩
            · simp at hc
          | some ad => exact ⟨_, h.2, fun _ => exec _ _ _ _ hv (.inl ⟨rfl, rfl⟩)⟩
        · simp only [rep] at ex
          obtain ⟨ad, n, c, hv, hl, _, _, hc⟩ := ex
          cases ad with
          | none =>
            rcases hc with hc | ⟨b, o, sz, hc, _⟩
            · exact ⟨_, h.1 hc, fun _ => exec _ _ _ _ hv (.inr ⟨rfl, rfl⟩)⟩
            · simp at hc
          | some ad => exact ⟨_, h.2, fun _ => exec _ _ _ _ hv (.inr ⟨rfl, rfl⟩)⟩
        · simp only [rep] at ex
          obtain ⟨_, hy, ad, n, c, hv⟩ := ex
          cases ad with
          | none => exact ⟨_, h.1 (nil_empty hH (hy.symm.trans hv)), fun _ => exec _ _ _ _ hv (.inl ⟨rfl, rfl⟩)⟩
          | some ad => exact ⟨_, h.2, fun _ => exec _ _ _ _ hv (.inl ⟨rfl, rfl⟩)⟩
        · simp only [rep] at ex
          obtain ⟨_, hy, ad, n, c, hv⟩ := ex
          cases ad with
          | none => exact ⟨_, h.1 (nil_empty hH (hy.symm.trans hv)), fun _ => exec _ _ _ _ hv (.inr ⟨rfl, rfl⟩)⟩
          | some ad => exact ⟨_, h.2, fun _ => exec _ _ _ _ hv (.inr ⟨rfl, rfl⟩)⟩
        · simp only [rep] at ex
          exact ⟨_, h, fun _ => exec _ none 0 0 ex (.inl ⟨rfl, rfl⟩)⟩
        · simp only [rep] at ex
          exact ⟨_, h, fun _ => exec _ none 0 0 ex (.inr ⟨rfl, rfl⟩)⟩
        · exact h.elim
      · unfold aeqNil at h
        split at h
        · exact ⟨_, h.2, fun hg' => absurd hg' hg⟩
        · exact ⟨_, h.2, fun hg' => absurd hg' hg⟩
        · exact ⟨_, h.2, fun hg' => absurd hg' hg⟩
        · exact ⟨_, h.2, fun hg' => absurd hg' hg⟩
        · exact ⟨_, h, fun hg' => absurd hg' hg⟩
        · exact ⟨_, h, fun hg' => absurd hg' hg⟩
        · exact h.elim
    split at h
    · rename_i _ hif
      have hy : y = .const .nilIface := by
        unfold isIfC at hif
        split at hif
        · rfl
        · simp at hif
      subst hy
      obtain ⟨x', h, hx⟩ := wopd_sound (S := S) (w := w) h
      have eq0 : ∀ w', isIfT P t = true → (Op.equal t .nilIface .nilIface).run P w' = .ok true w' := fun w' ht => by
        have hu : ∃ ms, P.underlying t = some (.interface ms) := by
          unfold isIfT at ht
          split at ht
          · exact ⟨_, by assumption⟩
          · simp at ht
        obtain ⟨ms, hu⟩ := hu
        have e0 : Op.equal t .nilIface .nilIface = Op.equalIn (9999 + 1) t .nilIface .nilIface := rfl
        rw [e0]
        unfold Op.equalIn
        simp [run_underlying hu]
      have ec : a.eval (.const .nilIface) = .nilIface := rfl
      unfold aifNil at h
      split at h
      · refine ⟨_, h.2, fun hg => ⟨.bool true, by simp only [rep], fun w' _ o ho => ?_⟩⟩
        have ex := hx hg _ (ev x (by simp))
        simp only [rep] at ex
        have hgd : (eqGuard .eql t x (.const .nilIface) .nilIface .nilIface).run P w' = .ok () w' := by simp [eqGuard]
        simp only [execOp, ho, ex, ec]
        exact exec_of (by simp only [Sem.run_bind, hgd, Result.andThen_ok]; simp [binOp, eq0 w' h.1])
      · refine ⟨_, h.2, fun hg => ⟨.bool false, by simp only [rep], fun w' _ o ho => ?_⟩⟩
        have ex := hx hg _ (ev x (by simp))
        simp only [rep] at ex
        have hgd : (eqGuard .neq t x (.const .nilIface) .nilIface .nilIface).run P w' = .ok () w' := by simp [eqGuard]
        simp only [execOp, ho, ex, ec]
        exact exec_of (by simp only [Sem.run_bind, hgd, Result.andThen_ok]; simp [binOp, eq0 w' h.1])
      · exact h.elim
    obtain ⟨x', h, hx⟩ := wopd_sound (S := S) (w := w) h
    obtain ⟨y', h, hy⟩ := wopd_sound (S := S) (w := w) h
    obtain ⟨z, hz, hd⟩ := abin_sound (S := S) (H := H) (w := w) h
    exact ⟨z, hz, fun hg => Gives.of_does (hd hg _ _ (hx hg _ (ev x (by simp))) (hy hg _ (ev y (by simp))) x y) (fun o ho => by simp [execOp, ho])⟩
  case unOp op t x =>
    obtain ⟨x', h, hx⟩ := wopd_sound (S := S) (w := w) h
    obtain ⟨z, hz, hd⟩ := aun_sound (P := P) (S := S) (H := H) (w := w) h
    exact ⟨z, hz, fun hg => Gives.of_does (hd _ (hx hg _ (ev x (by simp)))) (fun o ho => by simp [execOp, ho])⟩
  case convert src dst x =>
    obtain ⟨x', h, hx⟩ := wopd_sound (S := S) (w := w) h
    obtain ⟨z, hz, hd⟩ := aconv_sound (S := S) (H := H) (w := w) h
    exact ⟨z, hz, fun hg => Gives.of_does (hd _ (hx hg _ (ev x (by simp)))) (fun o ho => by simp [execOp, ho])⟩
  case slice t x lo hi m =>
    cases m with
    | some m =>
      cases lo with
      | some lo =>
        cases hi with
        | none => exact h.elim
        | some hi =>
          simp only at h
          obtain ⟨x', h, hx⟩ := wopd_sound (S := S) (w := w) h
          obtain ⟨lo', h, hlo⟩ := wopd_sound (S := S) (w := w) h
          obtain ⟨hi', h, hhi⟩ := wopd_sound (S := S) (w := w) h
          obtain ⟨m', h, hm⟩ := wopd_sound (S := S) (w := w) h
          obtain ⟨z, hz, hd⟩ := aclip3_sound (S := S) (w := w) (H' := H) hH h
          exact ⟨z, hz, fun hg => Gives.of_does (hd hg _ _ _ _ (hx hg _ (ev x (by simp))) (hlo hg _ (ev lo (by simp))) (hhi hg _ (ev hi (by simp))) (hm hg _ (ev m (by simp)))) (fun o ho => by simp [execOp, ho])⟩
      | none =>
        cases hi with
        | none => exact h.elim
        | some hi =>
          simp only at h
          obtain ⟨x', h, hx⟩ := wopd_sound (S := S) (w := w) h
          obtain ⟨hi', h, hhi⟩ := wopd_sound (S := S) (w := w) h
          obtain ⟨m', h, hm⟩ := wopd_sound (S := S) (w := w) h
          obtain ⟨z, hz, hd⟩ := aclip_sound (S := S) (w := w) (H := H) h
          exact ⟨z, hz, fun hg => Gives.of_does (hd hg _ _ _ (hx hg _ (ev x (by simp))) (hhi hg _ (ev hi (by simp))) (hm hg _ (ev m (by simp)))) (fun o ho => by simp [execOp, ho])⟩
    | none =>
      simp only at h
      obtain ⟨x', h, hx⟩ := wopd_sound (S := S) (w := w) h
      cases lo with
      | some lo =>
        cases hi with
        | some hi =>
          obtain ⟨lo', h, hlo⟩ := wopd_sound (S := S) (w := w) h
          obtain ⟨hi', h, hhi⟩ := wopd_sound (S := S) (w := w) h
          obtain ⟨z, hz, hd⟩ := asl_sound hH h
          refine ⟨z, hz, fun hg => Gives.of_does (hd hg _ (some (a.eval lo)) (some (a.eval hi)) (hx hg _ (ev x (by simp))) ?_ (by simp) ?_ (by simp)) (fun o ho => by simp [execOp, ho])⟩
          · intro y hy; injection hy with hy; subst hy; exact ⟨_, rfl, hlo hg _ (ev lo (by simp))⟩
          · intro y hy; injection hy with hy; subst hy; exact ⟨_, rfl, hhi hg _ (ev hi (by simp))⟩
        | none =>
          obtain ⟨lo', h, hlo⟩ := wopd_sound (S := S) (w := w) h
          obtain ⟨z, hz, hd⟩ := asl_sound hH h
          refine ⟨z, hz, fun hg => Gives.of_does (hd hg _ (some (a.eval lo)) none (hx hg _ (ev x (by simp))) ?_ (by simp) (by simp) (by simp)) (fun o ho => by simp [execOp, ho])⟩
          intro y hy; injection hy with hy; subst hy; exact ⟨_, rfl, hlo hg _ (ev lo (by simp))⟩
      | none =>
        cases hi with
        | some hi =>
          obtain ⟨hi', h, hhi⟩ := wopd_sound (S := S) (w := w) h
          obtain ⟨z, hz, hd⟩ := asl_sound hH h
          refine ⟨z, hz, fun hg => Gives.of_does (hd hg _ none (some (a.eval hi)) (hx hg _ (ev x (by simp))) (by simp) (by simp) ?_ (by simp)) (fun o ho => by simp [execOp, ho])⟩
          intro y hy; injection hy with hy; subst hy; exact ⟨_, rfl, hhi hg _ (ev hi (by simp))⟩
        | none => exact h.elim
  case fieldAddr t x f =>
    obtain ⟨x', h, hx⟩ := wopd_sound (S := S) (w := w) h
    obtain ⟨z, hz, hd⟩ := afieldAddr_sound (G := G) (S := S) (H := H) (w := w) h
    exact ⟨z, hz, fun hg => Gives.of_does (hd hg _ (hx hg _ (ev x (by simp)))) (fun o ho => by simp [execOp, ho])⟩
  case field t x f =>
    split at h
    · rename_i o l ho
      obtain ⟨x', h, hx⟩ := wopd_sound (S := S) (w := w) h
      obtain ⟨fs, fd, i, hu, hf, rfl, hi, _, hl⟩ := fieldOff_spec ho
      obtain ⟨z, hz, hd⟩ := apart_sound (S := S) (H := H) (w := w) hl h
      refine ⟨z, hz, fun hg => ?_⟩
      obtain ⟨cs, e, hd⟩ := hd hg _ (hx hg _ (ev x (by simp)))
      refine Gives.of_does (s := Instr.field t (.agg cs) f) ?_ (fun o ho => by simp [execOp, ho, e])
      obtain ⟨v, hv, hr⟩ := hd
      refine ⟨v, hv, fun w' ha => ?_⟩
      simp [Instr.field, run_underlying hu, hf, asAgg, hr w' ha]
    · exact h.elim
  case indexAddr t x i =>
    obtain ⟨x', h, hx⟩ := wopd_sound (S := S) (w := w) h
    obtain ⟨i', h, hi⟩ := wopd_sound (S := S) (w := w) h
    obtain ⟨z, hz, hd⟩ := aindexAddr_sound hH h
    exact ⟨z, hz, fun hg => Gives.of_does (hd hg _ _ (hx hg _ (ev x (by simp))) (hi hg _ (ev i (by simp)))) (fun o ho => by simp [execOp, ho])⟩
  case index t x i =>
    obtain ⟨x', h, hx⟩ := wopd_sound (S := S) (w := w) h
    obtain ⟨i', h, hi⟩ := wopd_sound (S := S) (w := w) h
    obtain ⟨z, hz, hd⟩ := aindex_sound (S := S) (H := H) (w := w) h
    exact ⟨z, hz, fun hg => Gives.of_does (hd hg _ _ (hx hg _ (ev x (by simp))) (hi hg _ (ev i (by simp)))) (fun o ho => by simp [execOp, ho])⟩
  case extract x i =>
    obtain ⟨x', h, hx⟩ := wopd_sound (S := S) (w := w) h
    split at h
    · rename_i vs
      refine ⟨_, h.2, fun hg => ?_⟩
      have e := hx hg _ (ev x (by simp))
      simp only [rep] at e
      obtain ⟨l, e, hl⟩ := e
      obtain ⟨u, h1, h2⟩ := repL_get vs l i hl (h.1 hg)
      exact ⟨u, h2, fun w' _ o ho => by simp [execOp, ho, e, Instr.extract, h1]⟩
    · exact h.elim
  case lookup t x i ok =>
    obtain ⟨x', h, hx⟩ := wopd_sound (S := S) (w := w) h
    obtain ⟨i', h, hi⟩ := wopd_sound (S := S) (w := w) h
    obtain ⟨z, hz, hd⟩ := alookup_sound (G := G) hH h
    exact ⟨z, hz, fun hg => Gives.of_does (hd hg _ _ (hx hg _ (ev x (by simp))) (hi hg _ (ev i (by simp)))) (fun o ho => by simp [execOp, ho])⟩
  case makeFunc f first cap =>
    cases f <;> simp only at h <;> try exact h.elim
    rename_i f
    obtain ⟨hf, h⟩ := h
    subst hf
    obtain ⟨ys, hz, hys⟩ := wopds_sound hF cap.toList (fun x hx => hb x (by simp [Array.mem_toList_iff.1 hx])) h
    refine ⟨_, hz, fun hg => ⟨.func (.func f) #[] (cap.map a.eval), ?_, fun w' _ o ho => by simp [execOp, ho, Instr.makeFunc]⟩⟩
    simp only [rep]
    exact ⟨cap.toList.map a.eval, by rw [← Array.toList_map], hys hg⟩
theorem apure_slice_sound {H' : Heap} {ρ : Env} {a : Act} {t : TypeId} {x : Operand} {lo hi m : Option Operand} (hb : ∀ y ∈ (Op.slice t x lo hi m).operands, opB a.tmps.size y = true) (hF : FR S w ρ a) (hH : Rows' S w H) (h : apure P G ρ H (.slice t x lo hi m) K) :
    ∃ z, K z ∧ (gt G → Gives P S H' w a (.slice t x lo hi m) z) := by
  have ev := fun x hx => aev_sound hF (hb x hx)
  simp only [apure] at h
  simp only [Op.operands] at ev hb
  cases m with
  | some m =>
    cases lo with
    | some lo =>
      cases hi with
      | none => exact h.elim
      | some hi =>
        simp only at h
        obtain ⟨x', h, hx⟩ := wopd_sound (S := S) (w := w) h
        obtain ⟨lo', h, hlo⟩ := wopd_sound (S := S) (w := w) h
        obtain ⟨hi', h, hhi⟩ := wopd_sound (S := S) (w := w) h
        obtain ⟨m', h, hm⟩ := wopd_sound (S := S) (w := w) h
        obtain ⟨z, hz, hd⟩ := aclip3_sound (S := S) (w := w) (H' := H') hH h
        exact ⟨z, hz, fun hg => Gives.of_does (hd hg _ _ _ _ (hx hg _ (ev x (by simp))) (hlo hg _ (ev lo (by simp))) (hhi hg _ (ev hi (by simp))) (hm hg _ (ev m (by simp)))) (fun o ho => by simp [execOp, ho])⟩
    | none =>
      cases hi with
      | none => exact h.elim
      | some hi =>
        simp only at h
        obtain ⟨x', h, hx⟩ := wopd_sound (S := S) (w := w) h
        obtain ⟨hi', h, hhi⟩ := wopd_sound (S := S) (w := w) h
        obtain ⟨m', h, hm⟩ := wopd_sound (S := S) (w := w) h
        obtain ⟨z, hz, hd⟩ := aclip_sound (S := S) (w := w) (H := H') h
        exact ⟨z, hz, fun hg => Gives.of_does (hd hg _ _ _ (hx hg _ (ev x (by simp))) (hhi hg _ (ev hi (by simp))) (hm hg _ (ev m (by simp)))) (fun o ho => by simp [execOp, ho])⟩
  | none =>
    simp only at h
    obtain ⟨x', h, hx⟩ := wopd_sound (S := S) (w := w) h
    cases lo with
    | some lo =>
      cases hi with
      | some hi =>
        obtain ⟨lo', h, hlo⟩ := wopd_sound (S := S) (w := w) h
        obtain ⟨hi', h, hhi⟩ := wopd_sound (S := S) (w := w) h
        obtain ⟨z, hz, hd⟩ := asl_sound hH h
        refine ⟨z, hz, fun hg => Gives.of_does (hd hg _ (some (a.eval lo)) (some (a.eval hi)) (hx hg _ (ev x (by simp))) ?_ (by simp) ?_ (by simp)) (fun o ho => by simp [execOp, ho])⟩
        · intro y hy; injection hy with hy; subst hy; exact ⟨_, rfl, hlo hg _ (ev lo (by simp))⟩
        · intro y hy; injection hy with hy; subst hy; exact ⟨_, rfl, hhi hg _ (ev hi (by simp))⟩
      | none =>
        obtain ⟨lo', h, hlo⟩ := wopd_sound (S := S) (w := w) h
        obtain ⟨z, hz, hd⟩ := asl_sound hH h
        refine ⟨z, hz, fun hg => Gives.of_does (hd hg _ (some (a.eval lo)) none (hx hg _ (ev x (by simp))) ?_ (by simp) (by simp) (by simp)) (fun o ho => by simp [execOp, ho])⟩
        intro y hy; injection hy with hy; subst hy; exact ⟨_, rfl, hlo hg _ (ev lo (by simp))⟩
    | none =>
      cases hi with
      | some hi =>
        obtain ⟨hi', h, hhi⟩ := wopd_sound (S := S) (w := w) h
        obtain ⟨z, hz, hd⟩ := asl_sound hH h
        refine ⟨z, hz, fun hg => Gives.of_does (hd hg _ none (some (a.eval hi)) (hx hg _ (ev x (by simp))) (by simp) (by simp) ?_ (by simp)) (fun o ho => by simp [execOp, ho])⟩
        intro y hy; injection hy with hy; subst hy; exact ⟨_, rfl, hhi hg _ (ev hi (by simp))⟩
      | none => exact h.elim
end
end Go.Aw
end

section
namespace Go.Aw
def powTab : Array Value := (Go.Lib.pow10Tab.map fun z => Value.int .u64 z).toArray
def bruTab : Array Value := (Go.Lib.deBruijn64tab.map fun z : Nat => Value.int .u8 (z : Int)).toArray
def tabL : List (Nat × Array Value) := [(0, powTab), (2, bruTab)]
end Go.Aw
end
