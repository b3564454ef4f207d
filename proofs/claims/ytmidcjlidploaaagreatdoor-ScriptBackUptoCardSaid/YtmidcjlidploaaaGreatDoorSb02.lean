/- Texts joined by a program: AwRep, AwOps. -/
import Derived.Test.YtmidcjlidploaaaGreatDoorSb01

section
set_option linter.unusedSimpArgs false
set_option linter.unusedVariables false
namespace Go.Aw
open Go.RowKit
structure Sg where
  ro : Nat → Prop
  fz : Nat → Prop
  loc : Nat → Value
  sz : Nat → Nat
  N : Nat
mutual
def rep (S : Sg) (w : World) : AV → Value → Prop
  | .v x, y => y = x
  | .any, _ => True
  | .sl es, y => ∃ ad n c, y = .slice ad n c ∧ es.length = n ∧ n ≤ c ∧ c ≤ maxLen ∧ (es = [] ∨ ∃ b o sz, ad = some ⟨b, o, none⟩ ∧ S.ro b ∧ 0 < sz ∧ elsAt S w b sz o es)
  | .rp cs off, y => ∃ b o, y = .pointer (some ⟨b, o + off, none⟩) ∧ S.ro b ∧ cellsAt S w b o cs
  | .agg cs, y => ∃ l : List Value, y = .agg l.toArray ∧ repL S w cs l ∧ ∀ u ∈ l, u.oneCell' = true
  | .tup vs, y => ∃ l : List Value, y = .tuple l.toArray ∧ repL S w vs l
  | .os k, y => k < S.N ∧ y = S.loc k ∧ ∃ a n c, y = .slice a n c
  | .op k i f, y => k < S.N ∧ ∃ g n c, S.loc k = .slice (some ⟨g, 0, none⟩) n c ∧ y = .pointer (some ⟨g, i * S.sz k + f, none⟩)
  | .gd g x, y => (g = true → rep S w x y) ∧ (g = false → y = undef)
  | .nf x, y => rep S w x y
  | .fn f cap, y => ∃ l : List Value, y = .func (.func f) #[] l.toArray ∧ repL S w cap l
  | .om k, y => k < S.N ∧ y = S.loc k ∧ ∃ g, y = .map (some g)
  | .cl es, y => ∃ ad n, y = .slice ad n n ∧ es.length = n ∧ n ≤ maxLen ∧ (es = [] ∨ ∃ b o sz, ad = some ⟨b, o, none⟩ ∧ S.ro b ∧ 0 < sz ∧ elsAt S w b sz o es)
  | .oz k a b, y => k < S.N ∧ ∃ ad n c ad' cc, S.loc k = .slice ad n c ∧ y = .slice ad' (b - a) cc ∧ a ≤ b ∧ b ≤ n ∧ (0 < cc → ∃ g, ad = some ⟨g, 0, none⟩ ∧ ad' = some ⟨g, a * S.sz k, none⟩) ∧ (a = 0 → ad' = ad) ∧ n ≤ c ∧ b - a ≤ cc ∧ cc ≤ c - a
def repL (S : Sg) (w : World) : List AV → List Value → Prop
  | [], l => l = []
  | x :: r, l => ∃ u t, l = u :: t ∧ rep S w x u ∧ repL S w r t
def cellsAt (S : Sg) (w : World) (b : Nat) : Nat → List AV → Prop
  | _, [] => True
  | o, x :: r => (∃ u, w.cell? ⟨b, o, none⟩ = some u ∧ u.oneCell' = true ∧ rep S w x u) ∧ cellsAt S w b (o + 1) r
def elsAt (S : Sg) (w : World) (b sz : Nat) : Nat → List (List AV) → Prop
  | _, [] => True
  | o, cs :: r => cs.length = sz ∧ cellsAt S w b o cs ∧ elsAt S w b sz (o + sz) r
end
structure Sg.le (S S' : Sg) : Prop where
  ro : ∀ k, S.ro k → S'.ro k
  N : S.N ≤ S'.N
  loc : ∀ k, k < S.N → S'.loc k = S.loc k
  sz : ∀ k, k < S.N → S'.sz k = S.sz k
theorem Sg.le_refl (S : Sg) : S.le S := ⟨fun _ h => h, Nat.le_refl _, fun _ _ => rfl, fun _ _ => rfl⟩
theorem Sg.le_trans {S S' S'' : Sg} (h : S.le S') (h' : S'.le S'') : S.le S'' :=
  ⟨fun k hk => h'.ro k (h.ro k hk), Nat.le_trans h.N h'.N, fun k hk => (h'.loc k (Nat.lt_of_lt_of_le hk h.N)).trans (h.loc k hk),
    fun k hk => (h'.sz k (Nat.lt_of_lt_of_le hk h.N)).trans (h.sz k hk)⟩
def blk : Value → Option Nat
  | .slice (some a) _ _ => some a.block
  | .map (some g) => some g
  | _ => none
def Kept (S : Sg) (w w' : World) : Prop := ∀ k, S.ro k → w'.heap[k]? = w.heap[k]?
theorem Kept.refl (S : Sg) (w : World) : Kept S w w := fun _ _ => rfl
section
variable {S S' : Sg} {w w' : World}
theorem Kept.cell (h : Kept S w w') {b o : Nat} (hb : S.ro b) : w'.cell? ⟨b, o, none⟩ = w.cell? ⟨b, o, none⟩ := World.cell?_of_block (a := ⟨b, o, none⟩) (h b hb)
mutual
theorem rep_mono (hS : S.le S') (hw : Kept S w w') : ∀ (x : AV) (y : Value), rep S w x y → rep S' w' x y
  | .v _, _, h => h
  | .any, _, _ => trivial
  | .sl es, y, h => by
    simp only [rep] at h ⊢
    obtain ⟨ad, n, c, rfl, h1, h2, h3, h4⟩ := h
    refine ⟨ad, n, c, rfl, h1, h2, h3, ?_⟩
    rcases h4 with h4 | ⟨b, o, sz, rfl, hb, hs, he⟩
    · exact .inl h4
    · exact .inr ⟨b, o, sz, rfl, hS.ro b hb, hs, elsAt_mono hS hw hb sz o es he⟩
  | .rp cs off, y, h => by
    simp only [rep] at h ⊢
    obtain ⟨b, o, rfl, hb, hc⟩ := h
    exact ⟨b, o, rfl, hS.ro b hb, cellsAt_mono hS hw hb o cs hc⟩
  | .agg cs, y, h => by
    simp only [rep] at h ⊢
    obtain ⟨l, rfl, hl, h1⟩ := h
    exact ⟨l, rfl, repL_mono hS hw cs l hl, h1⟩
  | .tup vs, y, h => by
    simp only [rep] at h ⊢
    obtain ⟨l, rfl, hl⟩ := h
    exact ⟨l, rfl, repL_mono hS hw vs l hl⟩
  | .os k, y, h => by
    simp only [rep] at h ⊢
    exact ⟨Nat.lt_of_lt_of_le h.1 hS.N, by rw [hS.loc k h.1]; exact h.2⟩
  | .op k i f, y, h => by
    simp only [rep] at h ⊢
    refine ⟨Nat.lt_of_lt_of_le h.1 hS.N, ?_⟩
    rw [hS.loc k h.1, hS.sz k h.1]
    exact h.2
  | .gd g x, y, h => by
    simp only [rep] at h ⊢
    exact ⟨fun hg => rep_mono hS hw x y (h.1 hg), h.2⟩
  | .nf x, y, h => by
    simp only [rep] at h ⊢
    exact rep_mono hS hw x y h
  | .fn f cap, y, h => by
    simp only [rep] at h ⊢
    obtain ⟨l, rfl, hl⟩ := h
    exact ⟨l, rfl, repL_mono hS hw cap l hl⟩
  | .om k, y, h => by
    simp only [rep] at h ⊢
    exact ⟨Nat.lt_of_lt_of_le h.1 hS.N, by rw [hS.loc k h.1]; exact h.2⟩
  | .oz k a b, y, h => by
    simp only [rep] at h ⊢
    refine ⟨Nat.lt_of_lt_of_le h.1 hS.N, ?_⟩
    rw [hS.loc k h.1, hS.sz k h.1]
    exact h.2
  | .cl es, y, h => by
    simp only [rep] at h ⊢
    obtain ⟨ad, n, rfl, h1, h3, h4⟩ := h
    refine ⟨ad, n, rfl, h1, h3, ?_⟩
    rcases h4 with h4 | ⟨b, o, sz, rfl, hb, hs, he⟩
    · exact .inl h4
    · exact .inr ⟨b, o, sz, rfl, hS.ro b hb, hs, elsAt_mono hS hw hb sz o es he⟩
theorem repL_mono (hS : S.le S') (hw : Kept S w w') : ∀ (x : List AV) (l : List Value), repL S w x l → repL S' w' x l
  | [], _, h => h
  | x :: r, l, h => by
    simp only [repL] at h ⊢
    obtain ⟨u, t, rfl, h1, h2⟩ := h
    exact ⟨u, t, rfl, rep_mono hS hw x u h1, repL_mono hS hw r t h2⟩
theorem cellsAt_mono (hS : S.le S') (hw : Kept S w w') {b : Nat} (hb : S.ro b) : ∀ (o : Nat) (x : List AV), cellsAt S w b o x → cellsAt S' w' b o x
  | _, [], _ => trivial
  | o, x :: r, h => by
    simp only [cellsAt] at h ⊢
    obtain ⟨⟨u, h1, h2, h3⟩, h4⟩ := h
    exact ⟨⟨u, by rw [hw.cell hb]; exact h1, h2, rep_mono hS hw x u h3⟩, cellsAt_mono hS hw hb (o + 1) r h4⟩
theorem elsAt_mono (hS : S.le S') (hw : Kept S w w') {b : Nat} (hb : S.ro b) (sz : Nat) : ∀ (o : Nat) (x : List (List AV)), elsAt S w b sz o x → elsAt S' w' b sz o x
  | _, [], _ => trivial
  | o, x :: r, h => by
    simp only [elsAt] at h ⊢
    exact ⟨h.1, cellsAt_mono hS hw hb o x h.2.1, elsAt_mono hS hw hb sz (o + sz) r h.2.2⟩
end
theorem cellsAt_get : ∀ (cs : List AV) (o j : Nat) {b : Nat}, cellsAt S w b o cs → j < cs.length → ∃ u, w.cell? ⟨b, o + j, none⟩ = some u ∧ u.oneCell' = true ∧ rep S w (cs.getD j .any) u
  | [], _, _, _, _, h => by simp at h
  | x :: r, o, 0, b, h, _ => by
    simp only [cellsAt] at h
    simpa using h.1
  | x :: r, o, j + 1, b, h, hj => by
    simp only [cellsAt] at h
    have := cellsAt_get r (o + 1) j h.2 (by simpa using hj)
    rw [show o + 1 + j = o + (j + 1) by omega] at this
    simpa using this
theorem cellsAt_drop : ∀ (cs : List AV) (o j : Nat) {b : Nat}, cellsAt S w b o cs → cellsAt S w b (o + j) (cs.drop j)
  | [], _, _, _, _ => by simp [cellsAt]
  | x :: r, o, 0, b, h => by simpa using h
  | x :: r, o, j + 1, b, h => by
    simp only [cellsAt] at h
    have := cellsAt_drop r (o + 1) j h.2
    rw [show o + 1 + j = o + (j + 1) by omega] at this
    simpa using this
theorem cellsAt_take : ∀ (cs : List AV) (o j : Nat) {b : Nat}, cellsAt S w b o cs → cellsAt S w b o (cs.take j)
  | [], _, _, _, _ => by simp [cellsAt]
  | x :: r, o, 0, b, h => by simp [cellsAt]
  | x :: r, o, j + 1, b, h => by
    simp only [cellsAt, List.take_succ_cons] at h ⊢
    exact ⟨h.1, cellsAt_take r (o + 1) j h.2⟩
theorem cellsAt_vals : ∀ (cs : List AV) (o : Nat) {b : Nat}, cellsAt S w b o cs → ∃ l : List Value, l.length = cs.length ∧ repL S w cs l ∧ (∀ u ∈ l, u.oneCell' = true) ∧ ∀ j u, l[j]? = some u → w.cell? ⟨b, o + j, none⟩ = some u
  | [], _, _, _ => ⟨[], rfl, by simp [repL], by simp, by simp⟩
  | x :: r, o, b, h => by
    simp only [cellsAt] at h
    obtain ⟨⟨u, h1, h2, h3⟩, h4⟩ := h
    obtain ⟨l, e1, e2, e3, e4⟩ := cellsAt_vals r (o + 1) h4
    refine ⟨u :: l, by simp [e1], ?_, ?_, ?_⟩
    · simp only [repL]
      exact ⟨u, l, rfl, h3, e2⟩
    · intro v hv
      rcases List.mem_cons.1 hv with rfl | hv
      · exact h2
      · exact e3 v hv
    · intro j v hv
      cases j with
      | zero => simp at hv; subst hv; simpa using h1
      | succ j => rw [show o + (j + 1) = o + 1 + j by omega]; exact e4 j v (by simpa using hv)
theorem elsAt_get : ∀ (es : List (List AV)) (o i : Nat) {b sz : Nat}, elsAt S w b sz o es → i < es.length → (es.getD i []).length = sz ∧ cellsAt S w b (o + i * sz) (es.getD i [])
  | [], _, _, _, _, _, h => by simp at h
  | x :: r, o, 0, b, sz, h, _ => by
    simp only [elsAt] at h
    simpa using ⟨h.1, h.2.1⟩
  | x :: r, o, i + 1, b, sz, h, hi => by
    simp only [elsAt] at h
    have := elsAt_get r (o + sz) i h.2.2 (by simpa using hi)
    rw [show o + sz + i * sz = o + (i + 1) * sz by rw [Nat.add_mul]; omega] at this
    simpa using this
theorem elsAt_drop : ∀ (es : List (List AV)) (o i : Nat) {b sz : Nat}, elsAt S w b sz o es → elsAt S w b sz (o + i * sz) (es.drop i)
  | [], _, _, _, _, _ => by simp [elsAt]
  | x :: r, o, 0, b, sz, h => by simpa using h
  | x :: r, o, i + 1, b, sz, h => by
    simp only [elsAt] at h
    have := elsAt_drop r (o + sz) i h.2.2
    rw [show o + sz + i * sz = o + (i + 1) * sz by rw [Nat.add_mul]; omega] at this
    simpa using this
theorem elsAt_take : ∀ (es : List (List AV)) (o i : Nat) {b sz : Nat}, elsAt S w b sz o es → elsAt S w b sz o (es.take i)
  | [], _, _, _, _, _ => by simp [elsAt]
  | x :: r, o, 0, b, sz, h => by simp [elsAt]
  | x :: r, o, i + 1, b, sz, h => by
    simp only [elsAt, List.take_succ_cons] at h ⊢
    exact ⟨h.1, h.2.1, elsAt_take r _ i h.2.2⟩
theorem cellsAt_append : ∀ (xs ys : List AV) (o : Nat) {b : Nat}, cellsAt S w b o (xs ++ ys) ↔ cellsAt S w b o xs ∧ cellsAt S w b (o + xs.length) ys
  | [], ys, o, b => by simp [cellsAt]
  | x :: r, ys, o, b => by
    simp only [List.cons_append, cellsAt, cellsAt_append r ys (o + 1), List.length_cons, show o + 1 + r.length = o + (r.length + 1) by omega, and_assoc]
theorem elsAt_flat : ∀ (es : List (List AV)) (o : Nat) {b sz : Nat}, elsAt S w b sz o es → cellsAt S w b o es.flatten
  | [], _, _, _, _ => by simp [cellsAt]
  | x :: r, o, b, sz, h => by
    simp only [elsAt] at h
    rw [List.flatten_cons, cellsAt_append]
    refine ⟨h.2.1, ?_⟩
    rw [h.1]
    exact elsAt_flat r _ h.2.2
theorem elsAt_of_flat : ∀ (es : List (List AV)) (o : Nat) {b sz : Nat}, (∀ cs ∈ es, cs.length = sz) → cellsAt S w b o es.flatten → elsAt S w b sz o es
  | [], _, _, _, _, _ => by simp [elsAt]
  | x :: r, o, b, sz, hl, h => by
    rw [List.flatten_cons, cellsAt_append] at h
    have hx := hl x (by simp)
    rw [hx] at h
    simp only [elsAt]
    exact ⟨hx, h.1, elsAt_of_flat r _ (fun cs hc => hl cs (by simp [hc])) h.2⟩
theorem flat_len : ∀ (es : List (List AV)) {sz : Nat}, (∀ cs ∈ es, cs.length = sz) → es.flatten.length = es.length * sz
  | [], _, _ => by simp
  | x :: r, sz, hl => by
    rw [List.flatten_cons, List.length_append, hl x (by simp), flat_len r (fun cs hc => hl cs (by simp [hc])), List.length_cons, Nat.add_mul]
    omega
theorem repL_len : ∀ (x : List AV) (l : List Value), repL S w x l → l.length = x.length
  | [], l, h => by simp only [repL] at h; simp [h]
  | x :: r, l, h => by
    simp only [repL] at h
    obtain ⟨u, t, rfl, _, h2⟩ := h
    simp [repL_len r t h2]
theorem repL_get : ∀ (x : List AV) (l : List Value) (j : Nat), repL S w x l → j < x.length → ∃ u, l[j]? = some u ∧ rep S w (x.getD j .any) u
  | [], _, _, _, h => by simp at h
  | x :: r, l, j, h, hj => by
    simp only [repL] at h
    obtain ⟨u, t, rfl, h1, h2⟩ := h
    cases j with
    | zero => exact ⟨u, by simp, by simpa using h1⟩
    | succ j =>
      obtain ⟨v, hv, hr⟩ := repL_get r t j h2 (by simpa using hj)
      exact ⟨v, by simpa using hv, by simpa using hr⟩
theorem repL_append : ∀ (x y : List AV) (l m : List Value), repL S w x l → repL S w y m → repL S w (x ++ y) (l ++ m)
  | [], y, l, m, h, h' => by simp only [repL] at h; subst h; simpa using h'
  | x :: r, y, l, m, h, h' => by
    simp only [repL] at h
    obtain ⟨u, t, rfl, h1, h2⟩ := h
    simp only [List.cons_append, repL]
    exact ⟨u, t ++ m, rfl, h1, repL_append r y t m h2 h'⟩
theorem repL_drop : ∀ (x : List AV) (l : List Value) (j : Nat), repL S w x l → repL S w (x.drop j) (l.drop j)
  | [], l, j, h => by simp only [repL] at h; subst h; simp [repL]
  | x :: r, l, j, h => by
    cases j with
    | zero => simpa using h
    | succ j =>
      simp only [repL] at h
      obtain ⟨u, t, rfl, _, h2⟩ := h
      simpa using repL_drop r t j h2
theorem repL_take : ∀ (x : List AV) (l : List Value) (j : Nat), repL S w x l → repL S w (x.take j) (l.take j)
  | [], l, j, h => by simp only [repL] at h; subst h; simp [repL]
  | x :: r, l, j, h => by
    cases j with
    | zero => simp [repL]
    | succ j =>
      simp only [repL] at h
      obtain ⟨u, t, rfl, h1, h2⟩ := h
      simp only [List.take_succ_cons, repL]
      exact ⟨u, t.take j, rfl, h1, repL_take r t j h2⟩
theorem cellsAt_of_repL : ∀ (x : List AV) (l : List Value) (o : Nat) {b : Nat}, repL S w x l → (∀ u ∈ l, u.oneCell' = true) → (∀ j u, l[j]? = some u → w.cell? ⟨b, o + j, none⟩ = some u) → cellsAt S w b o x
  | [], _, _, _, _, _, _ => by simp [cellsAt]
  | x :: r, l, o, b, h, h1, hc => by
    simp only [repL] at h
    obtain ⟨u, t, rfl, hu, ht⟩ := h
    simp only [cellsAt]
    refine ⟨⟨u, by simpa using hc 0 u (by simp), h1 u (by simp), hu⟩, cellsAt_of_repL r t (o + 1) ht (fun v hv => h1 v (by simp [hv])) fun j v hv => ?_⟩
    rw [show o + 1 + j = o + (j + 1) by omega]
    exact hc (j + 1) v (by simpa using hv)
end
end Go.Aw
end

section
set_option linter.unusedSimpArgs false
set_option linter.unusedVariables false
namespace Go.Aw
open Go.RowKit
def ents (S : Sg) (w : World) : Nat → List (List AV) → List MapEntry → Prop
  | _, [], ms => ms = []
  | i, cs :: r, ms => ∃ m t, ms = m :: t ∧ m.born = i ∧ repL S w cs [m.key, m.val] ∧ ents S w (i + 1) r t
def SliceOK (S : Sg) (w : World) (k : Nat) (r : Row) : Prop := ∃ xs, w.ownsRow 0 r.e r.sz (S.loc k) r.es.length xs ∧ repL S w r.es.flatten xs ∧ ∀ u ∈ xs, u.oneCell' = true
def MapOK (S : Sg) (w : World) (k : Nat) (r : Row) : Prop := ∃ g ms, S.loc k = .map (some g) ∧ w.heap[g]? = some (.map (List.toArray ms) ms.length) ∧ ents S w 0 r.es ms ∧ r.sz = 2
theorem blk_sl (a : Option Addr) (n c : Nat) : blk (.slice a n c) = (Value.slice a n c).ownBlock := by cases a <;> rfl
structure RowOK (S : Sg) (w : World) (k : Nat) (r : Row) : Prop where
  lt : k < S.N
  sz : r.sz = S.sz k
  pos : 0 < r.sz
  len : ∀ cs ∈ r.es, cs.length = r.sz
  own : SliceOK S w k r ∨ MapOK S w k r
def Rows' (S : Sg) (w : World) (H : Heap) : Prop := ∀ k r, H k = some r → RowOK S w k r
theorem RowOK.sl {S : Sg} {w : World} {k : Nat} {r : Row} (h : RowOK S w k r) {a : Option Addr} {n c : Nat} (hs : S.loc k = .slice a n c) : SliceOK S w k r := by
  rcases h.own with h1 | ⟨g, ms, h1, _⟩
  · exact h1
  · rw [hs] at h1; cases h1
theorem RowOK.mp {S : Sg} {w : World} {k : Nat} {r : Row} (h : RowOK S w k r) {g : Nat} (hs : S.loc k = .map (some g)) : MapOK S w k r := by
  rcases h.own with ⟨xs, ho, _⟩ | h1
  · rcases ho.2 with ⟨hv, _⟩ | ⟨_, _, _, hv, _⟩ <;> (rw [hs] at hv; cases hv)
  · exact h1
structure Agree (S : Sg) (H : Heap) (w w' : World) : Prop where
  kept : Kept S w w'
  own : ∀ k r, H k = some r → ∀ g, blk (S.loc k) = some g → w'.heap[g]? = w.heap[g]?
theorem Agree.refl (S : Sg) (H : Heap) (w : World) : Agree S H w w := ⟨Kept.refl S w, fun _ _ _ _ _ => rfl⟩
def Does (P : Program) (S : Sg) (H : Heap) (w : World) (z : AV) (e : Sem Value) : Prop :=
  ∃ v, rep S w z v ∧ ∀ w', Agree S H w w' → e.run P w' = .ok v w'
section
variable {P : Program} {S : Sg} {H : Heap} {w : World} {G : Option Bool} {K : AV → Prop}
theorem rep_v {x : Value} : rep S w (.v x) x := by simp only [rep]
theorem underlying_of_ld {t : TypeId} {l : Option Nat} (h : ldT P t = some l) : ∃ d, P.underlying t = some d ∧
    match l with
    | none => (∀ fs, d ≠ .struct fs) ∧ ∀ n e, d ≠ .array n e
    | some n => ((∃ fs, d = .struct fs) ∨ ∃ m e, d = .array m e) ∧ ∃ i, P.info? t = some i ∧ i.size = n := by
  unfold ldT at h
  cases hu : P.underlying t with
  | none => rw [hu] at h; simp at h
  | some d =>
    refine ⟨d, rfl, ?_⟩
    rw [hu] at h
    cases hi : P.info? t with
    | none => rw [hi] at h; cases d <;> simp at h
    | some i =>
      rw [hi] at h
      cases d <;> simp at h <;> subst h <;> simp
theorem run_isAgg_ld {t : TypeId} {l : Option Nat} (h : ldT P t = some l) (w : World) : (isAgg t).run P w = .ok l.isSome w := by
  obtain ⟨d, hu, hd⟩ := underlying_of_ld h
  cases l with
  | none =>
    obtain ⟨h1, h2⟩ := hd
    simp only [isAgg, Sem.run_bind, run_underlying hu, Result.andThen]
    cases d <;> simp_all
  | some n =>
    obtain ⟨h1, _⟩ := hd
    simp only [isAgg, Sem.run_bind, run_underlying hu, Result.andThen]
    rcases h1 with ⟨fs, rfl⟩ | ⟨m, e, rfl⟩ <;> simp
theorem run_sizeOf_ld {t : TypeId} {n : Nat} (h : ldT P t = some (some n)) (w : World) : (sizeOf t).run P w = .ok n w := by
  obtain ⟨d, hu, hd⟩ := underlying_of_ld h
  obtain ⟨_, i, hi, rfl⟩ := hd
  simp [sizeOf, typeInfo, hi]
theorem run_loadVar_one {t : TypeId} (h : ldT P t = some none) {a : Addr} {v : Value} (hc : w.cell? a = some v) : (loadVar t a).run P w = .ok v w := by
  simp [loadVar, run_isAgg_ld h, hc]
theorem run_loadVar_many {t : TypeId} {l : List Value} (h : ldT P t = some (some l.length)) {b o : Nat} (hc : ∀ j v, l[j]? = some v → w.cell? ⟨b, o + j, none⟩ = some v) :
    (loadVar t ⟨b, o, none⟩).run P w = .ok (.agg l.toArray) w := by
  have := run_loadCells_list (P := P) w ⟨b, o, none⟩ l (fun j v hj => by rw [Addr.add_lit]; exact hc j v hj)
  simp [loadVar, run_isAgg_ld h, run_sizeOf_ld h, this]
theorem RowOK.cells {k : Nat} {r : Row} (h : RowOK S w k r) {a0 : Option Addr} {n0 c0 : Nat} (hs : S.loc k = .slice a0 n0 c0) (hne : r.es ≠ []) : ∃ g n c, S.loc k = .slice (some ⟨g, 0, none⟩) n c ∧ cellsAt S w g 0 r.es.flatten ∧ n = r.es.length := by
  obtain ⟨xs, ho, hr, h1⟩ := h.sl hs
  rcases ho.2 with ⟨_, hn⟩ | ⟨g, cap, cur, hv, _⟩
  · exact absurd (List.eq_nil_of_length_eq_zero hn) hne
  · refine ⟨g, _, cap, hv, ?_, rfl⟩
    refine cellsAt_of_repL _ xs 0 hr h1 fun j u hu => ?_
    have := ho.cells (g := g) (by rw [hv]; rfl) j u hu
    rwa [Addr.add_lit] at this
theorem RowOK.els {k : Nat} {r : Row} (h : RowOK S w k r) {a0 : Option Addr} {n0 c0 : Nat} (hs : S.loc k = .slice a0 n0 c0) (hne : r.es ≠ []) : ∃ g n c, S.loc k = .slice (some ⟨g, 0, none⟩) n c ∧ elsAt S w g r.sz 0 r.es ∧ n = r.es.length := by
  obtain ⟨g, n, c, h1, h2, h3⟩ := h.cells hs hne
  exact ⟨g, n, c, h1, elsAt_of_flat _ _ h.len h2, h3⟩
theorem Agree.cell {w' : World} (ha : Agree S H w w') {b o : Nat} {u : Value} (hb : S.ro b) (h : w.cell? ⟨b, o, none⟩ = some u) : w'.cell? ⟨b, o, none⟩ = some u := (ha.kept.cell hb).trans h
theorem Agree.cellOwn {w' : World} (ha : Agree S H w w') {k g n c o : Nat} {r : Row} {u : Value} (hk : H k = some r) (hl : S.loc k = .slice (some ⟨g, 0, none⟩) n c) (h : w.cell? ⟨g, o, none⟩ = some u) : w'.cell? ⟨g, o, none⟩ = some u := by
  have := ha.own k r hk g (by rw [hl]; rfl)
  exact (World.cell?_of_block (a := ⟨g, o, none⟩) this).trans h
theorem aload_sound {t : TypeId} {l : Option Nat} {x : AV} (hl : ldT P t = some l) (hH : Rows' S w H) (h : aload G H l x K) :
    ∃ z, K z ∧ (gt G → ∀ u, rep S w x u → Does P S H w z (Instr.loadAt t u)) := by
  unfold aload at h
  split at h
  · rename_i cs off
    cases l with
    | none =>
      refine ⟨_, h.2, fun hg u hu => ?_⟩
      simp only [rep] at hu
      obtain ⟨b, o, rfl, hb, hc⟩ := hu
      obtain ⟨v, h1, _, h3⟩ := cellsAt_get cs o off hc (h.1 hg)
      refine ⟨v, h3, fun w' ha => ?_⟩
      simp [Instr.loadAt, Instr.sureAddr, run_loadVar_one hl (ha.cell hb h1)]
    | some n =>
      refine ⟨_, h.2, fun hg u hu => ?_⟩
      simp only [rep] at hu
      obtain ⟨b, o, rfl, hb, hc⟩ := hu
      obtain ⟨l, e1, e2, e3, e4⟩ := cellsAt_vals _ _ (cellsAt_take _ _ n (cellsAt_drop cs o off hc))
      have hlen := h.1 hg
      have hn : l.length = n := by rw [e1]; simp; omega
      refine ⟨.agg l.toArray, by simp only [rep]; exact ⟨l, rfl, e2, e3⟩, fun w' ha => ?_⟩
      rw [← hn] at hl
      simp [Instr.loadAt, Instr.sureAddr, run_loadVar_many hl (fun j v hj => ha.cell hb (e4 j v hj))]
  · rename_i k i f
    split at h
    · rename_i r hk
      have hr := hH k r hk
      cases l with
      | none =>
        refine ⟨_, h.2, fun hg u hu => ?_⟩
        simp only [rep] at hu
        obtain ⟨_, g, n, c, hloc, rfl⟩ := hu
        obtain ⟨hi, hf⟩ := h.1 hg
        have hne : r.es ≠ [] := fun e => by rw [e] at hi; simp at hi
        obtain ⟨g', n', c', hloc', he, _⟩ := hr.els hloc hne
        rw [hloc] at hloc'
        injection hloc' with e1 e2 e3
        injection e1 with e1
        injection e1 with e1
        subst e1
        obtain ⟨e4, e5⟩ := elsAt_get _ 0 i he hi
        obtain ⟨v, h1, _, h3⟩ := cellsAt_get _ _ f e5 (by rw [e4]; exact hf)
        refine ⟨v, h3, fun w' ha => ?_⟩
        rw [← hr.sz]
        rw [Nat.zero_add] at h1
        simp [Instr.loadAt, Instr.sureAddr, run_loadVar_one hl (ha.cellOwn hk hloc h1)]
      | some m =>
        refine ⟨_, h.2, fun hg u hu => ?_⟩
        simp only [rep] at hu
        obtain ⟨_, g, n, c, hloc, rfl⟩ := hu
        obtain ⟨hi, hf⟩ := h.1 hg
        have hne : r.es ≠ [] := fun e => by rw [e] at hi; simp at hi
        obtain ⟨g', n', c', hloc', he, _⟩ := hr.els hloc hne
        rw [hloc] at hloc'
        injection hloc' with e1 e2 e3
        injection e1 with e1
        injection e1 with e1
        subst e1
        obtain ⟨e4, e5⟩ := elsAt_get _ 0 i he hi
        obtain ⟨l, e1, e2, e3, e6⟩ := cellsAt_vals _ _ (cellsAt_take _ _ m (cellsAt_drop _ _ f e5))
        have hn : l.length = m := by rw [e1, List.length_take, List.length_drop, e4]; omega
        refine ⟨.agg l.toArray, by simp only [rep]; exact ⟨l, rfl, e2, e3⟩, fun w' ha => ?_⟩
        rw [← hn] at hl
        rw [← hr.sz]
        rw [Nat.zero_add] at e6
        simp [Instr.loadAt, Instr.sureAddr, run_loadVar_many hl (fun j v hj => ha.cellOwn hk hloc (e6 j v hj))]
    · exact h.elim
  · exact h.elim
theorem run_part_one {t : TypeId} (h : ldT P t = some none) {l : List Value} {o : Nat} {u : Value} (hu : l[o]? = some u) : (part t l.toArray o).run P w = .ok u w := by
  simp [part, run_isAgg_ld h, hu]
theorem run_part_many {t : TypeId} {n : Nat} (h : ldT P t = some (some n)) {l : List Value} {o : Nat} : (part t l.toArray o).run P w = .ok (.agg ((l.drop o).take n).toArray) w := by
  simp [part, run_isAgg_ld h, run_sizeOf_ld h, List.extract_eq_take_drop]
theorem apart_sound {t : TypeId} {l : Option Nat} {x : AV} {off : Nat} (hl : ldT P t = some l) (h : apart G off l x K) :
    ∃ z, K z ∧ (gt G → ∀ u, rep S w x u → ∃ cs : Array Value, u = .agg cs ∧ Does P S H w z (part t cs off)) := by
  unfold apart at h
  split at h
  · rename_i cs
    cases l with
    | none =>
      refine ⟨_, h.2, fun hg u hu => ?_⟩
      simp only [rep] at hu
      obtain ⟨l, rfl, h1, _⟩ := hu
      obtain ⟨v, e1, e2⟩ := repL_get cs l off h1 (h.1 hg)
      exact ⟨_, rfl, v, e2, fun w' _ => run_part_one hl e1⟩
    | some n =>
      refine ⟨_, h.2, fun hg u hu => ?_⟩
      simp only [rep] at hu
      obtain ⟨l, rfl, h1, h2⟩ := hu
      refine ⟨_, rfl, _, ?_, fun w' _ => run_part_many hl⟩
      simp only [rep]
      exact ⟨_, rfl, repL_take _ _ n (repL_drop _ _ off h1), fun u hu => h2 u (List.mem_of_mem_drop (List.mem_of_mem_take hu))⟩
  · exact h.elim
theorem fieldOff_spec {t : TypeId} {f o : Nat} {l : Option Nat} (h : fieldOff P t f = some (o, l)) :
    ∃ fs fd i, P.underlying t = some (.struct fs) ∧ fs[f]? = some fd ∧ fd.offset = o ∧ P.info? fd.type = some i ∧ i.size ≠ 0 ∧ ldT P fd.type = some l := by
  unfold fieldOff at h
  cases hu : P.underlying t with
  | none => simp [hu] at h
  | some d =>
    cases d <;> simp only [hu] at h <;> try (simp at h; done)
    rename_i fs
    cases hf : fs[f]? with
    | none => simp [hf] at h
    | some fd =>
      simp only [hf] at h
      cases hi : P.info? fd.type with
      | none => simp [hi] at h
      | some i =>
        simp only [hi] at h
        split at h
        · simp at h
        · rename_i hz
          cases hl : ldT P fd.type with
          | none => simp [hl] at h
          | some l' =>
            simp [hl] at h
            obtain ⟨rfl, rfl⟩ := h
            exact ⟨fs, fd, i, rfl, hf, rfl, hi, hz, hl⟩
theorem run_fieldAt {t : TypeId} {f o : Nat} {l : Option Nat} (h : fieldOff P t f = some (o, l)) (b p : Nat) (w : World) :
    (Instr.fieldAt t (.pointer (some ⟨b, p, none⟩)) f).run P w = .ok (.pointer (some ⟨b, p + o, none⟩)) w := by
  obtain ⟨fs, fd, i, hu, hf, rfl, hi, hz, _⟩ := fieldOff_spec h
  simp [Instr.fieldAt, run_underlying hu, hf, Instr.sureAddr, fieldPlace, sizeOf, typeInfo, hi, hz, Addr.add_lit]
theorem afieldAddr_sound {t : TypeId} {f : Nat} {x : AV} (h : afieldAddr P t f x K) :
    ∃ z, K z ∧ (gt G → ∀ u, rep S w x u → Does P S H w z (Instr.fieldAt t u f)) := by
  unfold afieldAddr at h
  split at h
  · rename_i cs off
    split at h
    · rename_i o l ho
      refine ⟨_, h, fun _ u hu => ?_⟩
      simp only [rep] at hu
      obtain ⟨b, p, rfl, hb, hc⟩ := hu
      refine ⟨_, ?_, fun w' _ => run_fieldAt ho b (p + off) w'⟩
      simp only [rep]
      exact ⟨b, p, by rw [Nat.add_assoc], hb, hc⟩
    · exact h.elim
  · rename_i k i g
    split at h
    · rename_i o l ho
      refine ⟨_, h, fun _ u hu => ?_⟩
      simp only [rep] at hu
      obtain ⟨h1, b, n, c, h2, rfl⟩ := hu
      refine ⟨_, ?_, fun w' _ => run_fieldAt ho b _ w'⟩
      simp only [rep]
      exact ⟨h1, b, n, c, h2, by rw [Nat.add_assoc]⟩
    · exact h.elim
  · exact h.elim
theorem elemT_spec {t : TypeId} {e sz bytes : Nat} (h : elemT P t = some (e, sz, bytes)) :
    ∃ i z, P.underlying t = some (.slice e) ∧ P.info? e = some i ∧ i.size = sz ∧ i.bytes = bytes ∧ 0 < sz ∧ 0 < bytes ∧ i.zero = some z ∧ z.cells.size = sz := by
  unfold elemT at h
  cases hu : P.underlying t with
  | none => simp [hu] at h
  | some d =>
    cases d <;> simp only [hu] at h <;> try (simp at h; done)
    rename_i e'
    cases hi : P.info? e' with
    | none => simp [hi] at h
    | some i =>
      simp only [hi] at h
      split at h
      · simp at h
      · rename_i hc
        simp at h
        obtain ⟨rfl, rfl, rfl⟩ := h
        simp only [not_or, ne_eq, Decidable.not_not] at hc
        obtain ⟨h1, h2, h3⟩ := hc
        cases hz : i.zero with
        | none => simp [hz] at h3
        | some z =>
          simp [hz] at h3
          exact ⟨i, z, rfl, hi, rfl, rfl, by omega, by omega, hz, h3⟩
theorem arrT_spec {t : TypeId} {n s : Nat} {l : Option Nat} (h : arrT P t = some (n, s, l)) :
    ∃ e i, P.underlying t = some (.array n e) ∧ P.info? e = some i ∧ i.size = s ∧ s ≠ 0 ∧ ldT P e = some l := by
  unfold arrT at h
  cases hu : P.underlying t with
  | none => simp [hu] at h
  | some d =>
    cases d <;> simp only [hu] at h <;> try (simp at h; done)
    rename_i m e
    cases hi : P.info? e with
    | none => simp [hi] at h
    | some i =>
      simp only [hi] at h
      split at h
      · simp at h
      · rename_i hz
        cases hl : ldT P e with
        | none => simp [hl] at h
        | some l' =>
          simp [hl] at h
          obtain ⟨rfl, rfl, rfl⟩ := h
          exact ⟨e, i, rfl, hi, rfl, hz, hl⟩
theorem run_indexAt_sl {t : TypeId} {e sz bytes : Nat} (h : elemT P t = some (e, sz, bytes)) (b o len cap : Nat) (k : IntKind) (i : Int) (h0 : 0 ≤ i) (h1 : i < len) (w : World) :
    (Instr.indexAt t (.slice (some ⟨b, o, none⟩) len cap) (.int k i)).run P w = .ok (.pointer (some ⟨b, o + i.toNat * sz, none⟩)) w := by
  obtain ⟨inf, z, hu, hi, rfl, _⟩ := elemT_spec h
  simp [Instr.indexAt, run_underlying hu, asIntOf, h0, h1, sizeOf, typeInfo, hi, Addr.add_lit]
theorem run_indexAt_arr {t : TypeId} {n s : Nat} {l : Option Nat} (h : arrT P t = some (n, s, l)) (b o : Nat) (k : IntKind) (i : Int) (h0 : 0 ≤ i) (h1 : i < n) (w : World) :
    (Instr.indexAt t (.pointer (some ⟨b, o, none⟩)) (.int k i)).run P w = .ok (.pointer (some ⟨b, o + i.toNat * s, none⟩)) w := by
  obtain ⟨e, inf, hu, hi, rfl, _⟩ := arrT_spec h
  simp [Instr.indexAt, run_underlying hu, asIntOf, h0, h1, Instr.sureAddr, sizeOf, typeInfo, hi, Addr.add_lit]
theorem aindexAddr_sound {t : TypeId} {x i : AV} (hH : Rows' S w H) (h : aindexAddr P G H t x i K) :
    ∃ z, K z ∧ (gt G → ∀ u v, rep S w x u → rep S w i v → Does P S H w z (Instr.indexAt t u v)) := by
  unfold aindexAddr at h
  split at h
  · rename_i es k n
    split at h
    · rename_i e sz bytes he
      refine ⟨_, h.2, fun hg u v hu hv => ?_⟩
      obtain ⟨⟨h0, h1⟩, h2⟩ := h.1 hg
      simp only [rep] at hu hv
      subst hv
      obtain ⟨ad, m, c, rfl, e1, _, _, e2⟩ := hu
      rcases e2 with rfl | ⟨b, o, sz', rfl, hb, _, hels⟩
      · simp at h1; omega
      · have hlt : n.toNat < es.length := by omega
        obtain ⟨e3, e4⟩ := elsAt_get es o n.toNat hels hlt
        have hsz : sz' = sz := by rw [← e3, h2]
        subst hsz
        refine ⟨_, ?_, fun w' _ => run_indexAt_sl he b o m c k n h0 (by omega) w'⟩
        simp only [rep]
        exact ⟨b, _, by rw [Nat.add_zero], hb, e4⟩
    · exact h.elim
  · rename_i k ik n
    split at h
    · rename_i r e sz bytes hk he
      refine ⟨_, h.2, fun hg u v hu hv => ?_⟩
      obtain ⟨⟨h0, h1⟩, h2⟩ := h.1 hg
      have hr := hH k r hk
      have hne : r.es ≠ [] := fun e => by rw [e] at h1; simp at h1; omega
      simp only [rep] at hu hv
      subst hv
      obtain ⟨hlt, rfl, _, _, _, hloc0⟩ := hu
      obtain ⟨g, m, c, hloc, _, hm⟩ := hr.els hloc0 hne
      rw [hloc]
      refine ⟨_, ?_, fun w' _ => run_indexAt_sl he g 0 m c ik n h0 (by omega) w'⟩
      simp only [rep]
      exact ⟨hlt, g, m, c, hloc, by rw [← hr.sz, h2]; simp⟩
    · exact h.elim
  · rename_i k a b ik n
    split at h
    · rename_i r e sz bytes hk he
      refine ⟨_, h.2, fun hg u v hu hv => ?_⟩
      obtain ⟨⟨h0, h1⟩, h2⟩ := h.1 hg
      have hr := hH k r hk
      simp only [rep] at hu hv
      subst hv
      obtain ⟨hlt, ad, m, c, ad', cc, hloc, rfl, hab, hbn, hpos, _, hnc, _⟩ := hu
      obtain ⟨g, rfl, rfl⟩ := hpos (by omega)
      refine ⟨_, ?_, fun w' _ => run_indexAt_sl he g (a * S.sz k) (b - a) cc ik n h0 (by omega) w'⟩
      simp only [rep]
      exact ⟨hlt, g, m, c, hloc, by rw [← h2, hr.sz, Nat.add_mul, Nat.add_zero]⟩
    · exact h.elim
  · rename_i cs off k n
    split at h
    · rename_i m s l ha
      refine ⟨_, h.2, fun hg u v hu hv => ?_⟩
      obtain ⟨h0, h1⟩ := h.1 hg
      simp only [rep] at hu hv
      subst hv
      obtain ⟨b, o, rfl, hb, hc⟩ := hu
      refine ⟨_, ?_, fun w' _ => run_indexAt_arr ha b (o + off) k n h0 h1 w'⟩
      simp only [rep]
      exact ⟨b, o, by rw [Nat.add_assoc], hb, hc⟩
    · exact h.elim
  · rename_i k j f ik n
    split at h
    · rename_i m s l ha
      refine ⟨_, h.2, fun hg u v hu hv => ?_⟩
      obtain ⟨h0, h1⟩ := h.1 hg
      simp only [rep] at hu hv
      subst hv
      obtain ⟨hlt, g, n', c, hloc, rfl⟩ := hu
      refine ⟨_, ?_, fun w' _ => run_indexAt_arr ha g _ ik n h0 h1 w'⟩
      simp only [rep]
      exact ⟨hlt, g, n', c, hloc, by rw [Nat.add_assoc]⟩
    · exact h.elim
  · exact h.elim
theorem sliceT_spec {t : TypeId} (h : isSliceT P t = true) : ∃ e, P.underlying t = some (.slice e) := by
  unfold isSliceT at h
  split at h
  · rename_i e he; exact ⟨e, he⟩
  · simp at h
theorem stringT_spec {t : TypeId} (h : isStringT P t = true) : P.underlying t = some .string := by
  unfold isStringT at h
  split at h
  · rename_i he; exact he
  · simp at h
theorem ptrT_spec {t : TypeId} (h : isPtrT P t = true) : ∃ e, P.underlying t = some (.pointer e) := by
  unfold isPtrT at h
  split at h
  · rename_i e he; exact ⟨e, he⟩
  · simp at h
theorem boolT_spec {t : TypeId} (h : isBoolT P t = true) : P.underlying t = some .bool := by
  unfold isBoolT at h
  split at h
  · rename_i he; exact he
  · simp at h
theorem alen_sound {t ty : TypeId} {x : AV} (hH : Rows' S w H) (h : alen P H t x K) :
    ∃ z, K z ∧ (gt G → ∀ u, rep S w x u → Does P S H w z (Builtin.len_ #[t] ty #[u])) := by
  unfold alen at h
  split at h
  · rename_i es
    split at h
    · rename_i hs
      obtain ⟨e, he⟩ := sliceT_spec hs
      refine ⟨_, h, fun _ u hu => ?_⟩
      simp only [rep] at hu
      obtain ⟨ad, m, c, rfl, e1, _⟩ := hu
      refine ⟨_, rep_v, fun w' _ => ?_⟩
      simp [Builtin.len_, run_underlying he, goInt, e1]
    · exact h.elim
  · rename_i k
    split at h
    · rename_i r hk
      split at h
      · rename_i hs
        obtain ⟨e, he⟩ := sliceT_spec hs
        refine ⟨_, h, fun _ u hu => ?_⟩
        simp only [rep] at hu
        obtain ⟨_, rfl, _, _, _, hloc0⟩ := hu
        obtain ⟨xs, ho, _⟩ := (hH k r hk).sl hloc0
        refine ⟨_, rep_v, fun w' _ => ?_⟩
        rcases ho.2 with ⟨hv, hn⟩ | ⟨g, cap, cur, hv, _⟩
        · simp [Builtin.len_, run_underlying he, goInt, hv, hn]
        · simp [Builtin.len_, run_underlying he, goInt, hv]
      · exact h.elim
    · exact h.elim
  · split at h
    · rename_i hs
      obtain ⟨e, he⟩ := sliceT_spec hs
      refine ⟨_, h, fun _ u hu => ?_⟩
      simp only [rep] at hu
      obtain ⟨_, ad, n, c, ad', cc, _, rfl, _⟩ := hu
      refine ⟨_, rep_v, fun w' _ => ?_⟩
      simp [Builtin.len_, run_underlying he, goInt]
    · exact h.elim
  · rename_i s
    split at h
    · rename_i hs
      refine ⟨_, h, fun _ u hu => ?_⟩
      simp only [rep] at hu
      subst hu
      refine ⟨_, rep_v, fun w' _ => ?_⟩
      simp [Builtin.len_, run_underlying (stringT_spec hs), goInt]
    · exact h.elim
  · exact h.elim
theorem amax_sound {x y : AV} {tys : Array TypeId} {ty : TypeId} (h : amax x y K) :
    ∃ z, K z ∧ (gt G → ∀ u v, rep S w x u → rep S w y v → Does P S H w z (Builtin.max_ tys ty #[u, v])) := by
  unfold amax at h
  split at h
  · refine ⟨_, h, fun _ u v hu hv => ?_⟩
    simp only [rep] at hu hv
    subst hu
    subst hv
    exact ⟨_, rep_v, fun w' _ => by simp [Builtin.max_, Builtin.max2, imax]⟩
  · exact h.elim
theorem amin_sound {x y : AV} {tys : Array TypeId} {ty : TypeId} (h : amin x y K) :
    ∃ z, K z ∧ (gt G → ∀ u v, rep S w x u → rep S w y v → Does P S H w z (Builtin.min_ tys ty #[u, v])) := by
  unfold amin at h
  split at h
  · refine ⟨_, h, fun _ u v hu hv => ?_⟩
    simp only [rep] at hu hv
    subst hu
    subst hv
    exact ⟨_, rep_v, fun w' _ => by simp [Builtin.min_, Builtin.min2, imin]⟩
  · exact h.elim
end
end Go.Aw
end
