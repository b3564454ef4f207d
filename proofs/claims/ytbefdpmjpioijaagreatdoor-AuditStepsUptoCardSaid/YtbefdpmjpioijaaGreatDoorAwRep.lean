/- AW: what an abstract value says of a value in a world; how that is kept. -/
import Derived.Test.YtbefdpmjpioijaaGreatDoorAwCore
set_option linter.unusedSimpArgs false
set_option linter.unusedVariables false
namespace Go.Aw
open Go.RowKit

/-- ro: blocks that a reading may lean on; fz: blocks that stay as they are; loc: where own row k lies; sz: its element's cells; N: keys below N are in use -/
structure Sg where
  ro : Nat → Prop
  fz : Nat → Prop
  loc : Nat → Value
  sz : Nat → Nat
  N : Nat

mutual
def rep (S : Sg) (w : World) : AV → Value → Prop
  | .v x, y => y = x
  | .any, _ => True
  | .sl es, y => ∃ ad n c, y = .slice ad n c ∧ es.length = n ∧ n ≤ c ∧ c ≤ maxLen ∧ (es = [] ∨ ∃ b o sz, ad = some ⟨b, o, none⟩ ∧ S.ro b ∧ 0 < sz ∧ elsAt S w b sz o es)
  | .rp cs off, y => ∃ b o, y = .pointer (some ⟨b, o + off, none⟩) ∧ S.ro b ∧ cellsAt S w b o cs
  | .agg cs, y => ∃ l : List Value, y = .agg l.toArray ∧ repL S w cs l ∧ ∀ u ∈ l, u.oneCell' = true
  | .tup vs, y => ∃ l : List Value, y = .tuple l.toArray ∧ repL S w vs l
  | .os k, y => k < S.N ∧ y = S.loc k ∧ ∃ a n c, y = .slice a n c
  | .op k i f, y => k < S.N ∧ ∃ g n c, S.loc k = .slice (some ⟨g, 0, none⟩) n c ∧ y = .pointer (some ⟨g, i * S.sz k + f, none⟩)
  | .gd g x, y => (g = true → rep S w x y) ∧ (g = false → y = undef)
  | .nf x, y => rep S w x y
  | .fn f cap, y => ∃ l : List Value, y = .func (.func f) #[] l.toArray ∧ repL S w cap l
  | .om k, y => k < S.N ∧ y = S.loc k ∧ ∃ g, y = .map (some g)
  | .oz k a b, y => k < S.N ∧ ∃ ad n c ad' cc, S.loc k = .slice ad n c ∧ y = .slice ad' (b - a) cc ∧ a ≤ b ∧ b ≤ n ∧ (a < b → ∃ g, ad = some ⟨g, 0, none⟩ ∧ ad' = some ⟨g, a * S.sz k, none⟩)
def repL (S : Sg) (w : World) : List AV → List Value → Prop
  | [], l => l = []
  | x :: r, l => ∃ u t, l = u :: t ∧ rep S w x u ∧ repL S w r t
def cellsAt (S : Sg) (w : World) (b : Nat) : Nat → List AV → Prop
  | _, [] => True
  | o, x :: r => (∃ u, w.cell? ⟨b, o, none⟩ = some u ∧ u.oneCell' = true ∧ rep S w x u) ∧ cellsAt S w b (o + 1) r
def elsAt (S : Sg) (w : World) (b sz : Nat) : Nat → List (List AV) → Prop
  | _, [] => True
  | o, cs :: r => cs.length = sz ∧ cellsAt S w b o cs ∧ elsAt S w b sz (o + sz) r
end

structure Sg.le (S S' : Sg) : Prop where
  ro : ∀ k, S.ro k → S'.ro k
  N : S.N ≤ S'.N
  loc : ∀ k, k < S.N → S'.loc k = S.loc k
  sz : ∀ k, k < S.N → S'.sz k = S.sz k
theorem Sg.le_refl (S : Sg) : S.le S := ⟨fun _ h => h, Nat.le_refl _, fun _ _ => rfl, fun _ _ => rfl⟩
theorem Sg.le_trans {S S' S'' : Sg} (h : S.le S') (h' : S'.le S'') : S.le S'' :=
  ⟨fun k hk => h'.ro k (h.ro k hk), Nat.le_trans h.N h'.N, fun k hk => (h'.loc k (Nat.lt_of_lt_of_le hk h.N)).trans (h.loc k hk),
    fun k hk => (h'.sz k (Nat.lt_of_lt_of_le hk h.N)).trans (h.sz k hk)⟩

/-- a row's block -/
def blk : Value → Option Nat
  | .slice (some a) _ _ => some a.block
  | .map (some g) => some g
  | _ => none
/-- the world's blocks that S leans on are as they were -/
def Kept (S : Sg) (w w' : World) : Prop := ∀ k, S.ro k → w'.heap[k]? = w.heap[k]?
theorem Kept.refl (S : Sg) (w : World) : Kept S w w := fun _ _ => rfl

section
variable {S S' : Sg} {w w' : World}
theorem Kept.cell (h : Kept S w w') {b o : Nat} (hb : S.ro b) : w'.cell? ⟨b, o, none⟩ = w.cell? ⟨b, o, none⟩ := World.cell?_of_block (a := ⟨b, o, none⟩) (h b hb)

mutual
theorem rep_mono (hS : S.le S') (hw : Kept S w w') : ∀ (x : AV) (y : Value), rep S w x y → rep S' w' x y
  | .v _, _, h => h
  | .any, _, _ => trivial
  | .sl es, y, h => by
    simp only [rep] at h ⊢
    obtain ⟨ad, n, c, rfl, h1, h2, h3, h4⟩ := h
    refine ⟨ad, n, c, rfl, h1, h2, h3, ?_⟩
    rcases h4 with h4 | ⟨b, o, sz, rfl, hb, hs, he⟩
    · exact .inl h4
    · exact .inr ⟨b, o, sz, rfl, hS.ro b hb, hs, elsAt_mono hS hw hb sz o es he⟩
  | .rp cs off, y, h => by
    simp only [rep] at h ⊢
    obtain ⟨b, o, rfl, hb, hc⟩ := h
    exact ⟨b, o, rfl, hS.ro b hb, cellsAt_mono hS hw hb o cs hc⟩
  | .agg cs, y, h => by
    simp only [rep] at h ⊢
    obtain ⟨l, rfl, hl, h1⟩ := h
    exact ⟨l, rfl, repL_mono hS hw cs l hl, h1⟩
  | .tup vs, y, h => by
    simp only [rep] at h ⊢
    obtain ⟨l, rfl, hl⟩ := h
    exact ⟨l, rfl, repL_mono hS hw vs l hl⟩
  | .os k, y, h => by
    simp only [rep] at h ⊢
    exact ⟨Nat.lt_of_lt_of_le h.1 hS.N, by rw [hS.loc k h.1]; exact h.2⟩
  | .op k i f, y, h => by
    simp only [rep] at h ⊢
    refine ⟨Nat.lt_of_lt_of_le h.1 hS.N, ?_⟩
    rw [hS.loc k h.1, hS.sz k h.1]
    exact h.2
  | .gd g x, y, h => by
    simp only [rep] at h ⊢
    exact ⟨fun hg => rep_mono hS hw x y (h.1 hg), h.2⟩
  | .nf x, y, h => by
    simp only [rep] at h ⊢
    exact rep_mono hS hw x y h
  | .fn f cap, y, h => by
    simp only [rep] at h ⊢
    obtain ⟨l, rfl, hl⟩ := h
    exact ⟨l, rfl, repL_mono hS hw cap l hl⟩
  | .om k, y, h => by
    simp only [rep] at h ⊢
    exact ⟨Nat.lt_of_lt_of_le h.1 hS.N, by rw [hS.loc k h.1]; exact h.2⟩
  | .oz k a b, y, h => by
    simp only [rep] at h ⊢
    refine ⟨Nat.lt_of_lt_of_le h.1 hS.N, ?_⟩
    rw [hS.loc k h.1, hS.sz k h.1]
    exact h.2
theorem repL_mono (hS : S.le S') (hw : Kept S w w') : ∀ (x : List AV) (l : List Value), repL S w x l → repL S' w' x l
  | [], _, h => h
  | x :: r, l, h => by
    simp only [repL] at h ⊢
    obtain ⟨u, t, rfl, h1, h2⟩ := h
    exact ⟨u, t, rfl, rep_mono hS hw x u h1, repL_mono hS hw r t h2⟩
theorem cellsAt_mono (hS : S.le S') (hw : Kept S w w') {b : Nat} (hb : S.ro b) : ∀ (o : Nat) (x : List AV), cellsAt S w b o x → cellsAt S' w' b o x
  | _, [], _ => trivial
  | o, x :: r, h => by
    simp only [cellsAt] at h ⊢
    obtain ⟨⟨u, h1, h2, h3⟩, h4⟩ := h
    exact ⟨⟨u, by rw [hw.cell hb]; exact h1, h2, rep_mono hS hw x u h3⟩, cellsAt_mono hS hw hb (o + 1) r h4⟩
theorem elsAt_mono (hS : S.le S') (hw : Kept S w w') {b : Nat} (hb : S.ro b) (sz : Nat) : ∀ (o : Nat) (x : List (List AV)), elsAt S w b sz o x → elsAt S' w' b sz o x
  | _, [], _ => trivial
  | o, x :: r, h => by
    simp only [elsAt] at h ⊢
    exact ⟨h.1, cellsAt_mono hS hw hb o x h.2.1, elsAt_mono hS hw hb sz (o + sz) r h.2.2⟩
end

theorem cellsAt_get : ∀ (cs : List AV) (o j : Nat) {b : Nat}, cellsAt S w b o cs → j < cs.length → ∃ u, w.cell? ⟨b, o + j, none⟩ = some u ∧ u.oneCell' = true ∧ rep S w (cs.getD j .any) u
  | [], _, _, _, _, h => by simp at h
  | x :: r, o, 0, b, h, _ => by
    simp only [cellsAt] at h
    simpa using h.1
  | x :: r, o, j + 1, b, h, hj => by
    simp only [cellsAt] at h
    have := cellsAt_get r (o + 1) j h.2 (by simpa using hj)
    rw [show o + 1 + j = o + (j + 1) by omega] at this
    simpa using this
theorem cellsAt_drop : ∀ (cs : List AV) (o j : Nat) {b : Nat}, cellsAt S w b o cs → cellsAt S w b (o + j) (cs.drop j)
  | [], _, _, _, _ => by simp [cellsAt]
  | x :: r, o, 0, b, h => by simpa using h
  | x :: r, o, j + 1, b, h => by
    simp only [cellsAt] at h
    have := cellsAt_drop r (o + 1) j h.2
    rw [show o + 1 + j = o + (j + 1) by omega] at this
    simpa using this
theorem cellsAt_take : ∀ (cs : List AV) (o j : Nat) {b : Nat}, cellsAt S w b o cs → cellsAt S w b o (cs.take j)
  | [], _, _, _, _ => by simp [cellsAt]
  | x :: r, o, 0, b, h => by simp [cellsAt]
  | x :: r, o, j + 1, b, h => by
    simp only [cellsAt, List.take_succ_cons] at h ⊢
    exact ⟨h.1, cellsAt_take r (o + 1) j h.2⟩
/-- the values in the cells -/
theorem cellsAt_vals : ∀ (cs : List AV) (o : Nat) {b : Nat}, cellsAt S w b o cs → ∃ l : List Value, l.length = cs.length ∧ repL S w cs l ∧ (∀ u ∈ l, u.oneCell' = true) ∧ ∀ j u, l[j]? = some u → w.cell? ⟨b, o + j, none⟩ = some u
  | [], _, _, _ => ⟨[], rfl, by simp [repL], by simp, by simp⟩
  | x :: r, o, b, h => by
    simp only [cellsAt] at h
    obtain ⟨⟨u, h1, h2, h3⟩, h4⟩ := h
    obtain ⟨l, e1, e2, e3, e4⟩ := cellsAt_vals r (o + 1) h4
    refine ⟨u :: l, by simp [e1], ?_, ?_, ?_⟩
    · simp only [repL]
      exact ⟨u, l, rfl, h3, e2⟩
    · intro v hv
      rcases List.mem_cons.1 hv with rfl | hv
      · exact h2
      · exact e3 v hv
    · intro j v hv
      cases j with
      | zero => simp at hv; subst hv; simpa using h1
      | succ j => rw [show o + (j + 1) = o + 1 + j by omega]; exact e4 j v (by simpa using hv)
theorem elsAt_len : ∀ (es : List (List AV)) (o : Nat) {b sz : Nat}, elsAt S w b sz o es → ∀ cs ∈ es, cs.length = sz
  | [], _, _, _, _, cs, h => by simp at h
  | x :: r, o, b, sz, h, cs, hm => by
    simp only [elsAt] at h
    rcases List.mem_cons.1 hm with rfl | hm
    · exact h.1
    · exact elsAt_len r _ h.2.2 cs hm
theorem elsAt_get : ∀ (es : List (List AV)) (o i : Nat) {b sz : Nat}, elsAt S w b sz o es → i < es.length → (es.getD i []).length = sz ∧ cellsAt S w b (o + i * sz) (es.getD i [])
  | [], _, _, _, _, _, h => by simp at h
  | x :: r, o, 0, b, sz, h, _ => by
    simp only [elsAt] at h
    simpa using ⟨h.1, h.2.1⟩
  | x :: r, o, i + 1, b, sz, h, hi => by
    simp only [elsAt] at h
    have := elsAt_get r (o + sz) i h.2.2 (by simpa using hi)
    rw [show o + sz + i * sz = o + (i + 1) * sz by rw [Nat.add_mul]; omega] at this
    simpa using this
theorem elsAt_drop : ∀ (es : List (List AV)) (o i : Nat) {b sz : Nat}, elsAt S w b sz o es → elsAt S w b sz (o + i * sz) (es.drop i)
  | [], _, _, _, _, _ => by simp [elsAt]
  | x :: r, o, 0, b, sz, h => by simpa using h
  | x :: r, o, i + 1, b, sz, h => by
    simp only [elsAt] at h
    have := elsAt_drop r (o + sz) i h.2.2
    rw [show o + sz + i * sz = o + (i + 1) * sz by rw [Nat.add_mul]; omega] at this
    simpa using this
theorem elsAt_take : ∀ (es : List (List AV)) (o i : Nat) {b sz : Nat}, elsAt S w b sz o es → elsAt S w b sz o (es.take i)
  | [], _, _, _, _, _ => by simp [elsAt]
  | x :: r, o, 0, b, sz, h => by simp [elsAt]
  | x :: r, o, i + 1, b, sz, h => by
    simp only [elsAt, List.take_succ_cons] at h ⊢
    exact ⟨h.1, h.2.1, elsAt_take r _ i h.2.2⟩
theorem cellsAt_append : ∀ (xs ys : List AV) (o : Nat) {b : Nat}, cellsAt S w b o (xs ++ ys) ↔ cellsAt S w b o xs ∧ cellsAt S w b (o + xs.length) ys
  | [], ys, o, b => by simp [cellsAt]
  | x :: r, ys, o, b => by
    simp only [List.cons_append, cellsAt, cellsAt_append r ys (o + 1), List.length_cons, show o + 1 + r.length = o + (r.length + 1) by omega, and_assoc]
/-- a slice's elements, as one list of cells -/
theorem elsAt_flat : ∀ (es : List (List AV)) (o : Nat) {b sz : Nat}, elsAt S w b sz o es → cellsAt S w b o es.flatten
  | [], _, _, _, _ => by simp [cellsAt]
  | x :: r, o, b, sz, h => by
    simp only [elsAt] at h
    rw [List.flatten_cons, cellsAt_append]
    refine ⟨h.2.1, ?_⟩
    rw [h.1]
    exact elsAt_flat r _ h.2.2
theorem elsAt_of_flat : ∀ (es : List (List AV)) (o : Nat) {b sz : Nat}, (∀ cs ∈ es, cs.length = sz) → cellsAt S w b o es.flatten → elsAt S w b sz o es
  | [], _, _, _, _, _ => by simp [elsAt]
  | x :: r, o, b, sz, hl, h => by
    rw [List.flatten_cons, cellsAt_append] at h
    have hx := hl x (by simp)
    rw [hx] at h
    simp only [elsAt]
    exact ⟨hx, h.1, elsAt_of_flat r _ (fun cs hc => hl cs (by simp [hc])) h.2⟩
theorem flat_len : ∀ (es : List (List AV)) {sz : Nat}, (∀ cs ∈ es, cs.length = sz) → es.flatten.length = es.length * sz
  | [], _, _ => by simp
  | x :: r, sz, hl => by
    rw [List.flatten_cons, List.length_append, hl x (by simp), flat_len r (fun cs hc => hl cs (by simp [hc])), List.length_cons, Nat.add_mul]
    omega

theorem repL_len : ∀ (x : List AV) (l : List Value), repL S w x l → l.length = x.length
  | [], l, h => by simp only [repL] at h; simp [h]
  | x :: r, l, h => by
    simp only [repL] at h
    obtain ⟨u, t, rfl, _, h2⟩ := h
    simp [repL_len r t h2]
theorem repL_get : ∀ (x : List AV) (l : List Value) (j : Nat), repL S w x l → j < x.length → ∃ u, l[j]? = some u ∧ rep S w (x.getD j .any) u
  | [], _, _, _, h => by simp at h
  | x :: r, l, j, h, hj => by
    simp only [repL] at h
    obtain ⟨u, t, rfl, h1, h2⟩ := h
    cases j with
    | zero => exact ⟨u, by simp, by simpa using h1⟩
    | succ j =>
      obtain ⟨v, hv, hr⟩ := repL_get r t j h2 (by simpa using hj)
      exact ⟨v, by simpa using hv, by simpa using hr⟩
theorem repL_append : ∀ (x y : List AV) (l m : List Value), repL S w x l → repL S w y m → repL S w (x ++ y) (l ++ m)
  | [], y, l, m, h, h' => by simp only [repL] at h; subst h; simpa using h'
  | x :: r, y, l, m, h, h' => by
    simp only [repL] at h
    obtain ⟨u, t, rfl, h1, h2⟩ := h
    simp only [List.cons_append, repL]
    exact ⟨u, t ++ m, rfl, h1, repL_append r y t m h2 h'⟩
theorem repL_drop : ∀ (x : List AV) (l : List Value) (j : Nat), repL S w x l → repL S w (x.drop j) (l.drop j)
  | [], l, j, h => by simp only [repL] at h; subst h; simp [repL]
  | x :: r, l, j, h => by
    cases j with
    | zero => simpa using h
    | succ j =>
      simp only [repL] at h
      obtain ⟨u, t, rfl, _, h2⟩ := h
      simpa using repL_drop r t j h2
theorem repL_take : ∀ (x : List AV) (l : List Value) (j : Nat), repL S w x l → repL S w (x.take j) (l.take j)
  | [], l, j, h => by simp only [repL] at h; subst h; simp [repL]
  | x :: r, l, j, h => by
    cases j with
    | zero => simp [repL]
    | succ j =>
      simp only [repL] at h
      obtain ⟨u, t, rfl, h1, h2⟩ := h
      simp only [List.take_succ_cons, repL]
      exact ⟨u, t.take j, rfl, h1, repL_take r t j h2⟩
theorem cellsAt_of_repL : ∀ (x : List AV) (l : List Value) (o : Nat) {b : Nat}, repL S w x l → (∀ u ∈ l, u.oneCell' = true) → (∀ j u, l[j]? = some u → w.cell? ⟨b, o + j, none⟩ = some u) → cellsAt S w b o x
  | [], _, _, _, _, _, _ => by simp [cellsAt]
  | x :: r, l, o, b, h, h1, hc => by
    simp only [repL] at h
    obtain ⟨u, t, rfl, hu, ht⟩ := h
    simp only [cellsAt]
    refine ⟨⟨u, by simpa using hc 0 u (by simp), h1 u (by simp), hu⟩, cellsAt_of_repL r t (o + 1) ht (fun v hv => h1 v (by simp [hv])) fun j v hv => ?_⟩
    rw [show o + 1 + j = o + (j + 1) by omega]
    exact hc (j + 1) v (by simpa using hv)
end
end Go.Aw
