/- Texts joined by a program: AwState. -/
import Derived.Test.YtmidcjlidploaaaGreatDoorSb06

set_option linter.unusedSimpArgs false
set_option linter.unusedVariables false
namespace Go.Aw
open Go.RowKit
def varCells (w : World) (g : Nat) : Option (Array Value) := match w.heap[g]? with
  | some (.cells cs _ _) => some cs
  | _ => none
def TabsOK (S : Sg) (w : World) : Prop := ∀ t ∈ tabL, S.ro t.1 ∧ t.2 (varCells w t.1)
theorem TabsOK.keep {S S' : Sg} {w w' : World} (h : TabsOK S w) (hle : S.le S') (hk : Kept S w w') : TabsOK S' w' := fun t ht =>
  ⟨hle.ro _ (h t ht).1, by
    have e : varCells w' t.1 = varCells w t.1 := by unfold varCells; rw [hk t.1 (h t ht).1]
    rw [e]; exact (h t ht).2⟩
structure St (S : Sg) (w : World) (H : Heap) : Prop where
  ro_fz : ∀ k, S.ro k → S.fz k
  fz_lt : ∀ k, S.fz k → k < w.heap.size
  rows : Rows' S w H
  free : ∀ k r, H k = some r → ∀ g, blk (S.loc k) = some g → ¬ S.fz g
  disj : ∀ k k' r r', H k = some r → H k' = some r' → k ≠ k' → ∀ g, blk (S.loc k) = some g → blk (S.loc k') ≠ some g
  tabs : TabsOK S w
structure Grow (S : Sg) (w : World) (S' : Sg) (w' : World) : Prop where
  le : S.le S'
  fz : ∀ k, S.fz k → S'.fz k
  os : w'.os = w.os
  tape : w'.tape = w.tape
  output : w'.output = w.output
  size : w.heap.size ≤ w'.heap.size
  same : ∀ k, S.fz k → w'.heap[k]? = w.heap[k]?
  newro : ∀ k, S'.ro k → S.ro k ∨ ¬ S.fz k
theorem Grow.refl (S : Sg) (w : World) : Grow S w S w := ⟨S.le_refl, fun _ h => h, rfl, rfl, rfl, Nat.le_refl _, fun _ _ => rfl, fun _ h => .inl h⟩
theorem Grow.trans {S S' S'' : Sg} {w w' w'' : World} (h : Grow S w S' w') (h' : Grow S' w' S'' w'') : Grow S w S'' w'' :=
  ⟨Sg.le_trans h.le h'.le, fun k hk => h'.fz k (h.fz k hk), h'.os.trans h.os, h'.tape.trans h.tape, h'.output.trans h.output, Nat.le_trans h.size h'.size,
    fun k hk => (h'.same k (h.fz k hk)).trans (h.same k hk),
    fun k hk => by rcases h'.newro k hk with h1 | h1; exact h.newro k h1; exact .inr fun h2 => h1 (h.fz k h2)⟩
def NewK (N : Nat) (H H' : Heap) : Prop := ∀ k, k < N → H k = none → H' k = none
theorem NewK.refl (N : Nat) (H : Heap) : NewK N H H := fun _ _ h => h
theorem NewK.trans {N N' : Nat} {H H' H'' : Heap} (h : NewK N H H') (h' : NewK N' H' H'') (hN : N ≤ N') : NewK N H H'' := fun k hk h0 => h' k (Nat.lt_of_lt_of_le hk hN) (h k hk h0)
section
variable {S S' : Sg} {w w' : World} {H H' : Heap}
theorem St.kept (hS : St S w H) (hs : ∀ k, S.fz k → w'.heap[k]? = w.heap[k]?) : Kept S w w' := fun k hk => hs k (hS.ro_fz k hk)
theorem Grow.kept (hS : St S w H) (hg : Grow S w S' w') : Kept S w w' := hS.kept hg.same
theorem St.fresh (hS : St S w H) : H S.N = none := by
  cases h : H S.N with
  | none => rfl
  | some r => exact absurd (hS.rows _ r h).lt (Nat.lt_irrefl _)
theorem RowOK.block_lt {k : Nat} {r : Row} (h : RowOK S w k r) {g : Nat} (hg : blk (S.loc k) = some g) : g < w.heap.size := by
  rcases h.own with ⟨xs, ho, _⟩ | ⟨g', ms, h1, h2, _⟩
  · refine (ho.lt g ?_).2
    rcases ho.2 with ⟨hv, _⟩ | ⟨_, _, _, hv, _⟩ <;> (rw [hv] at hg ⊢; exact hg)
  · rw [h1] at hg
    injection hg with hg
    subst hg
    exact (Array.getElem?_eq_some_iff.1 h2).1
theorem ents_mono (hle : S.le S') (hk : Kept S w w') : ∀ (i : Nat) (es : List (List AV)) (ms : List MapEntry), ents S w i es ms → ents S' w' i es ms
  | _, [], _, h => h
  | i, cs :: r, ms, h => by
    simp only [ents] at h ⊢
    obtain ⟨m, t, rfl, h1, h2, h3⟩ := h
    exact ⟨m, t, rfl, h1, repL_mono hle hk _ _ h2, ents_mono hle hk (i + 1) r t h3⟩
theorem RowOK.keep {k : Nat} {r : Row} (h : RowOK S w k r) (hle : S.le S') (hk : Kept S w w') (hb : ∀ g, blk (S.loc k) = some g → w'.heap[g]? = w.heap[g]?) : RowOK S' w' k r := by
  refine ⟨Nat.lt_of_lt_of_le h.lt hle.N, by rw [hle.sz k h.lt]; exact h.sz, h.pos, h.len, ?_⟩
  rcases h.own with ⟨xs, ho, hr, h1⟩ | ⟨g, ms, h1, h2, h3⟩
  · refine .inl ?_
    unfold SliceOK
    rw [hle.loc k h.lt]
    refine ⟨xs, ⟨ho.1, ?_⟩, repL_mono hle hk _ _ hr, h1⟩
    rcases ho.2 with h2 | ⟨g, cap, cur, hv, h3, h4, h5⟩
    · exact .inl h2
    · exact .inr ⟨g, cap, cur, hv, h3, by rw [hb g (by rw [hv]; rfl)]; exact h4, h5⟩
  · refine .inr ⟨g, ms, ?_, ?_, ents_mono hle hk 0 _ _ h3.1, h3.2⟩
    · rw [hle.loc k h.lt]; exact h1
    · rw [hb g (by rw [h1]; rfl)]; exact h2
theorem FR.keep {ρ : Env} {a : Act} (h : FR S w ρ a) (hle : S.le S') (hk : Kept S w w') : FR S' w' ρ a := fun t ht => rep_mono hle hk _ _ (h t ht)
theorem FR.put {ρ : Env} {a : Act} (h : FR S w ρ a) {d : Option Nat} {z : AV} {v : Value} (hv : rep S w z v) : FR S w (upd ρ d z) (a.put d v) := by
  intro t ht
  cases d with
  | none => exact h t ht
  | some d =>
    simp only [Act.put, upd] at ht ⊢
    have hlt : t < a.tmps.size := by simpa using ht
    by_cases e : t = d
    · subst e
      simpa [Array.getD, hlt] using hv
    · have h1 := h t hlt
      have e' : d ≠ t := fun h => e h.symm
      simp only [if_neg e]
      have : (a.tmps.setIfInBounds d v).getD t undef = a.tmps.getD t undef := by
        simp [Array.getD_eq_getD_getElem?, Array.getElem?_setIfInBounds, e']
      rw [this]
      exact h1
def Sg.addRow (S : Sg) (v : Value) (sz : Nat) : Sg := { S with loc := fun k => if k = S.N then v else S.loc k, sz := fun k => if k = S.N then sz else S.sz k, N := S.N + 1 }
theorem Sg.le_addRow (S : Sg) (v : Value) (sz : Nat) : S.le (S.addRow v sz) :=
  ⟨fun _ h => h, Nat.le_succ _, fun k hk => by simp [Sg.addRow, Nat.ne_of_lt hk], fun k hk => by simp [Sg.addRow, Nat.ne_of_lt hk]⟩
theorem updH_self {k : Nat} {r : Option Row} : updH H k r k = r := updH_same H k r
theorem St.newRow (hS : St S w H) {e : TypeId} {sz cap : Nat} {es : List (List AV)} {xs : List Value} {cur : Array Value} (hpos : 0 < sz) (hlen : ∀ cs ∈ es, cs.length = sz)
    (hr : repL S w es.flatten xs) (h1 : ∀ u ∈ xs, u.oneCell' = true) (hn : es.length ≤ cap) (hcap : cap ≤ maxLen) (hcur : cur.size = cap * sz) (htake : cur.toList.take (es.length * sz) = xs) {w' : World}
    (hw : w'.heap = w.heap.push (.cells cur e)) (hos : w'.os = w.os) (htape : w'.tape = w.tape) (hout : w'.output = w.output) :
    St (S.addRow (.slice (some ⟨w.heap.size, 0, none⟩) es.length cap) sz) w' (updH H S.N (some ⟨e, sz, es⟩)) ∧ Grow S w (S.addRow (.slice (some ⟨w.heap.size, 0, none⟩) es.length cap) sz) w' := by
  have hsame : ∀ k, k < w.heap.size → w'.heap[k]? = w.heap[k]? := fun k hk => by rw [hw, Array.getElem?_push, if_neg (by omega)]
  have hnew : w'.heap[w.heap.size]? = some (.cells cur e (0, 0)) := by rw [hw]; simp
  have hsz : w'.heap.size = w.heap.size + 1 := by rw [hw]; simp
  have hle := S.le_addRow (.slice (some ⟨w.heap.size, 0, none⟩) es.length cap) sz
  have hkept : Kept S w w' := fun k hk => hsame k (hS.fz_lt k (hS.ro_fz k hk))
  have hlocN : (S.addRow (.slice (some ⟨w.heap.size, 0, none⟩) es.length cap) sz).loc S.N = .slice (some ⟨w.heap.size, 0, none⟩) es.length cap := by simp [Sg.addRow]
  have hloc : ∀ k, k < S.N → (S.addRow (.slice (some ⟨w.heap.size, 0, none⟩) es.length cap) sz).loc k = S.loc k := hle.loc
  have hold : ∀ k r, k ≠ S.N → updH H S.N (some ⟨e, sz, es⟩) k = some r → H k = some r := fun k r hk h => by rwa [updH_ne _ _ _ _ hk] at h
  refine ⟨⟨hS.ro_fz, fun k hk => by have := hS.fz_lt k hk; omega, ?_, ?_, ?_, hS.tabs.keep hle hkept⟩, ⟨hle, fun _ h => h, hos, htape, hout, by omega, fun k hk => hsame k (hS.fz_lt k hk), fun _ h => .inl h⟩⟩
  · intro k r hk
    by_cases e0 : k = S.N
    · subst e0
      rw [updH_self] at hk
      injection hk with hk
      subst hk
      refine ⟨Nat.lt_succ_self _, by simp [Sg.addRow], hpos, hlen, .inl ⟨xs, ⟨?_, .inr ⟨w.heap.size, cap, cur, hlocN, Nat.zero_le _, hnew, hn, hcap, hcur, htake⟩⟩, repL_mono hle hkept _ _ hr, h1⟩⟩
      rw [repL_len _ _ hr, flat_len es hlen]
    · have hk' := hold k r e0 hk
      exact (hS.rows k r hk').keep hle hkept fun g hg => hsame g ((hS.rows k r hk').block_lt hg)
  · intro k r hk g hg
    by_cases e0 : k = S.N
    · subst e0
      rw [hlocN] at hg
      simp only [blk, Option.some.injEq] at hg
      subst hg
      exact fun h => Nat.lt_irrefl _ (hS.fz_lt _ h)
    · have hk' := hold k r e0 hk
      rw [hloc k (hS.rows k r hk').lt] at hg
      exact hS.free k r hk' g hg
  · intro k k' r r' hk hk' hne g hg hg'
    by_cases e0 : k = S.N
    · subst e0
      rw [hlocN] at hg
      simp only [blk, Option.some.injEq] at hg
      subst hg
      have hk2 := hold k' r' (Ne.symm hne) hk'
      rw [hloc k' (hS.rows k' r' hk2).lt] at hg'
      exact Nat.lt_irrefl _ ((hS.rows k' r' hk2).block_lt hg')
    · have hk2 := hold k r e0 hk
      rw [hloc k (hS.rows k r hk2).lt] at hg
      by_cases e1 : k' = S.N
      · subst e1
        rw [hlocN] at hg'
        simp only [blk, Option.some.injEq] at hg'
        subst hg'
        exact Nat.lt_irrefl _ ((hS.rows k r hk2).block_lt hg)
      · have hk3 := hold k' r' e1 hk'
        rw [hloc k' (hS.rows k' r' hk3).lt] at hg'
        exact hS.disj k k' r r' hk2 hk3 hne g hg hg'
theorem St.newMap (hS : St S w H) {w' : World} (hw : w'.heap = w.heap.push (.map #[] 0)) (hos : w'.os = w.os) (htape : w'.tape = w.tape) (hout : w'.output = w.output) :
    St (S.addRow (.map (some w.heap.size)) 2) w' (updH H S.N (some ⟨0, 2, []⟩)) ∧ Grow S w (S.addRow (.map (some w.heap.size)) 2) w' := by
  have hsame : ∀ k, k < w.heap.size → w'.heap[k]? = w.heap[k]? := fun k hk => by rw [hw, Array.getElem?_push, if_neg (by omega)]
  have hnew : w'.heap[w.heap.size]? = some (.map #[] 0) := by rw [hw]; simp
  have hsz : w'.heap.size = w.heap.size + 1 := by rw [hw]; simp
  have hle := S.le_addRow (.map (some w.heap.size)) 2
  have hkept : Kept S w w' := fun k hk => hsame k (hS.fz_lt k (hS.ro_fz k hk))
  have hlocN : (S.addRow (.map (some w.heap.size)) 2).loc S.N = .map (some w.heap.size) := by simp [Sg.addRow]
  have hold : ∀ k r, k ≠ S.N → updH H S.N (some ⟨0, 2, []⟩) k = some r → H k = some r := fun k r hk h => by rwa [updH_ne _ _ _ _ hk] at h
  refine ⟨⟨hS.ro_fz, fun k hk => by have := hS.fz_lt k hk; omega, ?_, ?_, ?_, hS.tabs.keep hle hkept⟩, ⟨hle, fun _ h => h, hos, htape, hout, by omega, fun k hk => hsame k (hS.fz_lt k hk), fun _ h => .inl h⟩⟩
  · intro k r hk
    by_cases e0 : k = S.N
    · subst e0
      rw [updH_self] at hk
      injection hk with hk
      subst hk
      exact ⟨Nat.lt_succ_self _, by simp [Sg.addRow], by simp, by simp, .inr ⟨w.heap.size, [], hlocN, hnew, by simp [ents], rfl⟩⟩
    · have hk' := hold k r e0 hk
      exact (hS.rows k r hk').keep hle hkept fun g hg => hsame g ((hS.rows k r hk').block_lt hg)
  · intro k r hk g hg
    by_cases e0 : k = S.N
    · subst e0
      rw [hlocN] at hg
      simp only [blk, Option.some.injEq] at hg
      subst hg
      exact fun h => Nat.lt_irrefl _ (hS.fz_lt _ h)
    · have hk' := hold k r e0 hk
      rw [hle.loc k (hS.rows k r hk').lt] at hg
      exact hS.free k r hk' g hg
  · intro k k' r r' hk hk' hne g hg hg'
    by_cases e0 : k = S.N
    · subst e0
      rw [hlocN] at hg
      simp only [blk, Option.some.injEq] at hg
      subst hg
      have hk2 := hold k' r' (Ne.symm hne) hk'
      rw [hle.loc k' (hS.rows k' r' hk2).lt] at hg'
      exact Nat.lt_irrefl _ ((hS.rows k' r' hk2).block_lt hg')
    · have hk2 := hold k r e0 hk
      rw [hle.loc k (hS.rows k r hk2).lt] at hg
      by_cases e1 : k' = S.N
      · subst e1
        rw [hlocN] at hg'
        simp only [blk, Option.some.injEq] at hg'
        subst hg'
        exact Nat.lt_irrefl _ ((hS.rows k r hk2).block_lt hg)
      · have hk3 := hold k' r' e1 hk'
        rw [hle.loc k' (hS.rows k' r' hk3).lt] at hg'
        exact hS.disj k k' r r' hk2 hk3 hne g hg hg'
theorem St.setMap (hS : St S w H) {k g : Nat} {r : Row} (hk : H k = some r) (hl : S.loc k = .map (some g)) {ms : List MapEntry} {es : List (List AV)} (he : ents S w 0 es ms) (h2 : r.sz = 2) (hlt : g < w.heap.size) :
    St S { w with heap := w.heap.setIfInBounds g (.map ms.toArray ms.length) } (updH H k (some { r with es := es })) ∧ Grow S w S { w with heap := w.heap.setIfInBounds g (.map ms.toArray ms.length) } := by
  have hR := hS.rows k r hk
  have hgf : ¬ S.fz g := hS.free k r hk g (by rw [hl]; rfl)
  have hsame : ∀ j, j ≠ g → (w.heap.setIfInBounds g (.map ms.toArray ms.length))[j]? = w.heap[j]? := fun j hj => by rw [Array.getElem?_setIfInBounds, if_neg (Ne.symm hj)]
  have hget : (w.heap.setIfInBounds g (.map ms.toArray ms.length))[g]? = some (.map ms.toArray ms.length) := by rw [Array.getElem?_setIfInBounds]; simp [hlt]
  have hkept : Kept S w { w with heap := w.heap.setIfInBounds g (.map ms.toArray ms.length) } := fun j hj => hsame j (fun e => hgf (e ▸ hS.ro_fz j hj))
  have p : ∀ j r', updH H k (some { r with es := es }) j = some r' → ∃ r'', H j = some r'' := fun j r' hj => by
    by_cases e : j = k
    · subst e; exact ⟨r, hk⟩
    · rw [updH_ne _ _ _ _ e] at hj; exact ⟨_, hj⟩
  have elen : ∀ (i : Nat) (es : List (List AV)) (ms : List MapEntry), ents S w i es ms → ∀ cs ∈ es, cs.length = 2 := by
    intro i es
    induction es generalizing i with
    | nil => simp
    | cons c es ih =>
      intro ms h cs hcs
      simp only [ents] at h
      obtain ⟨m, t, rfl, _, h4, h5⟩ := h
      rcases List.mem_cons.1 hcs with rfl | hcs
      · have := repL_len _ _ h4; simpa using this.symm
      · exact ih (i + 1) t h5 cs hcs
  refine ⟨⟨hS.ro_fz, fun j hj => by simpa using hS.fz_lt j hj, ?_, ?_, ?_, hS.tabs.keep S.le_refl hkept⟩, ⟨S.le_refl, fun _ h => h, rfl, rfl, rfl, by simp, fun j hj => hsame j (fun e => hgf (e ▸ hj)), fun _ h => .inl h⟩⟩
  · intro j r' hj
    by_cases e : j = k
    · subst e
      rw [updH_self] at hj
      injection hj with hj
      subst hj
      exact ⟨hR.lt, hR.sz, hR.pos, fun cs hcs => (elen 0 es ms he cs hcs).trans h2.symm, .inr ⟨g, ms, hl, hget, ents_mono S.le_refl hkept 0 _ _ he, h2⟩⟩
    · rw [updH_ne _ _ _ _ e] at hj
      exact (hS.rows j r' hj).keep S.le_refl hkept fun g' hg' => hsame g' (fun e' => hS.disj j k r' r hj hk e g' hg' (by rw [hl, e']; rfl))
  · intro j r' hj g' hg'
    obtain ⟨r'', hj'⟩ := p j r' hj
    exact hS.free j r'' hj' g' hg'
  · intro j j' r1 r2 hj hj' hne' g' hg' hg2
    obtain ⟨q1, hq1⟩ := p j r1 hj
    obtain ⟨q2, hq2⟩ := p j' r2 hj'
    exact hS.disj j j' q1 q2 hq1 hq2 hne' g' hg' hg2
theorem St.nilRow (hS : St S w H) (e : TypeId) {sz : Nat} (hpos : 0 < sz) :
    St (S.addRow (.slice none 0 0) sz) w (updH H S.N (some ⟨e, sz, []⟩)) ∧ Grow S w (S.addRow (.slice none 0 0) sz) w := by
  have hle := S.le_addRow (.slice none 0 0) sz
  have hlocN : (S.addRow (.slice none 0 0) sz).loc S.N = .slice none 0 0 := by simp [Sg.addRow]
  have hold : ∀ k r, k ≠ S.N → updH H S.N (some ⟨e, sz, []⟩) k = some r → H k = some r := fun k r hk h => by rwa [updH_ne _ _ _ _ hk] at h
  refine ⟨⟨hS.ro_fz, hS.fz_lt, ?_, ?_, ?_, hS.tabs.keep hle (Kept.refl S w)⟩, ⟨hle, fun _ h => h, rfl, rfl, rfl, Nat.le_refl _, fun _ _ => rfl, fun _ h => .inl h⟩⟩
  · intro k r hk
    by_cases e0 : k = S.N
    · subst e0
      rw [updH_self] at hk
      injection hk with hk
      subst hk
      refine ⟨Nat.lt_succ_self _, by simp [Sg.addRow], hpos, by simp, .inl ⟨[], ⟨by simp, .inl ⟨hlocN, rfl⟩⟩, by simp [repL], by simp⟩⟩
    · have hk' := hold k r e0 hk
      exact (hS.rows k r hk').keep hle (Kept.refl S w) fun _ _ => rfl
  · intro k r hk g hg
    by_cases e0 : k = S.N
    · subst e0
      rw [hlocN] at hg
      simp [blk] at hg
    · have hk' := hold k r e0 hk
      rw [hle.loc k (hS.rows k r hk').lt] at hg
      exact hS.free k r hk' g hg
  · intro k k' r r' hk hk' hne g hg hg'
    by_cases e0 : k = S.N
    · subst e0
      rw [hlocN] at hg
      simp [blk] at hg
    · have hk2 := hold k r e0 hk
      rw [hle.loc k (hS.rows k r hk2).lt] at hg
      by_cases e1 : k' = S.N
      · subst e1
        rw [hlocN] at hg'
        simp [blk] at hg'
      · have hk3 := hold k' r' e1 hk'
        rw [hle.loc k' (hS.rows k' r' hk3).lt] at hg'
        exact hS.disj k k' r r' hk2 hk3 hne g hg hg'
def Sg.addRo (S : Sg) (g : Nat) : Sg := { S with ro := fun k => S.ro k ∨ k = g, fz := fun k => S.fz k ∨ k = g }
theorem Sg.le_addRo (S : Sg) (g : Nat) : S.le (S.addRo g) := ⟨fun _ h => .inl h, Nat.le_refl _, fun _ _ => rfl, fun _ _ => rfl⟩
theorem St.newRo (hS : St S w H) {o : Obj} {w' : World} (hw : w'.heap = w.heap.push o) (hos : w'.os = w.os) (htape : w'.tape = w.tape) (hout : w'.output = w.output) :
    St (S.addRo w.heap.size) w' H ∧ Grow S w (S.addRo w.heap.size) w' := by
  have hsame : ∀ k, k < w.heap.size → w'.heap[k]? = w.heap[k]? := fun k hk => by rw [hw, Array.getElem?_push, if_neg (by omega)]
  have hsz : w'.heap.size = w.heap.size + 1 := by rw [hw]; simp
  have hle := S.le_addRo w.heap.size
  have hkept : Kept S w w' := fun k hk => hsame k (hS.fz_lt k (hS.ro_fz k hk))
  refine ⟨⟨fun k hk => hk.imp (hS.ro_fz k) id, fun k hk => ?_, fun k r hk => (hS.rows k r hk).keep hle hkept fun g hg => hsame g ((hS.rows k r hk).block_lt hg), fun k r hk g hg hf => ?_, hS.disj, hS.tabs.keep hle hkept⟩,
    ⟨hle, fun _ h => .inl h, hos, htape, hout, by omega, fun k hk => hsame k (hS.fz_lt k hk), fun k hk => hk.imp id (fun e hf => by have := hS.fz_lt k hf; omega)⟩⟩
  · rcases hk with hk | hk
    · have := hS.fz_lt k hk; omega
    · omega
  · rcases hf with hf | hf
    · exact hS.free k r hk g hg hf
    · have := (hS.rows k r hk).block_lt hg; omega
theorem RowOK.open {k : Nat} {r : Row} (h : RowOK S w k r) {ad0 : Option Addr} {n0 c0 : Nat} (hs0 : S.loc k = .slice ad0 n0 c0) (hne : r.es ≠ []) : ∃ g cap cur, S.loc k = .slice (some ⟨g, 0, none⟩) r.es.length cap ∧ w.heap[g]? = some (.cells cur r.e (0, 0)) ∧ r.es.length ≤ cap ∧ cap ≤ maxLen ∧ cur.size = cap * r.sz ∧
    repL S w r.es.flatten (cur.toList.take (r.es.length * r.sz)) ∧ ∀ u ∈ cur.toList.take (r.es.length * r.sz), u.oneCell' = true := by
  obtain ⟨xs, ho, hr, h1⟩ := h.sl hs0
  rcases ho.2 with ⟨_, hn⟩ | ⟨g, cap, cur, hv, _, h2, h3, h4, h5, h6⟩
  · exact absurd (List.eq_nil_of_length_eq_zero hn) hne
  · subst h6
    exact ⟨g, cap, cur, hv, h2, h3, h4, h5, hr, h1⟩
theorem flatten_set : ∀ (es : List (List AV)) (i : Nat) (cs : List AV) {sz : Nat}, (∀ c ∈ es, c.length = sz) → i < es.length → cs.length = sz →
    (es.set i cs).flatten = es.flatten.take (i * sz) ++ cs ++ es.flatten.drop (i * sz + sz)
  | [], _, _, _, _, h, _ => by simp at h
  | x :: r, 0, cs, sz, hl, _, hc => by
    have hx := hl x (by simp)
    simp [← hx]
  | x :: r, i + 1, cs, sz, hl, hi, hc => by
    have hx := hl x (by simp)
    have ih := flatten_set r i cs (fun c hc => hl c (by simp [hc])) (by simpa using hi) hc
    simp only [List.set_cons_succ, List.flatten_cons, ih]
    have e1 : (i + 1) * sz = x.length + i * sz := by rw [hx, Nat.add_mul]; omega
    rw [e1, Nat.add_assoc, List.take_append, List.drop_append]
    simp [List.take_of_length_le, List.drop_eq_nil_of_le, Nat.add_assoc]
theorem St.store (hS : St S w H) {k : Nat} {r : Row} (hk : H k = some r) {i f : Nat} {cs : List AV} {l : List Value} (hi : i < r.es.length) (hf : f + cs.length ≤ r.sz) {ad0 : Option Addr} {n0 c0 : Nat} (hs0 : S.loc k = .slice ad0 n0 c0)
    (hr : repL S w cs l) (h1 : ∀ u ∈ l, u.oneCell' = true) :
    ∃ g n c w', S.loc k = .slice (some ⟨g, 0, none⟩) n c ∧ (∀ P : Program, (storeCells ⟨g, i * r.sz + f, none⟩ l).run P w = .ok () w') ∧
      St S w' (updH H k (some { r with es := r.es.set i (setAt (r.es.getD i []) f cs) })) ∧ Grow S w S w' := by
  have hR := hS.rows k r hk
  have hne : r.es ≠ [] := fun e => by rw [e] at hi; simp at hi
  obtain ⟨g, cap, cur, hloc, hg, hnc, hcm, hcs, hrep, hone⟩ := hR.open hs0 hne
  have hll := repL_len _ _ hr
  have hmul : (i + 1) * r.sz ≤ r.es.length * r.sz := Nat.mul_le_mul_right _ hi
  have hmul2 : r.es.length * r.sz ≤ cap * r.sz := Nat.mul_le_mul_right _ hnc
  rw [Nat.add_mul, Nat.one_mul] at hmul
  have hst : ∀ P : Program, _ := fun P => run_storeCells_at (P := P) g (i * r.sz + f) r.e l 0 cur w hg (by rw [hll, hcs]; omega) h1
  simp only [Nat.add_zero] at hst
  refine ⟨g, _, cap, _, hloc, hst, ?_, ?_⟩
  · have hsame : ∀ j, j ≠ g → (w.setRow g (List.take (i * r.sz + f) cur.toList ++ l ++ List.drop (i * r.sz + f + l.length) cur.toList).toArray).heap[j]? = w.heap[j]? := fun j hj => setRow_other w g j _ hj
    have hgf : ¬ S.fz g := hS.free k r hk g (by rw [hloc]; rfl)
    have hkept : Kept S w (w.setRow g (List.take (i * r.sz + f) cur.toList ++ l ++ List.drop (i * r.sz + f + l.length) cur.toList).toArray) := fun j hj => hsame j (fun e => hgf (e ▸ hS.ro_fz j hj))
    have hget : (r.es.getD i []).length = r.sz := by
      simp only [List.getD, List.getElem?_eq_getElem hi, Option.getD_some]
      exact hR.len _ (List.getElem_mem hi)
    have hset : (setAt (r.es.getD i []) f cs).length = r.sz := by
      simp only [setAt, List.length_append, List.length_take, List.length_drop, hget]
      omega
    have e2 : List.take (r.es.length * r.sz) (List.take (i * r.sz + f) cur.toList ++ l ++ List.drop (i * r.sz + f + l.length) cur.toList) =
        (cur.toList.take (r.es.length * r.sz)).take (i * r.sz + f) ++ l ++ (cur.toList.take (r.es.length * r.sz)).drop (i * r.sz + f + l.length) := by
      rw [List.take_take, Nat.min_eq_left (by omega), List.drop_take]
      rw [List.take_append, List.take_append]
      simp only [List.length_append, List.length_take, Array.length_toList]
      rw [Nat.min_eq_left (by omega : i * r.sz + f ≤ cur.size)]
      rw [List.take_of_length_le (l := List.take (i * r.sz + f) cur.toList) (by simp; omega), List.take_of_length_le (l := l) (by omega)]
    refine ⟨hS.ro_fz, fun j hj => by simpa using hS.fz_lt j hj, ?_, ?_, ?_, hS.tabs.keep S.le_refl hkept⟩
    · intro j r' hj
      by_cases e : j = k
      · subst e
        rw [updH_self] at hj
        injection hj with hj
        subst hj
        refine ⟨hR.lt, hR.sz, hR.pos, ?_, .inl ?_⟩
        · intro c hc
          rcases List.mem_or_eq_of_mem_set hc with hc | rfl
          · exact hR.len c hc
          · exact hset
        · refine ⟨(List.take (i * r.sz + f) cur.toList ++ l ++ List.drop (i * r.sz + f + l.length) cur.toList).take (r.es.length * r.sz), ⟨?_, .inr ⟨g, cap, _, by simpa using hloc, Nat.zero_le _, setRow_heap w g cur _ _ _ hg, by simpa using hnc, hcm, ?_, by simp⟩⟩, ?_, ?_⟩
          · simp only [List.length_set, List.length_take, List.length_append, List.length_drop, Array.length_toList]
            omega
          · simp only [List.size_toArray, List.length_append, List.length_take, List.length_drop, Array.length_toList]
            omega
          · have hx := (repL_mono (S.le_refl) hkept _ _ hrep)
            have hy := (repL_mono (S.le_refl) hkept _ _ hr)
            have e1 : (r.es.set i (setAt (r.es.getD i []) f cs)).flatten = r.es.flatten.take (i * r.sz + f) ++ cs ++ r.es.flatten.drop (i * r.sz + f + l.length) := by
              rw [flatten_set r.es i _ hR.len hi hset]
              have hflat : r.es.flatten.length = r.es.length * r.sz := flat_len _ hR.len
              have hmid : r.es.getD i [] = (r.es.flatten.drop (i * r.sz)).take r.sz := by
                have h0 := flatten_set r.es i (r.es.getD i []) hR.len hi hget
                have hs : r.es.set i (r.es.getD i []) = r.es := by
                  simp only [List.getD, List.getElem?_eq_getElem hi, Option.getD_some]
                  exact List.set_getElem_self hi
                rw [hs] at h0
                have h3 : (r.es.flatten.drop (i * r.sz)).take r.sz = ((r.es.flatten.take (i * r.sz) ++ r.es.getD i [] ++ r.es.flatten.drop (i * r.sz + r.sz)).drop (i * r.sz)).take r.sz := by rw [← h0]
                rw [h3, List.append_assoc, List.drop_append_of_le_length (by rw [List.length_take]; omega)]
                rw [List.drop_eq_nil_of_le (by rw [List.length_take]; omega), List.nil_append, List.take_append_of_le_length (by omega), List.take_of_length_le (by omega)]
              rw [hmid, setAt]
              have a1 : List.take (i * r.sz + f) r.es.flatten = r.es.flatten.take (i * r.sz) ++ ((r.es.flatten.drop (i * r.sz)).take r.sz).take f := by
                rw [List.take_take, Nat.min_eq_left (by omega), List.take_add]
              have a2 : r.es.flatten.drop (i * r.sz + f + l.length) = ((r.es.flatten.drop (i * r.sz)).take r.sz).drop (f + cs.length) ++ r.es.flatten.drop (i * r.sz + r.sz) := by
                rw [List.drop_take, List.drop_drop, ← hll, ← Nat.add_assoc]
                have : List.drop (i * r.sz + r.sz) r.es.flatten = (List.drop (i * r.sz + f + l.length) r.es.flatten).drop (r.sz - (f + l.length)) := by
                  rw [List.drop_drop]; congr 1; omega
                rw [this, List.take_append_drop]
              rw [a1, a2]
              simp only [List.append_assoc]
            rw [e1]
            rw [e2]
            exact repL_append _ _ _ _ (repL_append _ _ _ _ (repL_take _ _ _ hx) hy) (repL_drop _ _ _ hx)
          · intro u hu
            rw [e2] at hu
            simp only [List.mem_append] at hu
            rcases hu with (hu | hu) | hu
            · exact hone u (List.mem_of_mem_take hu)
            · exact h1 u hu
            · exact hone u (List.mem_of_mem_drop hu)
      · rw [updH_ne _ _ _ _ e] at hj
        exact (hS.rows j r' hj).keep S.le_refl hkept fun g' hg' => hsame g' (fun e' => hS.disj j k r' r hj hk e g' hg' (by rw [hloc, e']; rfl))
    · intro j r' hj g' hg'
      by_cases e : j = k
      · subst e; exact hS.free j r hk g' hg'
      · rw [updH_ne _ _ _ _ e] at hj; exact hS.free j r' hj g' hg'
    · intro j j' r1 r2 hj hj' hne' g' hg' hg2
      have p : ∀ j r', updH H k (some { r with es := r.es.set i (setAt (r.es.getD i []) f cs) }) j = some r' → ∃ r'', H j = some r'' := fun j r' hj => by
        by_cases e : j = k
        · subst e; exact ⟨r, hk⟩
        · rw [updH_ne _ _ _ _ e] at hj; exact ⟨_, hj⟩
      obtain ⟨q1, hq1⟩ := p j r1 hj
      obtain ⟨q2, hq2⟩ := p j' r2 hj'
      exact hS.disj j j' q1 q2 hq1 hq2 hne' g' hg' hg2
  · refine ⟨S.le_refl, fun _ h => h, rfl, rfl, rfl, by simp, fun j hj => setRow_other w g j _ (fun e => hS.free k r hk g (by rw [hloc]; rfl) (e ▸ hj)), fun _ h => .inl h⟩
end
end Go.Aw
