/- Texts joined by a program: AwBody, AwWp. -/
import Derived.Deep.LoopGhost
import Derived.Test.YtmidcjlidploaaaGreatDoorSb08

section
set_option linter.unusedSimpArgs false
set_option linter.unusedVariables false
namespace Go.Aw
open Go.RowKit
mutual
inductive Conv (H : Heap) : AV → AV → Prop
  | refl (x : AV) : Conv H x x
  | any (x : AV) : Conv H x .any
  | row (k : Nat) (r : Row) (es : List (List AV)) : H k = some r → ConvE H r.es es → Conv H (.os k) (.sl es)
  | part0 (k a : Nat) (r : Row) : H k = some r → Conv H (.oz k a a) (.sl [])
  | sl (es es' : List (List AV)) : ConvE H es es' → Conv H (.sl es) (.sl es')
  | agg (cs cs' : List AV) : ConvL H cs cs' → Conv H (.agg cs) (.agg cs')
  | tup (cs cs' : List AV) : ConvL H cs cs' → Conv H (.tup cs) (.tup cs')
  | ptr (k i f : Nat) (r : Row) (cs : List AV) : H k = some r → i < r.es.length → ConvL H (r.es.getD i []) cs → Conv H (.op k i f) (.rp cs f)
  | fn (f : FuncId) (cap cap' : List AV) : ConvL H cap cap' → Conv H (.fn f cap) (.fn f cap')
inductive ConvL (H : Heap) : List AV → List AV → Prop
  | nil : ConvL H [] []
  | cons (x y : AV) (r s : List AV) : Conv H x y → ConvL H r s → ConvL H (x :: r) (y :: s)
inductive ConvE (H : Heap) : List (List AV) → List (List AV) → Prop
  | nil : ConvE H [] []
  | cons (x y : List AV) (r s : List (List AV)) : ConvL H x y → ConvE H r s → ConvE H (x :: r) (y :: s)
end
theorem ConvL.refl {H : Heap} : ∀ l, ConvL H l l
  | [] => .nil
  | x :: r => .cons x x r r (.refl x) (ConvL.refl r)
theorem ConvE.refl {H : Heap} : ∀ l, ConvE H l l
  | [] => .nil
  | x :: r => .cons x x r r (ConvL.refl x) (ConvE.refl r)
def Sg.froze (S : Sg) (H : Heap) : Sg :=
  { S with ro := fun g => S.ro g ∨ ∃ k r, H k = some r ∧ blk (S.loc k) = some g, fz := fun g => S.fz g ∨ ∃ k r, H k = some r ∧ blk (S.loc k) = some g }
theorem Sg.le_froze (S : Sg) (H : Heap) : S.le (S.froze H) := ⟨fun _ h => .inl h, Nat.le_refl _, fun _ _ => rfl, fun _ _ => rfl⟩
section
variable {S : Sg} {w : World} {H : Heap}
theorem ConvE.len : ∀ {es es' : List (List AV)}, ConvE H es es' → es'.length = es.length
  | _, _, .nil => rfl
  | _, _, .cons _ _ _ _ _ h => by simp [ConvE.len h]
mutual
theorem Conv.rep (hS : St S w H) : ∀ {x y : AV} {u : Value}, Conv H x y → rep S w x u → Aw.rep (S.froze H) w y u
  | _, _, _, .refl x, h => rep_mono (S.le_froze H) (Kept.refl S w) _ _ h
  | _, _, _, .any x, _ => by simp only [Aw.rep]
  | _, _, u, .row k r es hk he, h => by
    simp only [Aw.rep] at h ⊢
    obtain ⟨_, rfl, _, _, _, hloc0⟩ := h
    have hR := hS.rows k r hk
    obtain ⟨xs, ho, hr, h1⟩ := hR.sl hloc0
    rcases ho.2 with ⟨hv, hn⟩ | ⟨g, cap, cur, hv, _, h2, h3, h4, h5⟩
    · have h0 := List.eq_nil_of_length_eq_zero hn
      refine ⟨none, 0, 0, hv, by rw [he.len, hn], Nat.le_refl _, Nat.zero_le _, .inl ?_⟩
      exact List.eq_nil_of_length_eq_zero (by rw [he.len, hn])
    · refine ⟨_, _, cap, hv, he.len, h3, h4, .inr ⟨g, 0, r.sz, rfl, .inr ⟨k, r, hk, by rw [hv]; rfl⟩, hR.pos, ?_⟩⟩
      refine ConvE.rep hS he ?_
      refine elsAt_of_flat _ _ hR.len (cellsAt_of_repL _ xs 0 hr h1 fun j u hu => ?_)
      have := ho.cells (g := g) (by rw [hv]; rfl) j u hu
      rwa [Addr.add_lit] at this
  | _, _, _, .part0 k a r hk, h => by
    simp only [Aw.rep] at h ⊢
    obtain ⟨_, ad, n, c, ad', cc, hloc, rfl, h1, h2, h3, h4, h5, h6, h7⟩ := h
    have hR := hS.rows k r hk
    obtain ⟨xs, ho, _, _⟩ := hR.sl hloc
    have hc : c ≤ maxLen := by
      rcases ho.2 with ⟨hv, _⟩ | ⟨g, cap, cur, hv, _, _, _, h8, _⟩
      · rw [hloc] at hv
        cases hv
        exact Nat.zero_le _
      · rw [hloc] at hv
        cases hv
        exact h8
    exact ⟨ad', a - a, cc, rfl, (Nat.sub_self a).symm, h6, Nat.le_trans h7 (Nat.le_trans (Nat.sub_le c a) hc), .inl trivial⟩
  | _, _, _, .sl es es' he, h => by
    simp only [Aw.rep] at h ⊢
    obtain ⟨ad, n, c, rfl, h1, h2, h3, h4⟩ := h
    refine ⟨ad, n, c, rfl, by rw [he.len, h1], h2, h3, ?_⟩
    rcases h4 with h4 | ⟨b, o, sz, rfl, hb, hs, hels⟩
    · exact .inl (List.eq_nil_of_length_eq_zero (by rw [he.len, h4]; rfl))
    · exact .inr ⟨b, o, sz, rfl, .inl hb, hs, ConvE.rep hS he hels⟩
  | _, _, _, .agg cs cs' hc, h => by
    simp only [Aw.rep] at h ⊢
    obtain ⟨l, rfl, h1, h2⟩ := h
    exact ⟨l, rfl, ConvL.rep hS hc h1, h2⟩
  | _, _, _, .tup cs cs' hc, h => by
    simp only [Aw.rep] at h ⊢
    obtain ⟨l, rfl, h1⟩ := h
    exact ⟨l, rfl, ConvL.rep hS hc h1⟩
  | _, _, _, .ptr k i f r cs hk hi hc, h => by
    simp only [Aw.rep] at h ⊢
    obtain ⟨_, g, n, c, hloc, rfl⟩ := h
    have hR := hS.rows k r hk
    have hne : r.es ≠ [] := fun e => by rw [e] at hi; simp at hi
    obtain ⟨g', n', c', hloc', he, _⟩ := hR.els hloc hne
    rw [hloc] at hloc'
    injection hloc' with e1 e2 e3
    injection e1 with e1
    injection e1 with e1
    subst e1
    obtain ⟨e4, e5⟩ := elsAt_get _ 0 i he hi
    rw [Nat.zero_add, hR.sz] at e5
    exact ⟨g, i * S.sz k, rfl, .inr ⟨k, r, hk, by rw [hloc]; rfl⟩, (ConvL.cells hS hc e5).1⟩
  | _, _, _, .fn f cap cap' hc, h => by
    simp only [Aw.rep] at h ⊢
    obtain ⟨l, rfl, h1⟩ := h
    exact ⟨l, rfl, ConvL.rep hS hc h1⟩
theorem ConvL.rep (hS : St S w H) : ∀ {x y : List AV} {l : List Value}, ConvL H x y → repL S w x l → repL (S.froze H) w y l
  | _, _, _, .nil, h => h
  | _, _, _, .cons x y r s hx hr, h => by
    simp only [repL] at h ⊢
    obtain ⟨u, t, rfl, h1, h2⟩ := h
    exact ⟨u, t, rfl, Conv.rep hS hx h1, ConvL.rep hS hr h2⟩
theorem ConvL.cells (hS : St S w H) {b : Nat} : ∀ {x y : List AV} {o : Nat}, ConvL H x y → cellsAt S w b o x → cellsAt (S.froze H) w b o y ∧ y.length = x.length
  | _, _, _, .nil, _ => ⟨trivial, rfl⟩
  | _, _, o, .cons x y r s hx hr, h => by
    simp only [cellsAt] at h ⊢
    obtain ⟨⟨u, h1, h2, h3⟩, h4⟩ := h
    obtain ⟨e1, e2⟩ := ConvL.cells hS hr h4
    exact ⟨⟨⟨u, h1, h2, Conv.rep hS hx h3⟩, e1⟩, by simp [e2]⟩
theorem ConvE.rep (hS : St S w H) {b sz : Nat} : ∀ {x y : List (List AV)} {o : Nat}, ConvE H x y → elsAt S w b sz o x → elsAt (S.froze H) w b sz o y
  | _, _, _, .nil, _ => trivial
  | _, _, o, .cons x y r s hx hr, h => by
    simp only [elsAt] at h ⊢
    obtain ⟨h1, h2, h3⟩ := h
    obtain ⟨e1, e2⟩ := ConvL.cells hS hx h2
    exact ⟨by rw [e2, h1], e1, ConvE.rep hS hr h3⟩
end
end
mutual
def fv : AV → Option Value
  | .v x => some x
  | .tup vs => (fvL vs).map fun l => .tuple l.toArray
  | .agg vs => (fvL vs).map fun l => .agg l.toArray
  | _ => none
def fvL : List AV → Option (List Value)
  | [] => some []
  | x :: r => match fv x, fvL r with
    | some u, some l => some (u :: l)
    | _, _ => none
end
mutual
theorem fv_rep {S : Sg} {w : World} : ∀ {x : AV} {u v : Value}, fv x = some v → rep S w x u → u = v
  | .v x, u, v, h, hr => by
    simp only [fv] at h
    injection h with h
    subst h
    simpa only [rep] using hr
  | .tup vs, u, v, h, hr => by
    simp only [fv] at h
    cases hl : fvL vs with
    | none => simp [hl] at h
    | some l =>
      simp [hl] at h
      subst h
      simp only [rep] at hr
      obtain ⟨l', rfl, h1⟩ := hr
      rw [fvL_rep hl h1]
  | .agg vs, u, v, h, hr => by
    simp only [fv] at h
    cases hl : fvL vs with
    | none => simp [hl] at h
    | some l =>
      simp [hl] at h
      subst h
      simp only [rep] at hr
      obtain ⟨l', rfl, h1, _⟩ := hr
      rw [fvL_rep hl h1]
  | .any, _, _, h, _ => by simp [fv] at h
  | .sl _, _, _, h, _ => by simp [fv] at h
  | .rp _ _, _, _, h, _ => by simp [fv] at h
  | .os _, _, _, h, _ => by simp [fv] at h
  | .op _ _ _, _, _, h, _ => by simp [fv] at h
  | .gd _ _, _, _, h, _ => by simp [fv] at h
  | .fn _ _, _, _, h, _ => by simp [fv] at h
  | .nf _, _, _, h, _ => by simp [fv] at h
  | .oz _ _ _, _, _, h, _ => by simp [fv] at h
  | .cl _, _, _, h, _ => by simp [fv] at h
theorem fvL_rep {S : Sg} {w : World} : ∀ {x : List AV} {u v : List Value}, fvL x = some v → repL S w x u → u = v
  | [], u, v, h, hr => by
    simp only [fvL] at h
    injection h with h
    subst h
    simpa only [repL] using hr
  | x :: r, u, v, h, hr => by
    simp only [fvL] at h
    cases h1 : fv x with
    | none => simp [h1] at h
    | some a =>
      cases h2 : fvL r with
      | none => simp [h1, h2] at h
      | some l =>
        simp [h1, h2] at h
        subst h
        simp only [repL] at hr
        obtain ⟨u', t, rfl, e1, e2⟩ := hr
        rw [fv_rep h1 e1, fvL_rep h2 e2]
end
mutual
theorem fv_any {S S2 : Sg} {w w2 : World} : ∀ {x : AV} {u v : Value}, fv x = some v → rep S w x u → rep S2 w2 x u
  | .v x, u, v, h, hr => by simpa only [rep] using hr
  | .tup vs, u, v, h, hr => by
    simp only [fv] at h
    cases hl : fvL vs with
    | none => simp [hl] at h
    | some l =>
      simp only [rep] at hr ⊢
      obtain ⟨l', rfl, h1⟩ := hr
      exact ⟨l', rfl, fvL_any hl h1⟩
  | .agg vs, u, v, h, hr => by
    simp only [fv] at h
    cases hl : fvL vs with
    | none => simp [hl] at h
    | some l =>
      simp only [rep] at hr ⊢
      obtain ⟨l', rfl, h1, h2⟩ := hr
      exact ⟨l', rfl, fvL_any hl h1, h2⟩
  | .any, _, _, h, _ => by simp [fv] at h
  | .sl _, _, _, h, _ => by simp [fv] at h
  | .rp _ _, _, _, h, _ => by simp [fv] at h
  | .os _, _, _, h, _ => by simp [fv] at h
  | .op _ _ _, _, _, h, _ => by simp [fv] at h
  | .gd _ _, _, _, h, _ => by simp [fv] at h
  | .fn _ _, _, _, h, _ => by simp [fv] at h
  | .nf _, _, _, h, _ => by simp [fv] at h
  | .oz _ _ _, _, _, h, _ => by simp [fv] at h
  | .cl _, _, _, h, _ => by simp [fv] at h
theorem fvL_any {S S2 : Sg} {w w2 : World} : ∀ {x : List AV} {u v : List Value}, fvL x = some v → repL S w x u → repL S2 w2 x u
  | [], u, v, h, hr => by simpa only [repL] using hr
  | x :: r, u, v, h, hr => by
    simp only [fvL] at h
    cases h1 : fv x with
    | none => simp [h1] at h
    | some a =>
      cases h2 : fvL r with
      | none => simp [h1, h2] at h
      | some l =>
        simp only [repL] at hr ⊢
        obtain ⟨u', t, rfl, e1, e2⟩ := hr
        exact ⟨u', t, rfl, fv_any h1 e1, fvL_any h2 e2⟩
end
def Post (S : Sg) (w : World) (H : Heap) (R : AV → Heap → Prop) (e : Ending) (w' : World) : Prop :=
  ∃ v r H' S', e = .returned v ∧ R r H' ∧ St S' w' H' ∧ rep S' w' r v ∧ Grow S w S' w' ∧ NewK S.N H H'
def FCalls (P : Program) (f : FuncId) (args : List AV) (H : Heap) (R : AV → Heap → Prop) : Prop :=
  ∀ S w (vals : List Value), St S w H → repL S w args vals → Calls P f vals.toArray w (Post S w H R)
def noRows : Heap := fun _ => none
def RC (P : Program) (f : FuncId) (args : List AV) (R : AV → Heap → Prop) : Prop :=
  ∀ S w (vals : List Value), St S w noRows → (∀ k, k < w.heap.size → S.fz k) → repL S w args vals → Calls P f vals.toArray w (Post S w noRows R)
def PC (P : Program) (f : FuncId) (args : List AV) (r : AV) : Prop := RC P f args fun x _ => x = r
def NC (P : Program) (f : FuncId) (args : List AV) (row : Row) (mk : Nat → AV) : Prop := RC P f args fun x H' => ∃ k, x = mk k ∧ H' k = some row
def QFlat (P : Program) (f : FuncId) (args : List AV) (H : Heap) (r : AV) : Prop := ∃ args', ConvL H args args' ∧ PC P f args' r ∧ (fv r).isSome = true
def QCalls (P : Program) (f : FuncId) (args : List AV) (H : Heap) (r : AV) : Prop := QFlat P f args H r ∨ ∃ x, r = .nf x ∧ PC P f args x
theorem nfq_flat {q : Bool} {r : AV} {K : AV → Prop} (h : (fv r).isSome = true) : nfq q r K = K r := by
  cases q <;> cases r <;> first | rfl | (simp [fv] at h)
theorem nfq_elim {q : Bool} {r : AV} {K : AV → Prop} (h : nfq q r K) : ∃ z, K z := by
  unfold nfq at h
  split at h
  · exact h.elim
  · exact ⟨_, h⟩
  · exact ⟨_, h⟩
section
variable {P : Program} {f : FuncId} {args : List AV} {H : Heap} {R K : AV → Heap → Prop}
theorem St.drop {S : Sg} {w : World} {H' : Heap} (h : St S w H) (hs : ∀ k r, H' k = some r → H k = some r) : St S w H' :=
  ⟨h.ro_fz, h.fz_lt, fun k r hk => h.rows k r (hs k r hk), fun k r hk => h.free k r (hs k r hk), fun k k' r r' hk hk' => h.disj k k' r r' (hs k r hk) (hs k' r' hk'), h.tabs⟩
theorem RC.conv {r : AV} (h : RC P f args fun x H' => Conv H' x r) : PC P f args r := fun S w vals hS hf ha =>
  (h S w vals hS hf ha).mono fun e w' ⟨v, x, H', S', he, hx, hS', hv, hg, hn⟩ => by
    refine ⟨v, r, noRows, S'.froze H', he, rfl, ⟨?_, ?_, fun k r hk => by simp [noRows] at hk, fun k r hk => by simp [noRows] at hk, fun k k' r r' hk => by simp [noRows] at hk, hS'.tabs.keep (S'.le_froze H') (Kept.refl S' w')⟩, hx.rep hS' hv, ?_, fun _ _ _ => rfl⟩
    · rintro g (hg' | hg')
      · exact .inl (hS'.ro_fz g hg')
      · exact .inr hg'
    · rintro g (hg' | ⟨k, row, hk, hg'⟩)
      · exact hS'.fz_lt g hg'
      · exact (hS'.rows k row hk).block_lt hg'
    · refine ⟨Sg.le_trans hg.le (S'.le_froze H'), fun k hk => .inl (hg.fz k hk), hg.os, hg.tape, hg.output, hg.size, hg.same, ?_⟩
      rintro g (hg' | ⟨k, row, hk, hg'⟩)
      · exact hg.newro g hg'
      · exact .inr fun h2 => hS'.free k row hk g hg' (hg.fz g h2)
def merge (H H' : Heap) : Heap := fun k => match H' k with | some r => some r | none => H k
theorem RC.frame (h : RC P f args R) (hK : ∀ r H', R r H' → (∀ k row, H' k = some row → H k = none) → ∃ H'', K r H'' ∧ (∀ k row, H'' k = some row → merge H H' k = some row) ∧ ∀ k, H k = none → H' k = none → H'' k = none) :
    FCalls P f args H K := by
  intro S w vals hS ha
  let S0 : Sg := { S with fz := fun k => k < w.heap.size }
  have hle0 : S.le S0 := ⟨fun _ h => h, Nat.le_refl _, fun _ _ => rfl, fun _ _ => rfl⟩
  have hS0 : St S0 w noRows := ⟨fun k hk => hS.fz_lt k (hS.ro_fz k hk), fun _ h => h, fun k r hk => by simp [noRows] at hk, fun k r hk => by simp [noRows] at hk, fun k k' r r' hk => by simp [noRows] at hk, hS.tabs⟩
  refine (h S0 w vals hS0 (fun _ h => h) (repL_mono hle0 (Kept.refl S w) _ _ ha)).mono fun e w' ⟨v, x, H', S', he, hx, hS', hv, hg, hn⟩ => ?_
  have hnew : ∀ k row, H' k = some row → S.N ≤ k := fun k row hk => by
    rcases Nat.lt_or_ge k S.N with hlt | hge
    · rw [hn k hlt rfl] at hk; simp at hk
    · exact hge
  have hdead : ∀ k row, H' k = some row → H k = none := fun k row hk => by
    cases hH : H k with
    | none => rfl
    | some r => have := (hS.rows k r hH).lt; have := hnew k row hk; omega
  obtain ⟨H'', hK1, hK2, hK3⟩ := hK x H' hx hdead
  let S'' : Sg := { S' with fz := fun k => S.fz k ∨ (S'.fz k ∧ w.heap.size ≤ k) ∨ S'.ro k }
  have hle'' : S'.le S'' := ⟨fun _ h => h, Nat.le_refl _, fun _ _ => rfl, fun _ _ => rfl⟩
  have hlt' : ∀ k, k < S.N → S'.loc k = S.loc k := hg.le.loc
  have hleS : S.le S'' := ⟨fun k hk => hg.le.ro k hk, hg.le.N, hg.le.loc, hg.le.sz⟩
  have hsame : ∀ k, k < w.heap.size → w'.heap[k]? = w.heap[k]? := hg.same
  have hkept : Kept S w w' := fun k hk => hsame k (hS.fz_lt k (hS.ro_fz k hk))
  have rowsH : ∀ k r, H k = some r → RowOK S'' w' k r := fun k r hk => (hS.rows k r hk).keep hleS hkept fun g hg' => hsame g ((hS.rows k r hk).block_lt hg')
  have rowsH' : ∀ k r, H' k = some r → RowOK S'' w' k r := fun k r hk => (hS'.rows k r hk).keep hle'' (Kept.refl S' w') fun _ _ => rfl
  have blkH : ∀ k r, H k = some r → ∀ g, blk (S''.loc k) = some g → blk (S.loc k) = some g ∧ g < w.heap.size := fun k r hk g hg' => by
    have h1 : S''.loc k = S.loc k := hlt' k (hS.rows k r hk).lt
    rw [h1] at hg'
    exact ⟨hg', (hS.rows k r hk).block_lt hg'⟩
  have blkH' : ∀ k r, H' k = some r → ∀ g, blk (S''.loc k) = some g → ¬ S'.fz g ∧ w.heap.size ≤ g := fun k r hk g hg' => by
    have h1 := hS'.free k r hk g hg'
    refine ⟨h1, ?_⟩
    rcases Nat.lt_or_ge g w.heap.size with hlt | hge
    · exact absurd (hg.fz g hlt) h1
    · exact hge
  have rowsM : ∀ k r, merge H H' k = some r → H' k = some r ∨ (H k = some r ∧ H' k = none) := fun k r hk => by
    unfold merge at hk
    cases h' : H' k with
    | none => rw [h'] at hk; exact .inr ⟨hk, rfl⟩
    | some r' => rw [h'] at hk; exact .inl hk
  have hM : St S'' w' (merge H H') := by
    refine ⟨fun k hk => .inr (.inr hk), ?_, ?_, ?_, ?_, hS'.tabs⟩
    · rintro k (hk | hk | hk)
      · exact Nat.lt_of_lt_of_le (hS.fz_lt k hk) hg.size
      · exact hS'.fz_lt k hk.1
      · exact hS'.fz_lt k (hS'.ro_fz k hk)
    · intro k r hk
      rcases rowsM k r hk with h' | ⟨h', _⟩
      · exact rowsH' k r h'
      · exact rowsH k r h'
    · intro k r hk g hg' hf
      rcases rowsM k r hk with h' | ⟨h', _⟩
      · obtain ⟨e1, e2⟩ := blkH' k r h' g hg'
        rcases hf with hf | hf | hf
        · have := hS.fz_lt g hf; omega
        · exact e1 hf.1
        · exact e1 (hS'.ro_fz g hf)
      · obtain ⟨e1, e2⟩ := blkH k r h' g hg'
        rcases hf with hf | hf | hf
        · exact hS.free k r h' g e1 hf
        · omega
        · rcases hg.newro g hf with h2 | h2
          · exact hS.free k r h' g e1 (hS.ro_fz g h2)
          · exact h2 e2
    · intro k k' r r' hk hk' hne g hg' hg2
      rcases rowsM k r hk with h1 | ⟨h1, _⟩
      · rcases rowsM k' r' hk' with h2 | ⟨h2, _⟩
        · exact hS'.disj k k' r r' h1 h2 hne g hg' hg2
        · have := (blkH' k r h1 g hg').2; have := (blkH k' r' h2 g hg2).2; omega
      · rcases rowsM k' r' hk' with h2 | ⟨h2, _⟩
        · have := (blkH k r h1 g hg').2; have := (blkH' k' r' h2 g hg2).2; omega
        · exact hS.disj k k' r r' h1 h2 hne g (blkH k r h1 g hg').1 (blkH k' r' h2 g hg2).1
  refine ⟨v, x, H'', S'', he, hK1, hM.drop hK2, rep_mono hle'' (Kept.refl S' w') _ _ hv, ⟨hleS, fun _ h => .inl h, hg.os, hg.tape, hg.output, hg.size, fun k hk => hsame k (hS.fz_lt k hk), fun k hk => (hg.newro k hk).imp id (fun h2 h3 => h2 (hS.fz_lt k h3))⟩, ?_⟩
  · intro k hk h0
    exact hK3 k h0 (hn k hk rfl)
theorem PC.use {r : AV} (h : PC P f args r) (hK : K r H) : FCalls P f args H K :=
  RC.frame h fun x H' hx hd => ⟨H, hx ▸ hK, fun k row hk => by
    unfold merge
    cases h' : H' k with
    | none => exact hk
    | some r' => rw [hd k r' h'] at hk; simp at hk, fun _ h _ => h⟩
theorem NC.use {row : Row} {mk : Nat → AV} (h : NC P f args row mk) (hK : ∀ k, H k = none → K (mk k) (updH H k (some row))) : FCalls P f args H K :=
  RC.frame h fun x H' ⟨k, hx, hk⟩ hd => ⟨updH H k (some row), hx ▸ hK k (hd k row hk), fun j r hj => by
    unfold merge
    by_cases e : j = k
    · subst e; rw [updH_same] at hj; rw [hk]; exact hj
    · rw [updH_ne _ _ _ _ e] at hj
      cases h' : H' j with
      | none => exact hj
      | some r' => rw [hd j r' h'] at hj; simp at hj, fun j h0 h1 => by
    by_cases e : j = k
    · subst e; rw [hk] at h1; simp at h1
    · rw [updH_ne _ _ _ _ e]; exact h0⟩
theorem QFlat.val {r : AV} (h : QFlat P f args H r) : ∃ v, fv r = some v := by
  obtain ⟨_, _, _, hf⟩ := h
  exact Option.isSome_iff_exists.1 hf
theorem QFlat.calls {r : AV} (h : QFlat P f args H r) {v : Value} (hv : fv r = some v) {S : Sg} {w : World} {vals : List Value} (hS : St S w H) (ha : repL S w args vals) :
    (∀ S2 w2, rep S2 w2 r v) ∧ Calls P f vals.toArray w fun e w' => e = .returned v ∧ w'.os = w.os ∧ w'.tape = w.tape ∧ w'.output = w.output ∧ w.heap.size ≤ w'.heap.size ∧ ∀ k, k < w.heap.size → w'.heap[k]? = w.heap[k]? := by
  obtain ⟨args', hc, hp, hf⟩ := h
  let S0 : Sg := { S.froze H with fz := fun k => k < w.heap.size }
  have hle0 : (S.froze H).le S0 := ⟨fun _ h => h, Nat.le_refl _, fun _ _ => rfl, fun _ _ => rfl⟩
  have hS0 : St S0 w noRows := ⟨fun k hk => by
    rcases hk with hk | ⟨j, r, hj, hg⟩
    · exact hS.fz_lt k (hS.ro_fz k hk)
    · exact (hS.rows j r hj).block_lt hg, fun _ h => h, fun k r hk => by simp [noRows] at hk, fun k r hk => by simp [noRows] at hk, fun k k' r r' hk => by simp [noRows] at hk, (hS.tabs.keep (S.le_froze H) (Kept.refl S w)).keep hle0 (Kept.refl _ w)⟩
  have hcalls := hp S0 w vals hS0 (fun _ h => h) (repL_mono hle0 (Kept.refl _ w) _ _ (hc.rep hS ha))
  refine ⟨fun S2 w2 => ?_, hcalls.mono fun e w' ⟨v', x, H', S', he, hx, hS', hv', hg, hn⟩ => ?_⟩
  · obtain ⟨e, w', fr, ⟨v', x, H', S', he, hx, hS', hv', _⟩, _⟩ := hcalls []
    subst hx
    have := fv_rep hv hv'
    subst this
    exact fv_any hv hv'
  · subst hx
    have := fv_rep hv hv'
    subst this
    exact ⟨he, hg.os, hg.tape, hg.output, hg.size, hg.same⟩
theorem St.after {S : Sg} {w w' : World} (hS : St S w H) (hs : w.heap.size ≤ w'.heap.size) (hk : ∀ k, k < w.heap.size → w'.heap[k]? = w.heap[k]?) : St S w' H :=
  ⟨hS.ro_fz, fun k h => Nat.lt_of_lt_of_le (hS.fz_lt k h) hs, fun k r h => (hS.rows k r h).keep S.le_refl (fun j hj => hk j (hS.fz_lt j (hS.ro_fz j hj))) fun g hg => hk g ((hS.rows k r h).block_lt hg), hS.free, hS.disj, hS.tabs.keep S.le_refl (fun j hj => hk j (hS.fz_lt j (hS.ro_fz j hj)))⟩
theorem St.grow {S : Sg} {w w' : World} (hS : St S w H) (ho : w'.os = w.os) (ht : w'.tape = w.tape) (hu : w'.output = w.output) (hs : w.heap.size ≤ w'.heap.size) (hk : ∀ k, k < w.heap.size → w'.heap[k]? = w.heap[k]?) : Grow S w S w' :=
  ⟨S.le_refl, fun _ h => h, ho, ht, hu, hs, fun k h => hk k (hS.fz_lt k h), fun _ h => .inl h⟩
theorem QFlat.use {r : AV} (h : QFlat P f args H r) (hK : K r H) : FCalls P f args H K := by
  intro S w vals hS ha
  obtain ⟨v, hv'⟩ := h.val
  obtain ⟨hv, hc⟩ := h.calls hv' hS ha
  refine hc.mono fun e w' ⟨he, ho, ht, hu, hs, hk⟩ => ⟨v, r, H, S, he, hK, hS.after hs hk, ?_, hS.grow ho ht hu hs hk, NewK.refl _ _⟩
  exact hv S w'
end
end Go.Aw
end

section
set_option linter.unusedSimpArgs false
set_option linter.unusedVariables false
namespace Go.Aw
open Go.RowKit
def Rel (D : List Deferred) (n : Nat) (S0 : Sg) (w0 : World) (H0 : Heap) (ρ : Env) (H : Heap) (a : Act) (w : World) : Prop :=
  ∃ S, St S w H ∧ FR S w ρ a ∧ Grow S0 w0 S w ∧ NewK S0.N H0 H ∧ a.defers = D ∧ a.tmps.size = n
def dstB (n : Nat) : Option Nat → Bool
  | some d => decide (d < n)
  | none => true
def operB (n : Nat) (o : Oper) : Bool := o.op.operands.all (opB n) && dstB n o.dst
section
variable {D : List Deferred} {P : Program} {n : Nat} {S0 : Sg} {w0 : World} {H0 : Heap} {mt : Nat → Bool} {ops : Array Oper}
theorem operB_spec {o : Oper} (h : operB n o = true) : (∀ x ∈ o.op.operands, opB n x = true) ∧ dstB n o.dst = true := by
  simp only [operB, Bool.and_eq_true] at h
  exact ⟨fun x hx => Array.all_eq_true_iff_forall_mem.1 h.1 x hx, h.2⟩
theorem size_put (a : Act) (d : Option Nat) (v : Value) : (a.put d v).tmps.size = a.tmps.size := by cases d <;> simp [Act.put]
theorem defers_put (a : Act) (d : Option Nat) (v : Value) : (a.put d v).defers = a.defers := by cases d <;> simp [Act.put]
theorem wguard_sound {S : Sg} {w : World} {ρ : Env} {a : Act} {o : Oper} {K : Option Bool → Prop} (hops : ∀ o ∈ ops, operB n o = true) (hF : FR S w ρ a) (hn : a.tmps.size = n) (h : wguard ops ρ o.guard K) :
    ∃ G, K G ∧ (Region.wanted o (yielded ops a.tmps) = true ↔ gt G) := by
  unfold wguard at h
  unfold Region.wanted
  cases hg : o.guard with
  | none =>
    rw [hg] at h
    exact ⟨none, h, by simp [gt]⟩
  | some jw =>
    obtain ⟨j, want⟩ := jw
    rw [hg] at h
    simp only at h
    cases hd : (ops[j]?).bind (·.dst) with
    | none => rw [hd] at h; exact h.elim
    | some t =>
      rw [hd] at h
      simp only at h
      have ht : t < a.tmps.size := by
        cases ho : ops[j]? with
        | none => simp [ho] at hd
        | some oj =>
          simp [ho] at hd
          have := (operB_spec (hops oj (Array.mem_of_getElem? ho))).2
          rw [hd] at this
          simpa [dstB, hn] using this
      have hy : yielded ops a.tmps j = match a.tmps.getD t undef with | .bool b => some b | _ => none := by
        unfold yielded
        rw [hd]
        have e : a.tmps.getD t undef = a.tmps[t] := by simp [Array.getD, ht]
        rw [e]
        simp only [Option.bind_some, Array.getElem?_eq_getElem ht]
        cases a.tmps[t] <;> rfl
      have hr := hF t ht
      split at h
      · rename_i b hb
        rw [hb] at hr
        simp only [rep] at hr
        rw [hr] at hy
        refine ⟨_, h, ?_⟩
        simp only [hy, gt]
        cases b <;> cases want <;> simp
      · rename_i g b hb
        rw [hb] at hr
        simp only [rep] at hr
        refine ⟨_, h, ?_⟩
        cases g with
        | true =>
          rw [hr.1 rfl] at hy
          simp only [hy, gt]
          cases b <;> cases want <;> simp
        | false =>
          rw [hr.2 rfl] at hy
          simp [undef] at hy
          simp [hy, gt]
      · exact h.elim
theorem rep_wr_false {S : Sg} {w : World} {G : Option Bool} {z : AV} (h : ¬ gt G) : rep S w (wr G z) undef := by
  cases G with
  | none => exact absurd trivial h
  | some b =>
    have : b = false := by simpa [gt] using h
    subst this
    simp [wr, rep]
theorem rep_wr_true {S : Sg} {w : World} {G : Option Bool} {z : AV} {v : Value} (h : gt G) (hv : rep S w z v) : rep S w (wr G z) v := by
  cases G with
  | none => exact hv
  | some b =>
    have : b = true := h
    subst this
    simpa [wr, rep] using hv
end
section
variable {D : List Deferred} {P : Program} {n : Nat} {S0 : Sg} {w0 : World} {H0 : Heap} {mt : Nat → Bool} {ops : Array Oper} {K : Env → Heap → Prop} {K' : Act → World → Prop} {Q' : Exit → Act → World → Prop} {ρ : Env} {H : Heap} {a : Act} {w : World} {o : Oper} {S : Sg}
def Ends (P : Program) (ops : Array Oper) (o : Oper) (a : Act) (w : World) (K' : Act → World → Prop) (Q' : Exit → Act → World → Prop) : Prop :=
  (Region.wanted o (yielded ops a.tmps) = true → o.wp P a w K' Q') ∧ (Region.wanted o (yielded ops a.tmps) = false → K' (a.put o.dst undef) w)
theorem wp_value {v : Value} {w' : World} (h : (execOp a.eval o).run P w = .ok (.value v) w') (hk : K' (a.put o.dst v) w') : o.wp P a w K' Q' := by
  unfold Oper.wp
  rw [h]
  exact hk
theorem Rel.step (hS : St S w H) (hF : FR S w ρ a) (hG : Grow S0 w0 S w) (hN : NewK S0.N H0 H) (hd : a.defers = D) (hn : a.tmps.size = n) {S' : Sg} {w' : World} {H' : Heap} {z : AV} {v : Value} {d : Option Nat}
    (hS' : St S' w' H') (hG' : Grow S w S' w') (hN' : NewK S.N H H') (hv : rep S' w' z v) : Rel D n S0 w0 H0 (upd ρ d z) H' (a.put d v) w' :=
  ⟨S', hS', FR.put (hF.keep hG'.le (hG'.kept hS)) hv, hG.trans hG', hN.trans hN' hG.le.N, by rw [defers_put]; exact hd, by rw [size_put]; exact hn⟩
theorem pure_ends (hS : St S w H) (hF : FR S w ρ a) (hG : Grow S0 w0 S w) (hN : NewK S0.N H0 H) (hd : a.defers = D) (hn : a.tmps.size = n) (hb : ∀ x ∈ o.op.operands, opB n x = true) {G : Option Bool}
    (hgt : Region.wanted o (yielded ops a.tmps) = true ↔ gt G) (hK : ∀ ρ' H' a' w', K ρ' H' → Rel D n S0 w0 H0 ρ' H' a' w' → K' a' w') (h : apure P G ρ H o.op fun x => K (upd ρ o.dst (wr G x)) H) :
    Ends P ops o a w K' Q' := by
  obtain ⟨z, hz, hg⟩ := apure_sound (hn ▸ hb) hF hS.rows h
  refine ⟨fun hw => ?_, fun hw => ?_⟩
  · have hgG := hgt.1 hw
    obtain ⟨v, hv, hr⟩ := hg hgG
    exact wp_value (hr w (Agree.refl S H w) o rfl) (hK _ _ _ _ hz (Rel.step hS hF hG hN hd hn hS (Grow.refl S w) (NewK.refl _ _) (rep_wr_true hgG hv)))
  · have hgG : ¬ gt G := fun h => by rw [hgt.2 h] at hw; simp at hw
    exact hK _ _ _ _ hz (Rel.step hS hF hG hN hd hn hS (Grow.refl S w) (NewK.refl _ _) (rep_wr_false hgG))
theorem newK_upd (hS : St S w H) {r : Option Row} : NewK S.N H (updH H S.N r) := fun k hk h => by rw [updH_ne _ _ _ _ (Nat.ne_of_lt hk)]; exact h
theorem run_box (t : TypeId) (v : Value) (w : World) : (Instr.box t v).run P w = .ok (.pointer (some ⟨w.heap.size, 0, none⟩)) (w.alloc (.cells v.cells t)) := by
  simp [Instr.box, newVar, newRow]
theorem run_alloc {t : TypeId} {z : List AV} (h : zeroT P t = some z) (old : Value) (w : World) : ∃ (v : Value) (i : TypeInfo), P.info? t = some i ∧ z = v.cells.toList.map zeroV ∧ (∀ u ∈ v.cells.toList, u.oneCell' = true) ∧ v.cells.size ≠ 0 ∧
    (Instr.alloc t true old).run P w = .ok (.pointer (some ⟨w.heap.size, 0, none⟩)) (w.alloc (.cells v.cells t)) := by
  obtain ⟨i, v, hi, hz, hzz, hsz, hne, h1⟩ := zeroT_spec h
  refine ⟨v, i, hi, hzz, h1, by rw [hsz]; exact hne, ?_⟩
  simp [Instr.alloc, zeroValue, typeInfo, hi, hz, newVar, newRow]
theorem box_state (hS : St S w H) {t : TypeId} {cs : List AV} {l : List Value} (hpos : 0 < cs.length) (hr : repL S w cs l) (h1 : ∀ u ∈ l, u.oneCell' = true) :
    ∃ S', St S' (w.alloc (.cells l.toArray t)) (updH H S.N (some ⟨t, cs.length, [cs]⟩)) ∧ Grow S w S' (w.alloc (.cells l.toArray t)) ∧ rep S' (w.alloc (.cells l.toArray t)) (.op S.N 0 0) (.pointer (some ⟨w.heap.size, 0, none⟩)) := by
  have hl := repL_len _ _ hr
  have := hS.newRow (e := t) (sz := cs.length) (cap := 1) (es := [cs]) (xs := l) (cur := l.toArray) hpos (by simp) (by simpa using hr) h1 (by simp) (by simp [maxLen]) (by simp [hl]) (by simp [← hl]) (w' := w.alloc (.cells l.toArray t)) rfl rfl rfl rfl
  refine ⟨_, this.1, this.2, ?_⟩
  simp only [rep, Sg.addRow]
  exact ⟨Nat.lt_succ_self _, w.heap.size, 1, 1, by simp, by simp⟩
theorem iota_range : ∀ (i n : Nat), iota i n = List.range' i n
  | _, 0 => rfl
  | i, n + 1 => by simp [iota, List.range'_succ, iota_range (i + 1) n]
theorem fill_iota {sz n : Nat} : ∀ (l : List (Nat × List AV)) (vs : List (Nat × Value)) (i : Nat) (A : Array Value), l.map (·.1) = iota i l.length → allLen sz (l.map (·.2)) → l.length = vs.length →
    (∀ (j k : Nat) (c : List AV), l[j]? = some (k, c) → ∃ (v : Value) (l' : List Value), vs[j]? = some (k, v) ∧ v.cells = List.toArray l' ∧ repL S w c l' ∧ ∀ u ∈ l', u.oneCell' = true) → A.size = n * sz → i + l.length = n →
    ∃ xs : List Value, Instr.fill (fun i => some (i * sz, sz)) A vs = some (A.toList.take (i * sz) ++ xs).toArray ∧ repL S w (l.map (·.2)).flatten xs ∧ ∀ u ∈ xs, u.oneCell' = true
  | [], vs, i, A, _, _, hl, _, hA, hi => by
    have : vs = [] := List.eq_nil_of_length_eq_zero (by simpa using hl.symm)
    subst this
    refine ⟨[], ?_, by simp [repL], by simp⟩
    simp only [Instr.fill, List.append_nil]
    have : i = n := by simpa using hi
    subst this
    rw [List.take_of_length_le (by simp [hA])]
  | (k, c) :: rest, vs, i, A, hmap, hlen, hl, hv, hA, hi => by
    simp only [List.map_cons, List.length_cons, iota, List.cons.injEq] at hmap
    obtain ⟨rfl, hmap⟩ := hmap
    simp only [List.map_cons, allLen] at hlen
    obtain ⟨v, l', e1, e2, e3, e4⟩ := hv 0 k c (by simp)
    cases vs with
    | nil => simp at e1
    | cons q vs =>
      simp at e1
      subst e1
      have hll : l'.length = sz := by rw [repL_len _ _ e3]; exact hlen.1
      simp only [List.length_cons] at hi
      have hm : (k + 1) * sz ≤ n * sz := Nat.mul_le_mul_right _ (by omega)
      rw [Nat.add_mul, Nat.one_mul] at hm
      have hz := foldl_set l' 0 A (k * sz) (by rw [hll, hA]; omega)
      simp only [Nat.add_zero] at hz
      obtain ⟨xs, f1, f2, f3⟩ := fill_iota (n := n) rest vs (k + 1) (A.toList.take (k * sz) ++ l' ++ A.toList.drop (k * sz + l'.length)).toArray hmap hlen.2 (by simpa using hl) (fun j i c hj => by simpa using hv (j + 1) i c (by simpa using hj))
        (by simp only [List.size_toArray, List.length_append, List.length_take, List.length_drop, Array.length_toList, hll, hA]; omega) (by omega)
      refine ⟨l' ++ xs, ?_, ?_, ?_⟩
      · simp only [Instr.fill, e2, List.size_toArray, hll]
        rw [if_neg (by simp [hA]; omega)]
        have hfold : (Array.foldl (fun cs (x : Value × Nat) => cs.setIfInBounds (k * sz + x.2) x.1) A l'.toArray.zipIdx) = (A.toList.take (k * sz) ++ l' ++ A.toList.drop (k * sz + l'.length)).toArray := by
          rw [← hz, ← Array.foldl_toList]
          simp
        rw [hfold, f1]
        congr 2
        have e5 : List.take ((k + 1) * sz) (A.toList.take (k * sz) ++ l' ++ A.toList.drop (k * sz + l'.length)) = A.toList.take (k * sz) ++ l' := by
          rw [Nat.add_mul, Nat.one_mul, List.take_append_of_le_length (by rw [List.length_append, List.length_take, Array.length_toList, hll, hA]; omega), List.take_of_length_le (by rw [List.length_append, List.length_take, Array.length_toList, hll, hA]; omega)]
        rw [e5, List.append_assoc]
      · simp only [List.map_cons, List.flatten_cons]
        exact repL_append _ _ _ _ e3 f2
      · intro u hu
        rcases List.mem_append.1 hu with hu | hu
        · exact e4 u hu
        · exact f3 u hu
theorem run_buildSlice {t e : TypeId} {sz bytes : Nat} (he : elemT P t = some (e, sz, bytes)) {l : List (Nat × List AV)} {parts : Array (Nat × Value)} {m : Nat} (hmap : l.map (·.1) = iota 0 m) (hlen : allLen sz (l.map (·.2))) (hl : l.length = parts.toList.length)
    (hv : ∀ (j k : Nat) (c : List AV), l[j]? = some (k, c) → ∃ (v : Value) (l' : List Value), parts.toList[j]? = some (k, v) ∧ v.cells = List.toArray l' ∧ repL S w c l' ∧ ∀ u ∈ l', u.oneCell' = true) (hm : m * sz ≤ 16777216) :
    ∃ xs : List Value, (Instr.buildSlice t m parts).run P w = .ok (.slice (some ⟨w.heap.size, 0, none⟩) m m) (w.alloc (.cells xs.toArray e)) ∧ repL S w (l.map (·.2)).flatten xs ∧ (∀ u ∈ xs, u.oneCell' = true) ∧ l.length = m ∧ xs.length = m * sz := by
  obtain ⟨inf, z, hu, hi, rfl, _, hpos, _, hz, hzs⟩ := elemT_spec he
  have hlm : l.length = m := by
    have := congrArg List.length hmap
    simpa [iota_range] using this
  have hflat : ∀ xs : List Value, repL S w (l.map (·.2)).flatten xs → xs.length = m * inf.size := fun xs h => by
    rw [repL_len _ _ h, flat_len _ (allLen_iff.1 hlen), List.length_map, hlm]
  subst hlm
  obtain ⟨xs, f1, f2, f3⟩ := fill_iota (n := l.length) l parts.toList 0 ((Array.range (l.length * inf.size)).map (z.cells[· % z.cells.size]!)) hmap hlen hl hv (by simp) (by simp)
  simp only [Nat.zero_mul, List.take_zero, List.nil_append] at f1
  refine ⟨xs, ?_, f2, f3, rfl, hflat xs f2⟩
  have hgt : ¬ l.length * inf.size > 2 ^ 24 := by simpa using hm
  by_cases h0 : l.length * inf.size = 0
  · have hl0 : l.length = 0 := by
      rcases Nat.mul_eq_zero.1 h0 with h | h
      · exact h
      · omega
    have hp0 : parts.toList = [] := List.eq_nil_of_length_eq_zero (by rw [← hl, hl0])
    have hx0 : xs = [] := List.eq_nil_of_length_eq_zero (by rw [hflat xs f2, h0])
    subst hx0
    simp [Instr.buildSlice, run_underlying hu, sizeOf, typeInfo, hi, h0, hp0, Instr.fill, newRow, hl0]
    have : (Array.range 0).map (fun _ => (default : Value)) = #[] := Array.eq_empty_of_size_eq_zero (by simp)
    rw [this]
  · simp [Instr.buildSlice, run_underlying hu, sizeOf, typeInfo, hi, hgt, h0, zeroValue, hz, newRow]
    rw [f1]
    simp
end
end Go.Aw
end
