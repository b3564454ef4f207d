/- AW: contracts; a body's text meets the contract that its abstract form shows. -/
import Derived.Test.YtbefdpmjpioijaaGreatDoorAwAppend
set_option linter.unusedSimpArgs false
set_option linter.unusedVariables false
namespace Go.Aw
open Go.RowKit

/-! ### own rows, read as data -/
mutual
inductive Conv (H : Heap) : AV → AV → Prop
  | refl (x : AV) : Conv H x x
  | any (x : AV) : Conv H x .any
  | row (k : Nat) (r : Row) (es : List (List AV)) : H k = some r → ConvE H r.es es → Conv H (.os k) (.sl es)
  | sl (es es' : List (List AV)) : ConvE H es es' → Conv H (.sl es) (.sl es')
  | agg (cs cs' : List AV) : ConvL H cs cs' → Conv H (.agg cs) (.agg cs')
  | tup (cs cs' : List AV) : ConvL H cs cs' → Conv H (.tup cs) (.tup cs')
  | ptr (k i f : Nat) (r : Row) (cs : List AV) : H k = some r → i < r.es.length → ConvL H (r.es.getD i []) cs → Conv H (.op k i f) (.rp cs f)
  | fn (f : FuncId) (cap cap' : List AV) : ConvL H cap cap' → Conv H (.fn f cap) (.fn f cap')
inductive ConvL (H : Heap) : List AV → List AV → Prop
  | nil : ConvL H [] []
  | cons (x y : AV) (r s : List AV) : Conv H x y → ConvL H r s → ConvL H (x :: r) (y :: s)
inductive ConvE (H : Heap) : List (List AV) → List (List AV) → Prop
  | nil : ConvE H [] []
  | cons (x y : List AV) (r s : List (List AV)) : ConvL H x y → ConvE H r s → ConvE H (x :: r) (y :: s)
end
theorem ConvL.refl {H : Heap} : ∀ l, ConvL H l l
  | [] => .nil
  | x :: r => .cons x x r r (.refl x) (ConvL.refl r)
theorem ConvE.refl {H : Heap} : ∀ l, ConvE H l l
  | [] => .nil
  | x :: r => .cons x x r r (ConvL.refl x) (ConvE.refl r)

def Sg.froze (S : Sg) (H : Heap) : Sg :=
  { S with ro := fun g => S.ro g ∨ ∃ k r, H k = some r ∧ blk (S.loc k) = some g, fz := fun g => S.fz g ∨ ∃ k r, H k = some r ∧ blk (S.loc k) = some g }
theorem Sg.le_froze (S : Sg) (H : Heap) : S.le (S.froze H) := ⟨fun _ h => .inl h, Nat.le_refl _, fun _ _ => rfl, fun _ _ => rfl⟩

section
variable {S : Sg} {w : World} {H : Heap}
theorem ConvE.len : ∀ {es es' : List (List AV)}, ConvE H es es' → es'.length = es.length
  | _, _, .nil => rfl
  | _, _, .cons _ _ _ _ _ h => by simp [ConvE.len h]
mutual
theorem Conv.rep (hS : St S w H) : ∀ {x y : AV} {u : Value}, Conv H x y → rep S w x u → Aw.rep (S.froze H) w y u
  | _, _, _, .refl x, h => rep_mono (S.le_froze H) (Kept.refl S w) _ _ h
  | _, _, _, .any x, _ => by simp only [Aw.rep]
  | _, _, u, .row k r es hk he, h => by
    simp only [Aw.rep] at h ⊢
    obtain ⟨_, rfl, _, _, _, hloc0⟩ := h
    have hR := hS.rows k r hk
    obtain ⟨xs, ho, hr, h1⟩ := hR.sl hloc0
    rcases ho.2 with ⟨hv, hn⟩ | ⟨g, cap, cur, hv, _, h2, h3, h4, h5⟩
    · have h0 := List.eq_nil_of_length_eq_zero hn
      refine ⟨none, 0, 0, hv, by rw [he.len, hn], Nat.le_refl _, Nat.zero_le _, .inl ?_⟩
      exact List.eq_nil_of_length_eq_zero (by rw [he.len, hn])
    · refine ⟨_, _, cap, hv, he.len, h3, h4, .inr ⟨g, 0, r.sz, rfl, .inr ⟨k, r, hk, by rw [hv]; rfl⟩, hR.pos, ?_⟩⟩
      refine ConvE.rep hS he ?_
      refine elsAt_of_flat _ _ hR.len (cellsAt_of_repL _ xs 0 hr h1 fun j u hu => ?_)
      have := ho.cells (g := g) (by rw [hv]; rfl) j u hu
      rwa [Addr.add_lit] at this
  | _, _, _, .sl es es' he, h => by
    simp only [Aw.rep] at h ⊢
    obtain ⟨ad, n, c, rfl, h1, h2, h3, h4⟩ := h
    refine ⟨ad, n, c, rfl, by rw [he.len, h1], h2, h3, ?_⟩
    rcases h4 with h4 | ⟨b, o, sz, rfl, hb, hs, hels⟩
    · exact .inl (List.eq_nil_of_length_eq_zero (by rw [he.len, h4]; rfl))
    · exact .inr ⟨b, o, sz, rfl, .inl hb, hs, ConvE.rep hS he hels⟩
  | _, _, _, .agg cs cs' hc, h => by
    simp only [Aw.rep] at h ⊢
    obtain ⟨l, rfl, h1, h2⟩ := h
    exact ⟨l, rfl, ConvL.rep hS hc h1, h2⟩
  | _, _, _, .tup cs cs' hc, h => by
    simp only [Aw.rep] at h ⊢
    obtain ⟨l, rfl, h1⟩ := h
    exact ⟨l, rfl, ConvL.rep hS hc h1⟩
  | _, _, _, .ptr k i f r cs hk hi hc, h => by
    simp only [Aw.rep] at h ⊢
    obtain ⟨_, g, n, c, hloc, rfl⟩ := h
    have hR := hS.rows k r hk
    have hne : r.es ≠ [] := fun e => by rw [e] at hi; simp at hi
    obtain ⟨g', n', c', hloc', he, _⟩ := hR.els hloc hne
    rw [hloc] at hloc'
    injection hloc' with e1 e2 e3
    injection e1 with e1
    injection e1 with e1
    subst e1
    obtain ⟨e4, e5⟩ := elsAt_get _ 0 i he hi
    rw [Nat.zero_add, hR.sz] at e5
    exact ⟨g, i * S.sz k, rfl, .inr ⟨k, r, hk, by rw [hloc]; rfl⟩, (ConvL.cells hS hc e5).1⟩
  | _, _, _, .fn f cap cap' hc, h => by
    simp only [Aw.rep] at h ⊢
    obtain ⟨l, rfl, h1⟩ := h
    exact ⟨l, rfl, ConvL.rep hS hc h1⟩
theorem ConvL.rep (hS : St S w H) : ∀ {x y : List AV} {l : List Value}, ConvL H x y → repL S w x l → repL (S.froze H) w y l
  | _, _, _, .nil, h => h
  | _, _, _, .cons x y r s hx hr, h => by
    simp only [repL] at h ⊢
    obtain ⟨u, t, rfl, h1, h2⟩ := h
    exact ⟨u, t, rfl, Conv.rep hS hx h1, ConvL.rep hS hr h2⟩
theorem ConvL.cells (hS : St S w H) {b : Nat} : ∀ {x y : List AV} {o : Nat}, ConvL H x y → cellsAt S w b o x → cellsAt (S.froze H) w b o y ∧ y.length = x.length
  | _, _, _, .nil, _ => ⟨trivial, rfl⟩
  | _, _, o, .cons x y r s hx hr, h => by
    simp only [cellsAt] at h ⊢
    obtain ⟨⟨u, h1, h2, h3⟩, h4⟩ := h
    obtain ⟨e1, e2⟩ := ConvL.cells hS hr h4
    exact ⟨⟨⟨u, h1, h2, Conv.rep hS hx h3⟩, e1⟩, by simp [e2]⟩
theorem ConvE.rep (hS : St S w H) {b sz : Nat} : ∀ {x y : List (List AV)} {o : Nat}, ConvE H x y → elsAt S w b sz o x → elsAt (S.froze H) w b sz o y
  | _, _, _, .nil, _ => trivial
  | _, _, o, .cons x y r s hx hr, h => by
    simp only [elsAt] at h ⊢
    obtain ⟨h1, h2, h3⟩ := h
    obtain ⟨e1, e2⟩ := ConvL.cells hS hx h2
    exact ⟨by rw [e2, h1], e1, ConvE.rep hS hr h3⟩
end
end

/-! ### flat values: told by their abstract form alone -/
mutual
def fv : AV → Option Value
  | .v x => some x
  | .tup vs => (fvL vs).map fun l => .tuple l.toArray
  | .agg vs => (fvL vs).map fun l => .agg l.toArray
  | _ => none
def fvL : List AV → Option (List Value)
  | [] => some []
  | x :: r => match fv x, fvL r with
    | some u, some l => some (u :: l)
    | _, _ => none
end
mutual
theorem fv_rep {S : Sg} {w : World} : ∀ {x : AV} {u v : Value}, fv x = some v → rep S w x u → u = v
  | .v x, u, v, h, hr => by
    simp only [fv] at h
    injection h with h
    subst h
    simpa only [rep] using hr
  | .tup vs, u, v, h, hr => by
    simp only [fv] at h
    cases hl : fvL vs with
    | none => simp [hl] at h
    | some l =>
      simp [hl] at h
      subst h
      simp only [rep] at hr
      obtain ⟨l', rfl, h1⟩ := hr
      rw [fvL_rep hl h1]
  | .agg vs, u, v, h, hr => by
    simp only [fv] at h
    cases hl : fvL vs with
    | none => simp [hl] at h
    | some l =>
      simp [hl] at h
      subst h
      simp only [rep] at hr
      obtain ⟨l', rfl, h1, _⟩ := hr
      rw [fvL_rep hl h1]
  | .any, _, _, h, _ => by simp [fv] at h
  | .sl _, _, _, h, _ => by simp [fv] at h
  | .rp _ _, _, _, h, _ => by simp [fv] at h
  | .os _, _, _, h, _ => by simp [fv] at h
  | .op _ _ _, _, _, h, _ => by simp [fv] at h
  | .gd _ _, _, _, h, _ => by simp [fv] at h
  | .fn _ _, _, _, h, _ => by simp [fv] at h
  | .nf _, _, _, h, _ => by simp [fv] at h
  | .oz _ _ _, _, _, h, _ => by simp [fv] at h
theorem fvL_rep {S : Sg} {w : World} : ∀ {x : List AV} {u v : List Value}, fvL x = some v → repL S w x u → u = v
  | [], u, v, h, hr => by
    simp only [fvL] at h
    injection h with h
    subst h
    simpa only [repL] using hr
  | x :: r, u, v, h, hr => by
    simp only [fvL] at h
    cases h1 : fv x with
    | none => simp [h1] at h
    | some a =>
      cases h2 : fvL r with
      | none => simp [h1, h2] at h
      | some l =>
        simp [h1, h2] at h
        subst h
        simp only [repL] at hr
        obtain ⟨u', t, rfl, e1, e2⟩ := hr
        rw [fv_rep h1 e1, fvL_rep h2 e2]
end

mutual
theorem fv_any {S S2 : Sg} {w w2 : World} : ∀ {x : AV} {u v : Value}, fv x = some v → rep S w x u → rep S2 w2 x u
  | .v x, u, v, h, hr => by simpa only [rep] using hr
  | .tup vs, u, v, h, hr => by
    simp only [fv] at h
    cases hl : fvL vs with
    | none => simp [hl] at h
    | some l =>
      simp only [rep] at hr ⊢
      obtain ⟨l', rfl, h1⟩ := hr
      exact ⟨l', rfl, fvL_any hl h1⟩
  | .agg vs, u, v, h, hr => by
    simp only [fv] at h
    cases hl : fvL vs with
    | none => simp [hl] at h
    | some l =>
      simp only [rep] at hr ⊢
      obtain ⟨l', rfl, h1, h2⟩ := hr
      exact ⟨l', rfl, fvL_any hl h1, h2⟩
  | .any, _, _, h, _ => by simp [fv] at h
  | .sl _, _, _, h, _ => by simp [fv] at h
  | .rp _ _, _, _, h, _ => by simp [fv] at h
  | .os _, _, _, h, _ => by simp [fv] at h
  | .op _ _ _, _, _, h, _ => by simp [fv] at h
  | .gd _ _, _, _, h, _ => by simp [fv] at h
  | .fn _ _, _, _, h, _ => by simp [fv] at h
  | .nf _, _, _, h, _ => by simp [fv] at h
  | .oz _ _ _, _, _, h, _ => by simp [fv] at h
theorem fvL_any {S S2 : Sg} {w w2 : World} : ∀ {x : List AV} {u v : List Value}, fvL x = some v → repL S w x u → repL S2 w2 x u
  | [], u, v, h, hr => by simpa only [repL] using hr
  | x :: r, u, v, h, hr => by
    simp only [fvL] at h
    cases h1 : fv x with
    | none => simp [h1] at h
    | some a =>
      cases h2 : fvL r with
      | none => simp [h1, h2] at h
      | some l =>
        simp only [repL] at hr ⊢
        obtain ⟨u', t, rfl, e1, e2⟩ := hr
        exact ⟨u', t, rfl, fv_any h1 e1, fvL_any h2 e2⟩
end

/-! ### contracts -/
def Post (S : Sg) (w : World) (H : Heap) (R : AV → Heap → Prop) (e : Ending) (w' : World) : Prop :=
  ∃ v r H' S', e = .returned v ∧ R r H' ∧ St S' w' H' ∧ rep S' w' r v ∧ Grow S w S' w' ∧ NewK S.N H H'
/-- a call among the caller's own rows -/
def FCalls (P : Program) (f : FuncId) (args : List AV) (H : Heap) (R : AV → Heap → Prop) : Prop :=
  ∀ S w (vals : List Value), St S w H → repL S w args vals → Calls P f vals.toArray w (Post S w H R)
def noRows : Heap := fun _ => none
/-- a call that knows no rows, and may change nothing that is there -/
def RC (P : Program) (f : FuncId) (args : List AV) (R : AV → Heap → Prop) : Prop :=
  ∀ S w (vals : List Value), St S w noRows → (∀ k, k < w.heap.size → S.fz k) → repL S w args vals → Calls P f vals.toArray w (Post S w noRows R)
/-- its result is just this -/
def PC (P : Program) (f : FuncId) (args : List AV) (r : AV) : Prop := RC P f args fun x _ => x = r
/-- its result holds one new row -/
def NC (P : Program) (f : FuncId) (args : List AV) (row : Row) (mk : Nat → AV) : Prop := RC P f args fun x H' => ∃ k, x = mk k ∧ H' k = some row
def QFlat (P : Program) (f : FuncId) (args : List AV) (H : Heap) (r : AV) : Prop := ∃ args', ConvL H args args' ∧ PC P f args' r ∧ (fv r).isSome = true
def QCalls (P : Program) (f : FuncId) (args : List AV) (H : Heap) (r : AV) : Prop := QFlat P f args H r ∨ ∃ x, r = .nf x ∧ PC P f args x
theorem nfq_flat {q : Bool} {r : AV} {K : AV → Prop} (h : (fv r).isSome = true) : nfq q r K = K r := by
  cases q <;> cases r <;> first | rfl | (simp [fv] at h)
theorem nfq_elim {q : Bool} {r : AV} {K : AV → Prop} (h : nfq q r K) : ∃ z, K z := by
  unfold nfq at h
  split at h
  · exact h.elim
  · exact ⟨_, h⟩
  · exact ⟨_, h⟩

section
variable {P : Program} {f : FuncId} {args : List AV} {H : Heap} {R K : AV → Heap → Prop}

theorem RC.mono (h : RC P f args R) (hr : ∀ r H', R r H' → K r H') : RC P f args K := fun S w vals hS hf ha =>
  (h S w vals hS hf ha).mono fun _ _ ⟨v, r, H', S', h1, h2, h3⟩ => ⟨v, r, H', S', h1, hr r H' h2, h3⟩
theorem FCalls.mono (h : FCalls P f args H R) (hr : ∀ r H', R r H' → K r H') : FCalls P f args H K := fun S w vals hS ha =>
  (h S w vals hS ha).mono fun _ _ ⟨v, r, H', S', h1, h2, h3⟩ => ⟨v, r, H', S', h1, hr r H' h2, h3⟩

theorem St.drop {S : Sg} {w : World} {H' : Heap} (h : St S w H) (hs : ∀ k r, H' k = some r → H k = some r) : St S w H' :=
  ⟨h.ro_fz, h.fz_lt, fun k r hk => h.rows k r (hs k r hk), fun k r hk => h.free k r (hs k r hk), fun k k' r r' hk hk' => h.disj k k' r r' (hs k r hk) (hs k' r' hk')⟩

/-- what comes back is read as data -/
theorem RC.conv {r : AV} (h : RC P f args fun x H' => Conv H' x r) : PC P f args r := fun S w vals hS hf ha =>
  (h S w vals hS hf ha).mono fun e w' ⟨v, x, H', S', he, hx, hS', hv, hg, hn⟩ => by
    refine ⟨v, r, noRows, S'.froze H', he, rfl, ⟨?_, ?_, fun k r hk => by simp [noRows] at hk, fun k r hk => by simp [noRows] at hk, fun k k' r r' hk => by simp [noRows] at hk⟩, hx.rep hS' hv, ?_, fun _ _ _ => rfl⟩
    · rintro g (hg' | hg')
      · exact .inl (hS'.ro_fz g hg')
      · exact .inr hg'
    · rintro g (hg' | ⟨k, row, hk, hg'⟩)
      · exact hS'.fz_lt g hg'
      · exact (hS'.rows k row hk).block_lt hg'
    · refine ⟨Sg.le_trans hg.le (S'.le_froze H'), fun k hk => .inl (hg.fz k hk), hg.os, hg.tape, hg.output, hg.size, hg.same, ?_⟩
      rintro g (hg' | ⟨k, row, hk, hg'⟩)
      · exact hg.newro g hg'
      · exact .inr fun h2 => hS'.free k row hk g hg' (hg.fz g h2)

def merge (H H' : Heap) : Heap := fun k => match H' k with | some r => some r | none => H k

/-- a call that knows no rows, among the caller's rows -/
theorem RC.frame (h : RC P f args R) (hK : ∀ r H', R r H' → (∀ k row, H' k = some row → H k = none) → ∃ H'', K r H'' ∧ (∀ k row, H'' k = some row → merge H H' k = some row) ∧ ∀ k, H k = none → H' k = none → H'' k = none) :
    FCalls P f args H K := by
  intro S w vals hS ha
  let S0 : Sg := { S with fz := fun k => k < w.heap.size }
  have hle0 : S.le S0 := ⟨fun _ h => h, Nat.le_refl _, fun _ _ => rfl, fun _ _ => rfl⟩
  have hS0 : St S0 w noRows := ⟨fun k hk => hS.fz_lt k (hS.ro_fz k hk), fun _ h => h, fun k r hk => by simp [noRows] at hk, fun k r hk => by simp [noRows] at hk, fun k k' r r' hk => by simp [noRows] at hk⟩
  refine (h S0 w vals hS0 (fun _ h => h) (repL_mono hle0 (Kept.refl S w) _ _ ha)).mono fun e w' ⟨v, x, H', S', he, hx, hS', hv, hg, hn⟩ => ?_
  have hnew : ∀ k row, H' k = some row → S.N ≤ k := fun k row hk => by
    rcases Nat.lt_or_ge k S.N with hlt | hge
    · rw [hn k hlt rfl] at hk; simp at hk
    · exact hge
  have hdead : ∀ k row, H' k = some row → H k = none := fun k row hk => by
    cases hH : H k with
    | none => rfl
    | some r => have := (hS.rows k r hH).lt; have := hnew k row hk; omega
  obtain ⟨H'', hK1, hK2, hK3⟩ := hK x H' hx hdead
  let S'' : Sg := { S' with fz := fun k => S.fz k ∨ (S'.fz k ∧ w.heap.size ≤ k) ∨ S'.ro k }
  have hle'' : S'.le S'' := ⟨fun _ h => h, Nat.le_refl _, fun _ _ => rfl, fun _ _ => rfl⟩
  have hlt' : ∀ k, k < S.N → S'.loc k = S.loc k := hg.le.loc
  have hleS : S.le S'' := ⟨fun k hk => hg.le.ro k hk, hg.le.N, hg.le.loc, hg.le.sz⟩
  have hsame : ∀ k, k < w.heap.size → w'.heap[k]? = w.heap[k]? := hg.same
  have hkept : Kept S w w' := fun k hk => hsame k (hS.fz_lt k (hS.ro_fz k hk))
  have rowsH : ∀ k r, H k = some r → RowOK S'' w' k r := fun k r hk => (hS.rows k r hk).keep hleS hkept fun g hg' => hsame g ((hS.rows k r hk).block_lt hg')
  have rowsH' : ∀ k r, H' k = some r → RowOK S'' w' k r := fun k r hk => (hS'.rows k r hk).keep hle'' (Kept.refl S' w') fun _ _ => rfl
  have blkH : ∀ k r, H k = some r → ∀ g, blk (S''.loc k) = some g → blk (S.loc k) = some g ∧ g < w.heap.size := fun k r hk g hg' => by
    have h1 : S''.loc k = S.loc k := hlt' k (hS.rows k r hk).lt
    rw [h1] at hg'
    exact ⟨hg', (hS.rows k r hk).block_lt hg'⟩
  have blkH' : ∀ k r, H' k = some r → ∀ g, blk (S''.loc k) = some g → ¬ S'.fz g ∧ w.heap.size ≤ g := fun k r hk g hg' => by
    have h1 := hS'.free k r hk g hg'
    refine ⟨h1, ?_⟩
    rcases Nat.lt_or_ge g w.heap.size with hlt | hge
    · exact absurd (hg.fz g hlt) h1
    · exact hge
  have rowsM : ∀ k r, merge H H' k = some r → H' k = some r ∨ (H k = some r ∧ H' k = none) := fun k r hk => by
    unfold merge at hk
    cases h' : H' k with
    | none => rw [h'] at hk; exact .inr ⟨hk, rfl⟩
    | some r' => rw [h'] at hk; exact .inl hk
  have hM : St S'' w' (merge H H') := by
    refine ⟨fun k hk => .inr (.inr hk), ?_, ?_, ?_, ?_⟩
    · rintro k (hk | hk | hk)
      · exact Nat.lt_of_lt_of_le (hS.fz_lt k hk) hg.size
      · exact hS'.fz_lt k hk.1
      · exact hS'.fz_lt k (hS'.ro_fz k hk)
    · intro k r hk
      rcases rowsM k r hk with h' | ⟨h', _⟩
      · exact rowsH' k r h'
      · exact rowsH k r h'
    · intro k r hk g hg' hf
      rcases rowsM k r hk with h' | ⟨h', _⟩
      · obtain ⟨e1, e2⟩ := blkH' k r h' g hg'
        rcases hf with hf | hf | hf
        · have := hS.fz_lt g hf; omega
        · exact e1 hf.1
        · exact e1 (hS'.ro_fz g hf)
      · obtain ⟨e1, e2⟩ := blkH k r h' g hg'
        rcases hf with hf | hf | hf
        · exact hS.free k r h' g e1 hf
        · omega
        · rcases hg.newro g hf with h2 | h2
          · exact hS.free k r h' g e1 (hS.ro_fz g h2)
          · exact h2 e2
    · intro k k' r r' hk hk' hne g hg' hg2
      rcases rowsM k r hk with h1 | ⟨h1, _⟩
      · rcases rowsM k' r' hk' with h2 | ⟨h2, _⟩
        · exact hS'.disj k k' r r' h1 h2 hne g hg' hg2
        · have := (blkH' k r h1 g hg').2; have := (blkH k' r' h2 g hg2).2; omega
      · rcases rowsM k' r' hk' with h2 | ⟨h2, _⟩
        · have := (blkH k r h1 g hg').2; have := (blkH' k' r' h2 g hg2).2; omega
        · exact hS.disj k k' r r' h1 h2 hne g (blkH k r h1 g hg').1 (blkH k' r' h2 g hg2).1
  refine ⟨v, x, H'', S'', he, hK1, hM.drop hK2, rep_mono hle'' (Kept.refl S' w') _ _ hv, ⟨hleS, fun _ h => .inl h, hg.os, hg.tape, hg.output, hg.size, fun k hk => hsame k (hS.fz_lt k hk), fun k hk => (hg.newro k hk).imp id (fun h2 h3 => h2 (hS.fz_lt k h3))⟩, ?_⟩
  · intro k hk h0
    exact hK3 k h0 (hn k hk rfl)

theorem PC.use {r : AV} (h : PC P f args r) (hK : K r H) : FCalls P f args H K :=
  RC.frame h fun x H' hx hd => ⟨H, hx ▸ hK, fun k row hk => by
    unfold merge
    cases h' : H' k with
    | none => exact hk
    | some r' => rw [hd k r' h'] at hk; simp at hk, fun _ h _ => h⟩
theorem NC.use {row : Row} {mk : Nat → AV} (h : NC P f args row mk) (hK : ∀ k, H k = none → K (mk k) (updH H k (some row))) : FCalls P f args H K :=
  RC.frame h fun x H' ⟨k, hx, hk⟩ hd => ⟨updH H k (some row), hx ▸ hK k (hd k row hk), fun j r hj => by
    unfold merge
    by_cases e : j = k
    · subst e; rw [updH_same] at hj; rw [hk]; exact hj
    · rw [updH_ne _ _ _ _ e] at hj
      cases h' : H' j with
      | none => exact hj
      | some r' => rw [hd j r' h'] at hj; simp at hj, fun j h0 h1 => by
    by_cases e : j = k
    · subst e; rw [hk] at h1; simp at h1
    · rw [updH_ne _ _ _ _ e]; exact h0⟩

theorem QFlat.val {r : AV} (h : QFlat P f args H r) : ∃ v, fv r = some v := by
  obtain ⟨_, _, _, hf⟩ := h
  exact Option.isSome_iff_exists.1 hf
/-- a call whose result is flat: rows may be lent to it -/
theorem QFlat.calls {r : AV} (h : QFlat P f args H r) {v : Value} (hv : fv r = some v) {S : Sg} {w : World} {vals : List Value} (hS : St S w H) (ha : repL S w args vals) :
    (∀ S2 w2, rep S2 w2 r v) ∧ Calls P f vals.toArray w fun e w' => e = .returned v ∧ w'.os = w.os ∧ w'.tape = w.tape ∧ w'.output = w.output ∧ w.heap.size ≤ w'.heap.size ∧ ∀ k, k < w.heap.size → w'.heap[k]? = w.heap[k]? := by
  obtain ⟨args', hc, hp, hf⟩ := h
  let S0 : Sg := { S.froze H with fz := fun k => k < w.heap.size }
  have hle0 : (S.froze H).le S0 := ⟨fun _ h => h, Nat.le_refl _, fun _ _ => rfl, fun _ _ => rfl⟩
  have hS0 : St S0 w noRows := ⟨fun k hk => by
    rcases hk with hk | ⟨j, r, hj, hg⟩
    · exact hS.fz_lt k (hS.ro_fz k hk)
    · exact (hS.rows j r hj).block_lt hg, fun _ h => h, fun k r hk => by simp [noRows] at hk, fun k r hk => by simp [noRows] at hk, fun k k' r r' hk => by simp [noRows] at hk⟩
  have hcalls := hp S0 w vals hS0 (fun _ h => h) (repL_mono hle0 (Kept.refl _ w) _ _ (hc.rep hS ha))
  refine ⟨fun S2 w2 => ?_, hcalls.mono fun e w' ⟨v', x, H', S', he, hx, hS', hv', hg, hn⟩ => ?_⟩
  · obtain ⟨e, w', fr, ⟨v', x, H', S', he, hx, hS', hv', _⟩, _⟩ := hcalls []
    subst hx
    have := fv_rep hv hv'
    subst this
    exact fv_any hv hv'
  · subst hx
    have := fv_rep hv hv'
    subst this
    exact ⟨he, hg.os, hg.tape, hg.output, hg.size, hg.same⟩

theorem St.after {S : Sg} {w w' : World} (hS : St S w H) (hs : w.heap.size ≤ w'.heap.size) (hk : ∀ k, k < w.heap.size → w'.heap[k]? = w.heap[k]?) : St S w' H :=
  ⟨hS.ro_fz, fun k h => Nat.lt_of_lt_of_le (hS.fz_lt k h) hs, fun k r h => (hS.rows k r h).keep S.le_refl (fun j hj => hk j (hS.fz_lt j (hS.ro_fz j hj))) fun g hg => hk g ((hS.rows k r h).block_lt hg), hS.free, hS.disj⟩
theorem St.grow {S : Sg} {w w' : World} (hS : St S w H) (ho : w'.os = w.os) (ht : w'.tape = w.tape) (hu : w'.output = w.output) (hs : w.heap.size ≤ w'.heap.size) (hk : ∀ k, k < w.heap.size → w'.heap[k]? = w.heap[k]?) : Grow S w S w' :=
  ⟨S.le_refl, fun _ h => h, ho, ht, hu, hs, fun k h => hk k (hS.fz_lt k h), fun _ h => .inl h⟩

theorem QFlat.use {r : AV} (h : QFlat P f args H r) (hK : K r H) : FCalls P f args H K := by
  intro S w vals hS ha
  obtain ⟨v, hv'⟩ := h.val
  obtain ⟨hv, hc⟩ := h.calls hv' hS ha
  refine hc.mono fun e w' ⟨he, ho, ht, hu, hs, hk⟩ => ⟨v, r, H, S, he, hK, hS.after hs hk, ?_, hS.grow ho ht hu hs hk, NewK.refl _ _⟩
  exact hv S w'
end
end Go.Aw
