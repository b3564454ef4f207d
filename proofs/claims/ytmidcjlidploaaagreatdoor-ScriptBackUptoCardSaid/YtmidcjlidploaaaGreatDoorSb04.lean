/- Texts joined by a program: AwOps3. -/
import Derived.Test.YtmidcjlidploaaaGreatDoorSb03

set_option linter.unusedSimpArgs false
set_option linter.unusedVariables false
namespace Go.Aw
open Go.RowKit
section
variable {P : Program} {S : Sg} {H : Heap} {w : World} {G : Option Bool} {K : AV → Prop}
theorem allLen_iff {n : Nat} : ∀ {l : List (List AV)}, allLen n l ↔ ∀ cs ∈ l, cs.length = n
  | [] => by simp [allLen]
  | x :: r => by simp [allLen, allLen_iff (l := r)]
theorem allLen_map {α : Type} {n : Nat} {f : α → List AV} (h : ∀ x, (f x).length = n) (l : List α) : allLen n (l.map f) := allLen_iff.2 fun cs hc => by
  obtain ⟨x, _, rfl⟩ := List.mem_map.1 hc
  exact h x
theorem rep_bool {b : Bool} {u : Value} (h : rep S w (.v (.bool b)) u) : u = .bool b := by simpa only [rep] using h
theorem pickV_sound {c : Bool} {x y : AV} {u v : Value} (hx : c = true → rep S w x u) (hy : c = false → rep S w y v) : rep S w (pickV c x y) (if c then u else v) := by
  unfold pickV
  split
  · cases c
    · have := hy rfl; simp only [rep] at this ⊢; subst this; simp
    · have := hx rfl; simp only [rep] at this ⊢; subst this; simp
  · cases c
    · have := hy rfl; simp only [rep] at this ⊢; subst this; simp
    · have := hx rfl; simp only [rep] at this ⊢; subst this; simp
  · cases c
    · have := hy rfl; simp only [rep] at this ⊢; subst this; simp
    · have := hx rfl; simp only [rep] at this ⊢; subst this; simp
  · cases c
    · simpa using hy rfl
    · simpa using hx rfl
theorem apick_sound {c : Bool} {x y : AV} (h : apick G c x y K) :
    ∃ z, K z ∧ (gt G → ∀ u v, rep S w x u → rep S w y v → rep S w z (if c then u else v)) := by
  unfold apick at h
  split at h
  · refine ⟨_, h.2.2, fun hg u v hu hv => pickV_sound (fun hc => ?_) (fun hc => ?_)⟩
    · simp only [rep] at hu; exact hu.1 (h.1 hg hc)
    · simp only [rep] at hv; exact hv.1 (h.2.1 hg hc)
  · refine ⟨_, h.2, fun hg u v hu hv => pickV_sound (fun hc => ?_) (fun _ => hv)⟩
    simp only [rep] at hu; exact hu.1 (h.1 hg hc)
  · refine ⟨_, h.2, fun hg u v hu hv => pickV_sound (fun _ => hu) (fun hc => ?_)⟩
    simp only [rep] at hv; exact hv.1 (h.1 hg hc)
  · exact ⟨_, h, fun _ u v hu hv => pickV_sound (fun _ => hu) (fun _ => hv)⟩
theorem cells_oneCell {v : Value} (h : v.oneCell' = true) : v.cells = #[v] := by
  cases v <;> first | rfl | simp [Value.oneCell'] at h
theorem wcells_sound {x : AV} {K : List AV → Prop} (h : wcells x K) : ∃ cs, K cs ∧ ∀ u, rep S w x u → ∃ l : List Value, u.cells = l.toArray ∧ repL S w cs l ∧ (∀ v ∈ l, v.oneCell' = true) := by
  have one : ∀ (x : AV) (u : Value), rep S w x u → u.oneCell' = true → ∃ l : List Value, u.cells = l.toArray ∧ repL S w [x] l ∧ (∀ v ∈ l, v.oneCell' = true) := fun x u hu h1 =>
    ⟨[u], cells_oneCell h1, by simp only [repL]; exact ⟨u, [], rfl, hu, rfl⟩, by simpa using h1⟩
  unfold wcells at h
  split at h
  · refine ⟨_, h, fun u hu => ?_⟩
    simp only [rep] at hu
    obtain ⟨l, rfl, h1, h2⟩ := hu
    exact ⟨l, rfl, h1, h2⟩
  · refine ⟨_, h.2, fun u hu => one _ u hu ?_⟩
    simp only [rep] at hu
    subst hu
    exact h.1
  · refine ⟨_, h, fun u hu => one _ u hu ?_⟩
    simp only [rep] at hu
    obtain ⟨_, _, _, rfl, _⟩ := hu
    rfl
  · refine ⟨_, h, fun u hu => one _ u hu ?_⟩
    simp only [rep] at hu
    obtain ⟨_, _, rfl, _⟩ := hu
    rfl
  · refine ⟨_, h, fun u hu => one _ u hu ?_⟩
    simp only [rep] at hu
    obtain ⟨_, _, _, _, _, rfl⟩ := hu
    rfl
  · refine ⟨_, h, fun u hu => one _ u hu ?_⟩
    simp only [rep] at hu
    obtain ⟨_, _, _, _, _, rfl⟩ := hu
    rfl
  · refine ⟨_, h, fun u hu => one _ u hu ?_⟩
    simp only [rep] at hu
    obtain ⟨_, _, _, _, _, _, _, rfl, _⟩ := hu
    rfl
  · refine ⟨_, h, fun u hu => one _ u hu ?_⟩
    simp only [rep] at hu
    obtain ⟨_, _, _, rfl⟩ := hu
    rfl
  · exact h.elim
theorem zeroV_rep (v : Value) : rep S w (zeroV v) v := by
  unfold zeroV
  split
  · unfold rep
    exact ⟨none, 0, 0, rfl, rfl, Nat.le_refl _, Nat.zero_le _, .inl rfl⟩
  · exact rep_v
theorem zeroL_rep : ∀ (l : List Value), repL S w (l.map zeroV) l
  | [] => by simp [repL]
  | v :: r => by simp only [List.map_cons, repL]; exact ⟨v, r, rfl, zeroV_rep v, zeroL_rep r⟩
theorem foldl_set : ∀ (l : List Value) (i : Nat) (A : Array Value) (o : Nat), o + i + l.length ≤ A.size →
    ((l.zipIdx i).foldl (fun cs (p : Value × Nat) => cs.setIfInBounds (o + p.2) p.1) A).toList = A.toList.take (o + i) ++ l ++ A.toList.drop (o + i + l.length)
  | [], i, A, o, h => by simp
  | v :: r, i, A, o, h => by
    simp only [List.zipIdx_cons, List.foldl_cons, List.length_cons] at h ⊢
    rw [foldl_set r (i + 1) _ o (by simp; omega)]
    have e1 : (A.setIfInBounds (o + i) v).toList = A.toList.set (o + i) v := by simp
    rw [e1, show o + (i + 1) = o + i + 1 by omega, List.take_set, List.drop_set_of_lt (by omega)]
    have hlt : o + i < A.toList.length := by simp; omega
    have e2 : (List.take (o + i + 1) A.toList).set (o + i) v = List.take (o + i) A.toList ++ [v] := by
      rw [List.take_succ_eq_append_getElem hlt, List.set_append_right _ _ (by simp; omega)]
      have : (List.take (o + i) A.toList).length = o + i := by rw [List.length_take]; omega
      rw [this, Nat.sub_self]
      rfl
    rw [e2]
    simp only [List.append_assoc, List.singleton_append, List.cons_append, List.nil_append]
    rw [show o + i + 1 + r.length = o + i + (r.length + 1) by omega]
theorem afill_sound {places : List (Nat × Nat)} {place : Nat → Option (Nat × Nat)} (hpl : ∀ i on, places[i]? = some on → place i = some on) : ∀ (parts : List (Nat × List AV)) (vs : List (Nat × Value)) (cs : List AV) (A : Array Value) (cs' : List AV),
    afill places cs parts = some cs' → repL S w cs A.toList → (∀ v ∈ A.toList, v.oneCell' = true) →
    parts.length = vs.length → (∀ (j i : Nat) (c : List AV), parts[j]? = some (i, c) → ∃ (v : Value) (l : List Value), vs[j]? = some (i, v) ∧ v.cells = List.toArray l ∧ repL S w c l ∧ ∀ u ∈ l, u.oneCell' = true) →
    ∃ A', Instr.fill place A vs = some A' ∧ repL S w cs' A'.toList ∧ (∀ v ∈ A'.toList, v.oneCell' = true)
  | [], vs, cs, A, cs', hf, hr, h1, hl, _ => by
    simp only [afill] at hf
    injection hf with hf
    subst hf
    have : vs = [] := List.eq_nil_of_length_eq_zero (by simpa using hl.symm)
    subst this
    exact ⟨A, rfl, hr, h1⟩
  | (i, c) :: rest, vs, cs, A, cs', hf, hr, h1, hl, hv => by
    obtain ⟨v, l, e1, e2, e3, e4⟩ := hv 0 i c (by simp)
    cases vs with
    | nil => simp at e1
    | cons q vs =>
      simp at e1
      subst e1
      simp only [afill] at hf
      cases hp : places[i]? with
      | none => simp [hp] at hf
      | some on =>
        obtain ⟨off, n⟩ := on
        simp only [hp] at hf
        split at hf
        · rename_i hc
          have hll : l.length = n := by rw [← hc.1]; exact repL_len _ _ e3
          have hA : A.toList.length = cs.length := repL_len _ _ hr
          have hA' : A.size = cs.length := by simpa using hA
          have hz := foldl_set l 0 A off (by rw [hll, hA']; have := hc.2; omega)
          simp only [Nat.add_zero] at hz
          have hrep : repL S w (cs.take off ++ c ++ cs.drop (off + n)) (A.toList.take off ++ l ++ A.toList.drop (off + l.length)) := by
            rw [hll]
            exact repL_append _ _ _ _ (repL_append _ _ _ _ (repL_take _ _ _ hr) e3) (repL_drop _ _ _ hr)
          have h1' : ∀ u ∈ A.toList.take off ++ l ++ A.toList.drop (off + l.length), u.oneCell' = true := by
            intro u hu
            simp only [List.mem_append] at hu
            rcases hu with (hu | hu) | hu
            · exact h1 u (List.mem_of_mem_take hu)
            · exact e4 u hu
            · exact h1 u (List.mem_of_mem_drop hu)
          rw [← hz] at hrep h1'
          obtain ⟨A', f1, f2, f3⟩ := afill_sound hpl rest vs _ _ cs' hf hrep h1' (by simpa using hl) (fun j i c hj => by simpa using hv (j + 1) i c (by simpa using hj))
          refine ⟨A', ?_, f2, f3⟩
          simp only [Instr.fill, hpl i _ hp, e2, List.size_toArray, hll]
          rw [if_neg (by have := hc.2; simp [hA']; omega)]
          rw [← f1]
          congr 1
          rw [← Array.foldl_toList]
          simp
        · simp at hf
theorem zeroT_spec {t : TypeId} {z : List AV} (h : zeroT P t = some z) : ∃ i v, P.info? t = some i ∧ i.zero = some v ∧ z = v.cells.toList.map zeroV ∧ v.cells.size = i.size ∧ i.size ≠ 0 ∧ (∀ u ∈ v.cells.toList, u.oneCell' = true) := by
  unfold zeroT at h
  cases hi : P.info? t with
  | none => simp [hi] at h
  | some i =>
    cases hz : i.zero with
    | none => simp [hi, hz] at h
    | some v =>
      simp only [hi, hz] at h
      split at h
      · rename_i hc
        injection h with h
        exact ⟨i, v, rfl, hz, h.symm, hc.1, hc.2.1, fun u hu => List.all_eq_true.1 hc.2.2 u hu⟩
      · simp at h
theorem wopd_sound {x : AV} {k : AV → Prop} (h : wopd G x k) : ∃ y, k y ∧ (gt G → ∀ u, rep S w x u → rep S w y u) := by
  unfold wopd at h
  split at h
  · refine ⟨_, h.2, fun hg u hu => ?_⟩
    simp only [rep] at hu
    refine hu.1 ?_
    have := h.1
    cases G with
    | none => exact this
    | some b => exact this hg
  · exact ⟨_, h, fun _ u hu => hu⟩
theorem aun_sound {op : UnOp} {x : AV} (h : aun op x K) : ∃ z, K z ∧ ∀ u, rep S w x u → Does P S H w z (Op.unary op u) := by
  unfold aun at h
  split at h
  · refine ⟨_, h, fun u hu => ?_⟩
    simp only [rep] at hu
    subst hu
    exact does_pure rep_v fun w' => by simp [Op.unary]
  · refine ⟨_, h, fun u hu => ?_⟩
    simp only [rep] at hu
    subst hu
    exact does_pure rep_v fun w' => by simp [Op.unary, Op.intArith]
  · exact h.elim
theorem intT_spec {t : TypeId} {k : IntKind} (h : intT P t = some k) : P.underlying t = some (.int k) := by
  unfold intT at h
  split at h
  · rename_i hk; injection h with h; subst h; exact hk
  · simp at h
theorem bytesT_spec {t : TypeId} (h : bytesT P t = true) : ∃ e, P.underlying t = some (.slice e) ∧ P.underlying e = some (.int .u8) := by
  unfold bytesT at h
  split at h
  · rename_i e he
    split at h
    · rename_i hu; exact ⟨e, he, hu⟩
    · simp at h
  · simp at h
theorem nums_cells : ∀ (es : List (List AV)) (ns : List Int) (o : Nat) {b sz : Nat}, numsOf es = some ns → elsAt S w b sz o es → 0 < sz → ns.length = es.length ∧ ∀ j n, ns[j]? = some n → w.cell? ⟨b, o + j, none⟩ = some (.int .u8 n)
  | [], ns, o, b, sz, h, _, _ => by
    simp only [numsOf] at h
    injection h with h
    subst h
    simp
  | es :: r, ns, o, b, sz, h, he, hs => by
    unfold numsOf at h
    split at h
    · rename_i e; simp at e
    · rename_i n r' e
      injection e with e1 e2
      subst e1 e2
      cases hr : numsOf r with
      | none => simp [hr] at h
      | some ns' =>
        simp [hr] at h
        subst h
        simp only [elsAt, cellsAt] at he
        obtain ⟨h1, ⟨⟨u, h2, _, h3⟩, _⟩, h4⟩ := he
        simp only [rep] at h3
        subst h3
        have hsz : sz = 1 := by simpa using h1.symm
        subst hsz
        obtain ⟨i1, i2⟩ := nums_cells r ns' (o + 1) hr h4 hs
        refine ⟨by simp [i1], fun j m hj => ?_⟩
        cases j with
        | zero => simp at hj; subst hj; simpa using h2
        | succ j =>
          rw [show o + (j + 1) = o + 1 + j by omega]
          exact i2 j m (by simpa using hj)
    · simp at h
theorem aconv_sound {src dst : TypeId} {x : AV} (h : aconv P src dst x K) : ∃ z, K z ∧ ∀ u, rep S w x u → Does P S H w z (convert src dst u) := by
  unfold aconv at h
  split at h
  · rename_i kd n
    split at h
    · rename_i k k' hk hk'
      refine ⟨_, h, fun u hu => ?_⟩
      simp only [rep] at hu
      subst hu
      refine does_pure rep_v fun w' => ?_
      simp [convert, run_underlying (intT_spec hk), run_underlying (intT_spec hk'), Conv.intToInt]
    · rename_i k' hk hk'
      obtain ⟨hs, hn, h⟩ := h
      refine ⟨_, h, fun u hu => ?_⟩
      simp only [rep] at hu
      subst hu
      refine does_pure rep_v fun w' => ?_
      have e : Utf8.encode n = strOfNums [n] := by
        unfold Utf8.encode
        have hv : Utf8.valid n = true := by unfold Utf8.valid; simp; omega
        rw [hv]
        simp only [if_true]
        rw [if_pos (by omega)]
        rfl
      simp [convert, run_underlying (intT_spec hk'), run_underlying (stringT_spec hs), Conv.intToString, e]
    · exact h.elim
  · split at h
    · rename_i hc
      refine ⟨_, h, fun u hu => ?_⟩
      simp only [rep] at hu
      subst hu
      refine does_pure rep_v fun w' => ?_
      simp [convert, run_underlying (stringT_spec hc.1), run_underlying (stringT_spec hc.2)]
    · exact h.elim
  · rename_i es
    split at h
    · rename_i hc
      split at h
      · rename_i ns hns
        refine ⟨_, h, fun u hu => ?_⟩
        obtain ⟨e, he, hu8⟩ := bytesT_spec hc.1
        have hd := stringT_spec hc.2
        simp only [rep] at hu
        obtain ⟨ad, n, c, rfl, h1, _, _, h2⟩ := hu
        refine ⟨_, rep_v, fun w' ha => ?_⟩
        have empty : es = [] → ns = [] := fun e => by subst e; simp [numsOf] at hns; exact hns
        cases ad with
        | none =>
          have : es = [] := by rcases h2 with h2 | ⟨b, o, sz, h2, _⟩; exact h2; simp at h2
          rw [run_convert_bytes_nil w' src e he hu8 n c dst hd, empty this]
          rfl
        | some a =>
          have hcells : (loadCells a n).run P w' = .ok (ns.map (Value.int .u8)).toArray w' := by
            rcases h2 with h2 | ⟨b, o, sz, h2, hb, hsz, hels⟩
            · have hn : n = 0 := by rw [← h1, h2]; rfl
              rw [hn, empty h2]
              simp [loadCells, loadCellsFrom]
            · injection h2 with h2
              subst h2
              obtain ⟨i1, i2⟩ := nums_cells es ns o hns hels hsz
              have hn : n = (ns.map (Value.int .u8)).length := by rw [List.length_map, i1, h1]
              rw [hn]
              refine run_loadCells_list w' _ _ fun j v hj => ?_
              rw [Addr.add_lit]
              simp at hj
              obtain ⟨m, hm, rfl⟩ := hj
              exact ha.cell hb (i2 j m hm)
          rw [run_convert_bytes_string w' src dst e _ n c he hu8 hd, run_bytesToString w' a n c ns hcells, foldl_push_bytes]
          congr 3
          simp [ByteArray.empty, ByteArray.emptyWithCapacity]
          rfl
      · exact h.elim
    · exact h.elim
  · exact h.elim
theorem run_sl {t : TypeId} {e sz bytes : Nat} (he : elemT P t = some (e, sz, bytes)) : P.underlying t = some (.slice (P.elem t)) ∧ ∀ w : World, (sizeOf (P.elem t)).run P w = .ok sz w := by
  obtain ⟨i, z, hu, hi, hsz, _⟩ := elemT_spec he
  have : P.elem t = e := by unfold Program.elem; rw [hu]
  rw [this]
  exact ⟨hu, fun w => by simp [sizeOf, typeInfo, hi, hsz]⟩
theorem aclip_sound {t : TypeId} {x a b : AV} (h : aclip P G t x a b K) :
    ∃ z, K z ∧ (gt G → ∀ (u v1 v2 : Value), rep S w x u → rep S w a v1 → rep S w b v2 → Does P S H w z (Instr.sliceAt t u none (some v1) (some v2))) := by
  unfold aclip at h
  split at h
  · rename_i es ka a kb b
    split at h
    · rename_i e he
      refine ⟨_, h.2, fun hg u v1 v2 hu h1 h2 => ?_⟩
      obtain ⟨e1, e2⟩ := h.1 hg
      simp only [rep] at hu h1 h2
      subst h1 h2 e1 e2
      obtain ⟨ad, n, c, rfl, rfl, hc, hm, h4⟩ := hu
      obtain ⟨hs, hz⟩ := run_sl (P := P) (t := t) (by rw [he])
      refine ⟨.slice ad es.length es.length, ?_, fun w' _ => ?_⟩
      · simp only [rep]
        exact ⟨ad, _, rfl, rfl, by omega, h4⟩
      · rw [run_sliceAt_slice w' t _ _ _ _ hs]
        have hcc : (es.length : Int) ≤ (c : Int) := by exact_mod_cast hc
        rcases h4 with rfl | ⟨bb, o, sz, rfl, _⟩
        · simp [Instr.slice, run_underlying hs, Instr.sliceBounds, Instr.sliceBound, asIntOf, hz]
        · simp [Instr.slice, run_underlying hs, Instr.sliceBounds, Instr.sliceBound, asIntOf, hz, hcc, Addr.add]
          intro hlt; omega
    · exact h.elim
  · exact h.elim
theorem rep_sliced {es : List (List AV)} {ad : Option Addr} {n c sz a b : Nat} (hu : rep S w (.sl es) (.slice ad n c)) (hlen : allLen sz es) (hab : a ≤ b) (hb : b ≤ es.length) :
    rep S w (.sl ((es.take b).drop a)) (sliced ad a b c sz) := by
  simp only [rep] at hu ⊢
  obtain ⟨ad', n', c', e, h1, h2, h3, h4⟩ := hu
  injection e with e1 e2 e3
  subst e1 e2 e3
  refine ⟨_, _, _, rfl, by simp; omega, by omega, by omega, ?_⟩
  by_cases hne : (es.take b).drop a = []
  · exact .inl hne
  · refine .inr ?_
    rcases h4 with h4 | ⟨bl, o, sz', rfl, hro, hs, hels⟩
    · subst h4; simp at hne
    · have hl : 0 < es.length := by
        rcases Nat.eq_zero_or_pos es.length with h0 | h0
        · have := List.eq_nil_of_length_eq_zero h0; subst this; simp at hne
        · exact h0
      have hsz : sz' = sz := by
        have e1 := (elsAt_get es o 0 hels hl).1
        have e2 := allLen_iff.1 hlen (es.getD 0 []) (by simp only [List.getD, List.getElem?_eq_getElem hl, Option.getD_some]; exact List.getElem_mem hl)
        rw [← e1, e2]
      subst hsz
      have hlt : a < b := by
        rcases Nat.lt_or_ge a b with h | h
        · exact h
        · exact absurd (List.drop_eq_nil_of_le (by simp; omega)) hne
      refine ⟨bl, o + a * sz', sz', ?_, hro, hs, ?_⟩
      · split
        · omega
        · simp [Addr.add_lit]
      · exact elsAt_drop _ o a (elsAt_take es o b hels)
theorem aslice_sound {t : TypeId} {x : AV} {lo hi : Option AV} (h : aslice P G t x lo hi K) :
    ∃ z, K z ∧ (gt G → ∀ (u : Value) (vl vh : Option Value), rep S w x u → (∀ y, lo = some y → ∃ v, vl = some v ∧ rep S w y v) → (lo = none → vl = none) → (∀ y, hi = some y → ∃ v, vh = some v ∧ rep S w y v) → (hi = none → vh = none) →
      Does P S H w z (Instr.sliceAt t u vl vh none)) := by
  unfold aslice at h
  split at h
  · rename_i es ka a kb b
    split at h
    · rename_i e sz bytes he
      refine ⟨_, h.2, fun hg u vl vh hu hl _ hh _ => ?_⟩
      obtain ⟨⟨h0, h1, h2⟩, h3⟩ := h.1 hg
      obtain ⟨v, rfl, hv⟩ := hl _ rfl
      obtain ⟨v', rfl, hv'⟩ := hh _ rfl
      simp only [rep] at hv hv'
      subst hv hv'
      have hu' := hu
      simp only [rep] at hu'
      obtain ⟨ad, n, c, rfl, e1, e2, _⟩ := hu'
      obtain ⟨hs, hz⟩ := run_sl he
      have := rep_sliced (a := a.toNat) (b := b.toNat) hu h3 (by omega) (by omega)
      refine ⟨_, this, fun w' _ => ?_⟩
      rw [run_sliceAt_slice w' t _ _ _ _ hs, run_slice_lh w' t ad n c hs ka kb a b h0 h1 (by omega), hz]
      rfl
    · exact h.elim
  · rename_i es ka a
    split at h
    · rename_i e sz bytes he
      refine ⟨_, h.2, fun hg u vl vh hu hl _ _ hh => ?_⟩
      obtain ⟨⟨h0, h1⟩, h3⟩ := h.1 hg
      obtain ⟨v, rfl, hv⟩ := hl _ rfl
      have := hh rfl
      subst this
      simp only [rep] at hv
      subst hv
      have hu' := hu
      simp only [rep] at hu'
      obtain ⟨ad, n, c, rfl, e1, e2, _⟩ := hu'
      obtain ⟨hs, hz⟩ := run_sl he
      have := rep_sliced (a := a.toNat) (b := es.length) hu h3 (by omega) (by omega)
      rw [List.take_length, e1] at this
      refine ⟨_, this, fun w' _ => ?_⟩
      rw [run_sliceAt_slice w' t _ _ _ _ hs, run_slice_l w' t ad n c hs ka a h0 (by omega), hz]
      rfl
    · exact h.elim
  · rename_i es kb b
    split at h
    · rename_i e he
      refine ⟨_, h.2, fun hg u vl vh hu _ hl hh _ => ?_⟩
      obtain ⟨h0, h1⟩ := h.1 hg
      obtain ⟨v, rfl, hv⟩ := hh _ rfl
      have := hl rfl
      subst this
      simp only [rep] at hv
      subst hv
      obtain ⟨hs, hz⟩ := run_sl he
      simp only [rep] at hu
      obtain ⟨ad, n, c, rfl, e1, e2, e3, e4⟩ := hu
      refine ⟨sliced ad 0 b.toNat c e.2.1, ?_, fun w' _ => ?_⟩
      · simp only [rep]
        refine ⟨ad, b.toNat, c, ?_, by simp; omega, by omega, e3, ?_⟩
        · simp only [sliced, Nat.sub_zero]
          congr 1
          split
          · rfl
          · cases ad <;> simp [Addr.add_zero']
        · rcases e4 with e4 | ⟨bl, o, sz', rfl, hro, hsz, hels⟩
          · left; rw [e4]; simp
          · exact .inr ⟨bl, o, sz', rfl, hro, hsz, elsAt_take es o _ hels⟩
      · rw [run_sliceAt_slice w' t _ _ _ _ hs, run_slice_h w' t ad n c hs kb b h0 (by omega), hz]
        rfl
    · exact h.elim
  · rename_i s ka a kb b
    split at h
    · rename_i hs
      refine ⟨_, h.2, fun hg u vl vh hu hl _ hh _ => ?_⟩
      obtain ⟨h0, h1, h2⟩ := h.1 hg
      obtain ⟨v, rfl, hv⟩ := hl _ rfl
      obtain ⟨v', rfl, hv'⟩ := hh _ rfl
      simp only [rep] at hu hv hv'
      subst hu hv hv'
      refine does_pure rep_v fun w' => ?_
      rw [run_sliceAt_string w' t _ _ _ _ (stringT_spec hs), run_slice_string w' t s ka kb a b (stringT_spec hs) h0 h1 h2]
    · exact h.elim
  · rename_i s ka a
    split at h
    · rename_i hs
      refine ⟨_, h.2, fun hg u vl vh hu hl _ _ hh => ?_⟩
      obtain ⟨h0, h1⟩ := h.1 hg
      obtain ⟨v, rfl, hv⟩ := hl _ rfl
      have := hh rfl
      subst this
      simp only [rep] at hu hv
      subst hu hv
      refine does_pure rep_v fun w' => ?_
      rw [run_sliceAt_string w' t _ _ _ _ (stringT_spec hs), run_slice_string_l w' t s (stringT_spec hs) ka a h0 h1]
    · exact h.elim
  · rename_i s kb b
    split at h
    · rename_i hs
      refine ⟨_, h.2, fun hg u vl vh hu _ hl hh _ => ?_⟩
      obtain ⟨h0, h1⟩ := h.1 hg
      obtain ⟨v, rfl, hv⟩ := hh _ rfl
      have := hl rfl
      subst this
      simp only [rep] at hu hv
      subst hu hv
      refine does_pure rep_v fun w' => ?_
      rw [run_sliceAt_string w' t _ _ _ _ (stringT_spec hs), run_slice_string_h w' t s (stringT_spec hs) kb b h0 h1]
    · exact h.elim
  · exact h.elim
theorem oz_rep {k : Nat} {r : Row} (hH : Rows' S w H) (hk : H k = some r) {a b c : Nat} {ad : Option Addr} {n : Nat} (hl : S.loc k = .slice ad n c) (hab : a ≤ b) (hb : b ≤ r.es.length) : n = r.es.length ∧ n ≤ c ∧ rep S w (.oz k a b) (sliced ad a b c r.sz) := by
  have hR := hH k r hk
  obtain ⟨xs, ho, _, _⟩ := hR.sl hl
  have hcases : (ad = none ∧ n = 0 ∧ c = 0 ∧ r.es.length = 0) ∨ ∃ g, ad = some ⟨g, 0, none⟩ ∧ n = r.es.length ∧ n ≤ c := by
    rcases ho.2 with ⟨hv, hn⟩ | ⟨g, cap, cur, hv, _, _, hnc, _⟩
    · rw [hl] at hv
      injection hv with h1 h2 h3
      exact .inl ⟨h1, h2, h3, hn⟩
    · rw [hl] at hv
      injection hv with h1 h2 h3
      subst h3
      exact .inr ⟨g, h1, h2, by omega⟩
  have hn : n = r.es.length ∧ n ≤ c := by
    rcases hcases with ⟨_, h1, h2, h3⟩ | ⟨g, _, h1, h2⟩ <;> omega
  refine ⟨hn.1, hn.2, ?_⟩
  simp only [rep, sliced]
  refine ⟨hR.lt, ad, n, c, _, _, hl, rfl, hab, by omega, fun hlt => ?_, fun ha => ?_, hn.2, by omega, Nat.le_refl _⟩
  · rcases hcases with ⟨_, h1, h2, h3⟩ | ⟨g, h0, h1, h2⟩
    · omega
    · subst h0
      refine ⟨g, rfl, ?_⟩
      rw [if_neg (by omega)]
      simp [Addr.add_lit, hR.sz]
  · subst ha
    rcases hcases with ⟨h0, _, _, _⟩ | ⟨g, h0, _, _⟩
    · subst h0; simp
    · subst h0; simp [Addr.add_lit]
theorem nil_empty {k : Nat} (hH : Rows' S w H) {n c : Nat} (hl : S.loc k = .slice none n c) : emptyO H k := fun r hk => by
  obtain ⟨xs, ho, _, _⟩ := (hH k r hk).sl hl
  rcases ho.2 with ⟨_, hn⟩ | ⟨g, cap, cur, hv, _⟩
  · exact List.eq_nil_of_length_eq_zero hn
  · rw [hl] at hv; cases hv
theorem aclip3_sound {H' : Heap} {t : TypeId} {x a b m : AV} (hH : Rows' S w H) (h : aclip3 P G H t x a b m K) :
    ∃ z, K z ∧ (gt G → ∀ (u v1 v2 v3 : Value), rep S w x u → rep S w a v1 → rep S w b v2 → rep S w m v3 → Does P S H' w z (Instr.sliceAt t u (some v1) (some v2) (some v3))) := by
  unfold aclip3 at h
  split at h
  · rename_i k ka a kb b km m
    split at h
    · rename_i r e sz bytes hk he
      obtain ⟨hs, hz⟩ := run_sl he
      refine ⟨_, h.2, fun hg u v1 v2 v3 hu h1 h2 h3 => ?_⟩
      obtain ⟨⟨q0, q1, q2, q3⟩, qs⟩ := h.1 hg
      simp only [rep] at hu h1 h2 h3
      subst h1 h2 h3 q0
      obtain ⟨_, rfl, ad, n, c, hloc⟩ := hu
      obtain ⟨p1, p2, p3⟩ := oz_rep (a := 0) (b := b.toNat) hH hk hloc (by omega) (by omega)
      rw [hloc]
      refine ⟨sliced ad 0 b.toNat m.toNat sz, ?_, fun w' _ => ?_⟩
      · simp only [rep, sliced] at p3 ⊢
        obtain ⟨z1, ad1, n1, c1, ad2, cc, zl, ze, z2, z3, z4, z5, z6, z7, z8⟩ := p3
        rw [hloc] at zl
        injection zl with e1 e2 e3
        subst e1 e2 e3
        injection ze with f1 f2 f3
        have e5 := z5 trivial
        refine ⟨z1, ad, n, c, _, _, hloc, rfl, by omega, by omega, fun hlt => ?_, fun _ => ?_, p2, by omega, by omega⟩
        · obtain ⟨g, g1, g2⟩ := z4 (by omega)
          refine ⟨g, g1, ?_⟩
          subst g1
          split <;> simp [Addr.add_lit]
        · split
          · rfl
          · cases ad with
            | none => rfl
            | some d => simp [Addr.add]
      · rw [run_sliceAt_slice w' t _ _ _ _ hs, run_slice_lhm w' t ad n c hs ka kb km 0 b m (by omega) (by omega) (by omega) (by omega), hz]
        rfl
    · exact h.elim
  · exact h.elim
theorem asl_sound {H' : Heap} {t : TypeId} {x : AV} {lo hi : Option AV} (hH : Rows' S w H) (h : asl P G H t x lo hi K) :
    ∃ z, K z ∧ (gt G → ∀ (u : Value) (vl vh : Option Value), rep S w x u → (∀ y, lo = some y → ∃ v, vl = some v ∧ rep S w y v) → (lo = none → vl = none) → (∀ y, hi = some y → ∃ v, vh = some v ∧ rep S w y v) → (hi = none → vh = none) →
      Does P S H' w z (Instr.sliceAt t u vl vh none)) := by
  unfold asl at h
  split at h
  · rename_i k
    split at h
    · rename_i r e sz bytes hk he
      obtain ⟨hs, hz⟩ := run_sl he
      split at h
      · rename_i ka a kb b
        refine ⟨_, h.2, fun hg u vl vh hu hl _ hh _ => ?_⟩
        obtain ⟨⟨h0, h1, h2⟩, h3⟩ := h.1 hg
        obtain ⟨v, rfl, hv⟩ := hl _ rfl
        obtain ⟨v', rfl, hv'⟩ := hh _ rfl
        simp only [rep] at hv hv' hu
        subst hv hv'
        obtain ⟨_, rfl, ad, n, c, hloc⟩ := hu
        obtain ⟨q1, q2, q3⟩ := oz_rep (a := a.toNat) (b := b.toNat) hH hk hloc (by omega) (by omega)
        rw [hloc]
        refine ⟨_, q3, fun w' _ => ?_⟩
        rw [run_sliceAt_slice w' t _ _ _ _ hs, run_slice_lh w' t ad n c hs ka kb a b h0 h1 (by omega), hz, h3]
        rfl
      · rename_i ka a
        refine ⟨_, h.2, fun hg u vl vh hu hl _ _ hh => ?_⟩
        obtain ⟨⟨h0, h1⟩, h3⟩ := h.1 hg
        obtain ⟨v, rfl, hv⟩ := hl _ rfl
        have := hh rfl
        subst this
        simp only [rep] at hv hu
        subst hv
        obtain ⟨_, rfl, ad, n, c, hloc⟩ := hu
        obtain ⟨q1, q2, q3⟩ := oz_rep (a := a.toNat) (b := r.es.length) hH hk hloc (by omega) (by omega)
        rw [hloc]
        refine ⟨_, q3, fun w' _ => ?_⟩
        rw [run_sliceAt_slice w' t _ _ _ _ hs, run_slice_l w' t ad n c hs ka a h0 (by omega), hz, h3, q1]
        rfl
      · rename_i kb b
        refine ⟨_, h.2, fun hg u vl vh hu _ hl hh _ => ?_⟩
        obtain ⟨⟨h0, h1⟩, h3⟩ := h.1 hg
        obtain ⟨v, rfl, hv⟩ := hh _ rfl
        have := hl rfl
        subst this
        simp only [rep] at hv hu
        subst hv
        obtain ⟨_, rfl, ad, n, c, hloc⟩ := hu
        obtain ⟨q1, q2, q3⟩ := oz_rep (a := 0) (b := b.toNat) hH hk hloc (by omega) (by omega)
        rw [hloc]
        refine ⟨_, q3, fun w' _ => ?_⟩
        rw [run_sliceAt_slice w' t _ _ _ _ hs, run_slice_h w' t ad n c hs kb b h0 (by omega), hz, h3]
        rfl
      · exact h.elim
    · exact h.elim
  · rename_i k a b
    split at h
    · rename_i r e sz bytes hk he
      obtain ⟨hs, hz⟩ := run_sl he
      split at h
      · rename_i kl l
        refine ⟨_, h.2, fun hg u vl vh hu hl _ _ hh => ?_⟩
        obtain ⟨⟨h0, h1⟩, h3⟩ := h.1 hg
        obtain ⟨v, rfl, hv⟩ := hl _ rfl
        have := hh rfl
        subst this
        simp only [rep] at hv hu
        subst hv
        obtain ⟨hlt, ad, n, c, ad', cc, hloc, rfl, hab, hbn, hpos, hz0, hnc, hc1, hc2⟩ := hu
        have hR := hH k r hk
        refine ⟨sliced ad' l.toNat (b - a) cc r.sz, ?_, fun w' _ => ?_⟩
        · simp only [rep, sliced]
          refine ⟨hlt, ad, n, c, _, _, hloc, congrArg (fun m => Value.slice _ m _) (by omega), by omega, hbn, fun hc => ?_, fun ha => ?_, hnc, by omega, by omega⟩
          · obtain ⟨g, rfl, rfl⟩ := hpos (by omega)
            refine ⟨g, rfl, ?_⟩
            rw [if_neg (by omega)]
            simp [Addr.add_lit, hR.sz, Nat.add_mul]
          · have ha0 : a = 0 := by omega
            have hl0 : l.toNat = 0 := by omega
            have e1 := hz0 ha0
            subst e1
            rw [hl0]
            split
            · rfl
            · rename_i hc0
              obtain ⟨g, e1, e2⟩ := hpos (by omega)
              rw [e1]; simp [Addr.add_lit]
        · rw [run_sliceAt_slice w' t _ _ _ _ hs, run_slice_l w' t ad' (b - a) cc hs kl l h0 (by omega), hz, h3]
          rfl
      · exact h.elim
    · exact h.elim
  · exact aslice_sound h
theorem aindex_sound {t : TypeId} {x i : AV} (h : aindex P G t x i K) :
    ∃ z, K z ∧ (gt G → ∀ u v, rep S w x u → rep S w i v → Does P S H w z (Instr.index t u v)) := by
  unfold aindex at h
  split at h
  · rename_i s k n
    split at h
    · rename_i hs
      refine ⟨_, h.2, fun hg u v hu hv => ?_⟩
      obtain ⟨h0, h1⟩ := h.1 hg
      simp only [rep] at hu hv
      subst hu hv
      refine does_pure rep_v fun w' => ?_
      rw [run_index_string w' t s k n (stringT_spec hs), dif_pos ⟨h0, h1⟩]
      have hlt : n.toNat < s.data.size := by have : s.size = s.data.size := rfl; omega
      congr 4
      rw [Array.getD, dif_pos hlt]
      rfl
    · exact h.elim
  · rename_i cs k n
    split at h
    · rename_i m s l ha
      obtain ⟨e, inf, hu, hi, rfl, _, hl⟩ := arrT_spec ha
      obtain ⟨z, hz, hd⟩ := apart_sound (S := S) (H := H) (w := w) hl h.2
      refine ⟨z, hz, fun hg u v hu' hv => ?_⟩
      obtain ⟨h0, h1⟩ := h.1 hg
      obtain ⟨cs', rfl, hd'⟩ := hd hg u hu'
      simp only [rep] at hv
      subst hv
      obtain ⟨r, hr, hrun⟩ := hd'
      refine ⟨r, hr, fun w' hw => ?_⟩
      have := hrun w' hw
      simp [Instr.index, asIntOf, run_underlying hu, h0, h1, sizeOf, typeInfo, hi]
      simpa using this
    · exact h.elim
  · exact h.elim
def opB (n : Nat) : Operand → Bool
  | .tmp t => decide (t < n)
  | _ => true
def FR (S : Sg) (w : World) (ρ : Env) (a : Act) : Prop := ∀ t, t < a.tmps.size → rep S w (ρ t) (a.tmps.getD t undef)
theorem aev_sound {ρ : Env} {a : Act} (hF : FR S w ρ a) {x : Operand} (hx : opB a.tmps.size x = true) : rep S w (aev ρ x) (a.eval x) := by
  cases x with
  | tmp t => simp only [opB, decide_eq_true_eq] at hx; exact hF t hx
  | const v => exact zeroV_rep v
  | global g => trivial
  | func f => exact rep_v
theorem aevn_sound {ρ : Env} {a : Act} (hF : FR S w ρ a) {x : Operand} (hx : opB a.tmps.size x = true) : rep S w (aevn ρ x) (a.eval x) := by
  cases x with
  | const v => exact rep_v
  | tmp t => exact aev_sound hF hx
  | global g => exact aev_sound hF hx
  | func f => exact aev_sound hF hx
theorem aevns_sound {ρ : Env} {a : Act} (hF : FR S w ρ a) : ∀ (l : List Operand), (∀ x ∈ l, opB a.tmps.size x = true) → repL S w (l.map (aevn ρ)) (l.map a.eval)
  | [], _ => rfl
  | x :: l, h => by
    simp only [List.map_cons, repL]
    exact ⟨_, _, rfl, aevn_sound hF (h x (by simp)), aevns_sound hF l fun y hy => h y (by simp [hy])⟩
theorem wparts_sound {ρ : Env} {a : Act} (hF : FR S w ρ a) : ∀ (l : List (Nat × Operand)) {K : List (Nat × List AV) → Prop}, (∀ p ∈ l, opB a.tmps.size p.2 = true) → wparts G ρ l K →
    ∃ ps, K ps ∧ (gt G → ps.length = (l.map fun p => (p.1, a.eval p.2)).length ∧
      ∀ (j i : Nat) (c : List AV), ps[j]? = some (i, c) → ∃ (v : Value) (l' : List Value), (l.map fun p => (p.1, a.eval p.2))[j]? = some (i, v) ∧ v.cells = List.toArray l' ∧ repL S w c l' ∧ ∀ u ∈ l', u.oneCell' = true)
  | [], K, _, h => ⟨[], h, fun _ => ⟨rfl, by simp⟩⟩
  | (i, x) :: rest, K, hb, h => by
    simp only [wparts] at h
    obtain ⟨y, h, hy⟩ := wopd_sound (S := S) (w := w) h
    obtain ⟨cs, h, hcs⟩ := wcells_sound (S := S) (w := w) h
    obtain ⟨ps, hK, hps⟩ := wparts_sound hF rest (fun p hp => hb p (by simp [hp])) h
    refine ⟨_, hK, fun hg => ?_⟩
    obtain ⟨e1, e2⟩ := hps hg
    refine ⟨by simpa using e1, fun j k c hj => ?_⟩
    cases j with
    | zero =>
      simp at hj
      obtain ⟨rfl, rfl⟩ := hj
      obtain ⟨l', f1, f2, f3⟩ := hcs _ (hy hg _ (aev_sound hF (hb (i, x) (by simp))))
      exact ⟨_, l', by simp, f1, f2, f3⟩
    | succ j => simpa using e2 j k c (by simpa using hj)
theorem partsT_built2 {t : TypeId} {i : TypeInfo} {zv : Value} {z : List AV} {pl : List (Nat × Nat)} (hi : P.info? t = some i) (hzv : i.zero = some zv) (h1 : ∀ u ∈ zv.cells.toList, u.oneCell' = true) (hr : repL S w z zv.cells.toList) (hp : partsT P t = some pl) {parts : List (Nat × List AV)} {vs : List (Nat × Value)} {cs : List AV}
    (hf : afill pl z parts = some cs) (hl : parts.length = vs.length)
    (hv : ∀ (j i : Nat) (c : List AV), parts[j]? = some (i, c) → ∃ (v : Value) (l : List Value), vs[j]? = some (i, v) ∧ v.cells = List.toArray l ∧ repL S w c l ∧ ∀ u ∈ l, u.oneCell' = true) :
    ∃ A', P.built t vs = some A' ∧ repL S w cs A'.toList ∧ ∀ v ∈ A'.toList, v.oneCell' = true := by
  unfold partsT at hp
  split at hp
  · rename_i fs hu
    obtain ⟨A', f1, f2, f3⟩ := afill_sound (place := fun i => pl.toArray[i]?) (fun i on h => by simpa using h) parts vs _ zv.cells cs hf hr h1 hl hv
    refine ⟨A', ?_, f2, f3⟩
    unfold Program.built
    simp only [hi, hu, hzv, hp]
    exact f1
  · rename_i n e hu
    cases hie : P.info? e with
    | none => simp [hie] at hp
    | some ie =>
      simp [hie] at hp
      obtain ⟨A', f1, f2, f3⟩ := afill_sound (place := fun i => some (i * ie.size, ie.size)) (fun i on h => by
        rw [← hp] at h
        simp only [List.getElem?_map, Option.map_eq_some_iff] at h
        obtain ⟨j, h, rfl⟩ := h
        have hlt : i < n := by
          rcases Nat.lt_or_ge i n with h' | h'
          · exact h'
          · simp [List.getElem?_eq_none, h'] at h
        simp [hlt] at h
        rw [h]) parts vs _ zv.cells cs hf hr h1 hl hv
      refine ⟨A', ?_, f2, f3⟩
      unfold Program.built
      simp only [hi, hu, hzv, hie]
      exact f1
  · simp at hp
theorem partsT_built {t : TypeId} {z : List AV} {pl : List (Nat × Nat)} (hz : zeroT P t = some z) (hp : partsT P t = some pl) {parts : List (Nat × List AV)} {vs : List (Nat × Value)} {cs : List AV}
    (hf : afill pl z parts = some cs) (hl : parts.length = vs.length)
    (hv : ∀ (j i : Nat) (c : List AV), parts[j]? = some (i, c) → ∃ (v : Value) (l : List Value), vs[j]? = some (i, v) ∧ v.cells = List.toArray l ∧ repL S w c l ∧ ∀ u ∈ l, u.oneCell' = true) :
    ∃ A', P.built t vs = some A' ∧ repL S w cs A'.toList ∧ ∀ v ∈ A'.toList, v.oneCell' = true := by
  obtain ⟨i, zv, hi, hzv, rfl, hsz, _, h1⟩ := zeroT_spec hz
  exact partsT_built2 hi hzv h1 (zeroL_rep zv.cells.toList) hp hf hl hv
end
end Go.Aw
