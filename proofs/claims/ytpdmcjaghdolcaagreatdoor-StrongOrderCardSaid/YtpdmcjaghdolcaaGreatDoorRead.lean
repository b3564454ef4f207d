/- What a call is handed, read as data: from the form's own readings to the cells of the AW layer. -/
import Derived.Test.YtpdmcjaghdolcaaGreatDoorData
import Derived.Test.YtpdmcjaghdolcaaGreatDoorRows
import Derived.Carry
import Derived.OpenShut
import Derived.JoinedCond
set_option linter.unusedSimpArgs false
set_option linter.unusedVariables false
namespace Go.Aw.D
open Go.Aw Go.RowKit
set_option maxRecDepth 100000

def Sw (w : World) : Sg := ⟨fun k => k < w.heap.size, fun k => k < w.heap.size, fun _ => .slice none 0 0, fun _ => 1, 0⟩
theorem Sw_st (w : World) : St (Sw w) w noRows := ⟨fun _ h => h, fun _ h => h, fun k r hk => by simp [noRows] at hk, fun k r hk => by simp [noRows] at hk, fun k k' r r' hk => by simp [noRows] at hk⟩

def bInt (_ : Nat) (x : Int) : Prop := -9223372036854775808 ≤ x ∧ x ≤ 9223372036854775807
def bBool (_ : Nat) (_ : Bool) : Prop := True
def bStr (n : Nat) (s : ByteArray) : Prop := s.size ≤ n
def bL {α : Type} (b : Nat → α → Prop) (n : Nat) (l : List α) : Prop := l.length ≤ n ∧ ∀ x ∈ l, b n x

/-- what is read of type t is a value of α, in cells -/
def Rd {H : Type} (e : TypeId × Value → H) (B : DataW H → Nat) (P : Program) (w : World) (t : TypeId) {α : Type} (enc : α → List AV) (b : Nat → α → Prop) : Prop :=
  ∀ fuel cs y, DataW.trod e P w 0 (fun _ => true) true fuel t cs = some y → ∃ x : α, (repL (Sw w) w (enc x) cs ∧ ∀ u ∈ cs, u.oneCell' = true) ∧ ∀ n, B y.1 ≤ n → b n x

section
variable {H : Type} {e : TypeId × Value → H} {P : Program} {w : World} {t : TypeId}
abbrev BK (H : Type) : DataW H → Nat := Go.Proofs.YtpdmcjaghdolcaaGreatDoor.Rows.uptoBulk

theorem rd_int (ht : P.underlying t = some (.int .i64)) : Rd e (BK H) P w t encInt bInt := by
  intro fuel cs y h
  obtain ⟨n, rfl, _, hw⟩ := DataW.trod_int ht h
  refine ⟨n, ⟨by simp only [encInt, repL]; exact ⟨_, _, rfl, by simp only [rep], rfl⟩, by simp [Value.oneCell']⟩, fun _ _ => bounds_i64 hw⟩
theorem rd_bool (ht : P.underlying t = some .bool) : Rd e (BK H) P w t encBool bBool := by
  intro fuel cs y h
  obtain ⟨n, rfl, _⟩ := DataW.trod_bool ht h
  refine ⟨n, ⟨by simp only [encBool, repL]; exact ⟨_, _, rfl, by simp only [rep], rfl⟩, by simp [Value.oneCell']⟩, fun _ _ => trivial⟩
theorem rd_str (ht : P.underlying t = some .string) : Rd e (BK H) P w t encStr bStr := by
  intro fuel cs y h
  obtain ⟨s, rfl, rfl, _⟩ := DataW.trod_string ht h
  refine ⟨s, ⟨by simp only [encStr, repL]; exact ⟨_, _, rfl, by simp only [rep], rfl⟩, by simp [Value.oneCell']⟩, fun n hn => ?_⟩
  simp only [BK, Go.Proofs.YtpdmcjaghdolcaaGreatDoor.Rows.uptoBulk, Array.length_toList] at hn
  have : s.size = s.data.size := rfl
  simp only [bStr]; omega

theorem bulk_part {d : DataW H} {l : List (DataW H)} (h : d ∈ l) : BK H d ≤ Go.Proofs.YtpdmcjaghdolcaaGreatDoor.Rows.uptoBulkAll l := by
  induction l with
  | nil => cases h
  | cons x r ih =>
    simp only [Go.Proofs.YtpdmcjaghdolcaaGreatDoor.Rows.uptoBulkAll]
    cases List.mem_cons.1 h with
    | inl e => subst e; simp only [BK]; omega
    | inr e => have := ih e; omega
theorem bulk_one (d : DataW H) : 1 ≤ BK H d := by
  cases d with
  | lit l => cases l <;> simp [BK, Go.Proofs.YtpdmcjaghdolcaaGreatDoor.Rows.uptoBulk]
  | nil => simp [BK, Go.Proofs.YtpdmcjaghdolcaaGreatDoor.Rows.uptoBulk]
  | ptr d => simp [BK, Go.Proofs.YtpdmcjaghdolcaaGreatDoor.Rows.uptoBulk]
  | slice elems spare => simp [BK, Go.Proofs.YtpdmcjaghdolcaaGreatDoor.Rows.uptoBulk]
  | agg parts => simp [BK, Go.Proofs.YtpdmcjaghdolcaaGreatDoor.Rows.uptoBulk]
  | iface t d => simp [BK, Go.Proofs.YtpdmcjaghdolcaaGreatDoor.Rows.uptoBulk]
  | map entries => simp [BK, Go.Proofs.YtpdmcjaghdolcaaGreatDoor.Rows.uptoBulk]
  | held h => simp [BK, Go.Proofs.YtpdmcjaghdolcaaGreatDoor.Rows.uptoBulk]
theorem bulk_length (l : List (DataW H)) : l.length ≤ Go.Proofs.YtpdmcjaghdolcaaGreatDoor.Rows.uptoBulkAll l := by
  induction l with
  | nil => simp [Go.Proofs.YtpdmcjaghdolcaaGreatDoor.Rows.uptoBulkAll]
  | cons x r ih => have := bulk_one x; simp only [Go.Proofs.YtpdmcjaghdolcaaGreatDoor.Rows.uptoBulkAll, List.length_cons, BK] at *; omega

theorem choose_list {α : Type} (n : Nat) (p : Nat → α → Prop) (h : ∀ i, i < n → ∃ x, p i x) : ∃ l : List α, l.length = n ∧ ∀ i x, l[i]? = some x → p i x := by
  induction n with
  | zero => exact ⟨[], rfl, by simp⟩
  | succ n ih =>
    obtain ⟨l, hl, hp⟩ := ih fun i hi => h i (by omega)
    obtain ⟨x, hx⟩ := h n (by omega)
    refine ⟨l ++ [x], by simp [hl], fun i y hy => ?_⟩
    rcases Nat.lt_or_ge i n with hi | hi
    · rw [List.getElem?_append_left (by omega)] at hy; exact hp i y hy
    · rw [List.getElem?_append_right (by omega)] at hy
      have : i - l.length = 0 := by
        rcases Nat.eq_zero_or_pos (i - l.length) with h0 | h0
        · exact h0
        · rw [List.getElem?_eq_none (by simp; omega)] at hy; simp at hy
      rw [this] at hy
      have hi' : i = n := by omega
      subst hi'
      simp at hy; subst hy; exact hx
theorem elsAt_of_get {S : Sg} {b sz : Nat} {α : Type} {enc : α → List AV} (hlen : ∀ x, (enc x).length = sz) : ∀ (l : List α) (o : Nat), (∀ i x, l[i]? = some x → cellsAt S w b (o + i * sz) (enc x)) → elsAt S w b sz o (l.map enc)
  | [], _, _ => by simp [elsAt]
  | x :: r, o, h => by
    simp only [List.map_cons, elsAt]
    refine ⟨hlen x, by simpa using h 0 x rfl, elsAt_of_get hlen r (o + sz) fun i y hy => ?_⟩
    have := h (i + 1) y (by simpa using hy)
    rwa [show o + (i + 1) * sz = o + sz + i * sz by rw [Nat.add_mul]; omega] at this

theorem cells_get {a : Addr} {n : Nat} {cs : List Value} (h : w.cells? 0 a n = some cs) : cs.length = n ∧ ∀ j, j < n → w.cell? (a.add j) = cs[j]? := by
  unfold World.cells? at h
  rw [if_pos (Nat.zero_le _)] at h
  have hl := mapM_some_length h
  exact ⟨by simpa using hl, fun j hj => mapM_some_get h j j (by simp [hj])⟩

theorem rd_slice {α : Type} {enc : α → List AV} {b : Nat → α → Prop} {et : TypeId} {sz : Nat} (ht : P.underlying t = some (.slice et)) (hc : P.cellsOf et = sz) (hpos : 0 < sz) (hlen : ∀ x, (enc x).length = sz) (hr : Rd e (BK H) P w et enc b) :
    Rd e (BK H) P w t (fun l : List α => [.sl (l.map enc)]) (bL b) := by
  intro fuel cs y h
  rcases DataW.trod_slice ht h with ⟨rfl, rfl⟩ | ⟨a, len, cap, elems, rest, n, rfl, rfl, rfl, _, hlc, hcap, hel, hget, hsp, _⟩
  · refine ⟨[], ⟨?_, by simp [Value.oneCell']⟩, fun n _ => ⟨by simp, by simp⟩⟩
    simp only [repL, rep, List.map_nil]
    exact ⟨_, _, rfl, ⟨none, 0, 0, rfl, rfl, Nat.le_refl _, Nat.zero_le _, by simp⟩, rfl⟩
  · have hp : ∀ i, i < len → ∃ x : α, ∃ z cs', elems[i]? = some z ∧ w.cells? 0 (a.add (i * sz)) sz = some cs' ∧ (repL (Sw w) w (enc x) cs' ∧ ∀ u ∈ cs', u.oneCell' = true) ∧ ∀ n, BK H z.1 ≤ n → b n x := fun i hi => by
      have hg := hget i hi
      rw [List.getElem?_eq_getElem (by omega), hc, Option.bind_eq_some_iff] at hg
      obtain ⟨cs', h1, h2⟩ := hg
      obtain ⟨x, hx, hb⟩ := hr _ _ _ h2
      exact ⟨x, _, cs', List.getElem?_eq_getElem (by omega), h1, hx, hb⟩
    obtain ⟨l, hl, hpl⟩ := choose_list len _ hp
    refine ⟨l, ⟨?_, by simp [Value.oneCell']⟩, fun m hm => ⟨?_, fun x hx => ?_⟩⟩
    · simp only [repL]
      refine ⟨_, _, rfl, ?_, rfl⟩
      simp only [rep]
      refine ⟨some a, len, cap, rfl, by simp [hl], hlc, hcap, ?_⟩
      rcases Nat.eq_zero_or_pos len with h0 | h0
      · left; rw [List.eq_nil_of_length_eq_zero (hl.trans h0)]; rfl
      · right
        have h00 := hp 0 h0
        obtain ⟨_, _, cs0, _, hc0, _⟩ := h00
        have q := (cells_get hc0).2 0 hpos
        have hlen0 := (cells_get hc0).1
        rw [List.getElem?_eq_getElem (by omega)] at q
        simp only [Nat.zero_mul, Addr.add, if_true] at q
        have hspot : a.spot = none ∧ a.block < w.heap.size := by
          unfold World.cell? at q
          split at q
          · rename_i c _ _ hb
            split at q
            · simp at q
            · rename_i hs
              refine ⟨by simpa using hs, ?_⟩
              rcases Nat.lt_or_ge a.block w.heap.size with h | h
              · exact h
              · rw [Array.getElem?_eq_none h] at hb; simp at hb
          · simp at q
        obtain ⟨ab, ao, asp⟩ := a
        obtain ⟨hs, hlt⟩ := hspot
        simp only at hs hlt
        subst hs
        refine ⟨ab, ao, sz, rfl, hlt, hpos, elsAt_of_get hlen l ao fun i x hx => ?_⟩
        obtain ⟨z, cs', _, hcs, ⟨h1, h2⟩, _⟩ := hpl i x hx
        refine cellsAt_of_repL _ cs' _ h1 h2 fun j u hj => ?_
        obtain ⟨e1, e2⟩ := cells_get hcs
        have hj' : j < sz := by
          rcases Nat.lt_or_ge j sz with h | h
          · exact h
          · rw [List.getElem?_eq_none (by omega)] at hj; simp at hj
        have := e2 j hj'
        rw [hj, Addr.add_lit, Addr.add_lit] at this
        exact this
    · rw [hl, ← hel]
      have h1 := bulk_length (elems.map (·.1))
      simp only [BK, Go.Proofs.YtpdmcjaghdolcaaGreatDoor.Rows.uptoBulk, List.length_map] at hm h1
      omega
    · obtain ⟨i, hi⟩ := List.mem_iff_getElem?.1 hx
      obtain ⟨z, cs', hz, _, _, hb⟩ := hpl i x hi
      refine hb m ?_
      have h1 := bulk_part (List.mem_map_of_mem (f := (·.1)) (List.mem_of_getElem? hz))
      simp only [BK, Go.Proofs.YtpdmcjaghdolcaaGreatDoor.Rows.uptoBulk] at hm h1 ⊢
      omega

theorem fld {fuel o m : Nat} {cs : List Value} {z : DataW H × List MemPlace} (hc : P.cellsOf t = m) (h : DataW.trod e P w 0 (fun _ => true) true fuel t ((cs.drop o).take (P.cellsOf t)) = some z) : DataW.trod e P w 0 (fun _ => true) true fuel t ((cs.drop o).take m) = some z := hc ▸ h
theorem repL_step {S : Sg} {a b : List AV} {cs : List Value} {o m : Nat} (h : repL S w a ((cs.drop o).take m)) (h' : repL S w b (cs.drop (o + m))) : repL S w (a ++ b) (cs.drop o) := by
  have := repL_append a b _ _ h h'
  rwa [← List.drop_drop, List.take_append_drop] at this
theorem repL_end {S : Sg} {cs : List Value} {o : Nat} (h : cs.length = o) : repL S w [] (cs.drop o) := by
  rw [List.drop_eq_nil_of_le (by omega)]; simp [repL]
theorem one_step {cs : List Value} {o m : Nat} (h : ∀ u ∈ (cs.drop o).take m, u.oneCell' = true) (h' : ∀ u ∈ cs.drop (o + m), u.oneCell' = true) : ∀ u ∈ cs.drop o, u.oneCell' = true := by
  intro u hu
  rw [← List.take_append_drop m (cs.drop o), List.drop_drop] at hu
  rcases List.mem_append.1 hu with hu | hu
  · exact h u hu
  · exact h' u hu
theorem one_end {cs : List Value} {o : Nat} (h : cs.length = o) : ∀ u ∈ cs.drop o, u.oneCell' = true := by
  rw [List.drop_eq_nil_of_le (by omega)]; simp
theorem bulk_field {xs : List (DataW H × List MemPlace)} {i : Nat} {z : DataW H × List MemPlace} (hz : xs[i]? = some z) {n : Nat} (h : BK H (.agg (xs.map (·.1))) ≤ n) : BK H z.1 ≤ n := by
  have h1 := bulk_part (List.mem_map_of_mem (f := (·.1)) (List.mem_of_getElem? hz))
  simp only [BK, Go.Proofs.YtpdmcjaghdolcaaGreatDoor.Rows.uptoBulk] at h h1 ⊢
  omega
theorem get_some {α : Type} {xs : List α} {n i : Nat} (h : xs.length = n) (hi : i < n) : ∃ z, xs[i]? = some z := ⟨xs[i], List.getElem?_eq_getElem (by omega)⟩
end
section
open Go.Proofs Go.Proofs.YtpdmcjaghdolcaaGreatDoor
variable {H : Type} {e : TypeId × Value → H} {w : World}
def bWeight (n : Nat) (x : Weight) : Prop := bInt n x.yes ∧ bInt n x.no ∧ bBool n x.noneYes ∧ bBool n x.noneNo
theorem rd_Weight : Rd e (BK H) Tryz.prog w 23 encWeight bWeight := by
  intro fuel cs y h
  obtain ⟨xs, n, rfl, rfl, hl, hxl, hf⟩ := DataW.trod_struct Tryz.underlying23 h
  have hxl : xs.length = 4 := hxl
  have hl : cs.length = 4 := hl.trans (by kernel_rfl)
  obtain ⟨z0, hz0⟩ := get_some hxl (show 0 < 4 by omega)
  obtain ⟨x0, ⟨r0, o0⟩, b0⟩ := (rd_int Tryz.underlying3 : Rd e (BK H) Tryz.prog w 3 _ _) n ((cs.drop 0).take 1) z0 (fld (t := 3) (o := 0) (m := 1) (by kernel_rfl) ((hf 0 _ rfl).trans hz0))
  obtain ⟨z1, hz1⟩ := get_some hxl (show 1 < 4 by omega)
  obtain ⟨x1, ⟨r1, o1⟩, b1⟩ := (rd_int Tryz.underlying3 : Rd e (BK H) Tryz.prog w 3 _ _) n ((cs.drop 1).take 1) z1 (fld (t := 3) (o := 1) (m := 1) (by kernel_rfl) ((hf 1 _ rfl).trans hz1))
  obtain ⟨z2, hz2⟩ := get_some hxl (show 2 < 4 by omega)
  obtain ⟨x2, ⟨r2, o2⟩, b2⟩ := (rd_bool Tryz.underlying4 : Rd e (BK H) Tryz.prog w 4 _ _) n ((cs.drop 2).take 1) z2 (fld (t := 4) (o := 2) (m := 1) (by kernel_rfl) ((hf 2 _ rfl).trans hz2))
  obtain ⟨z3, hz3⟩ := get_some hxl (show 3 < 4 by omega)
  obtain ⟨x3, ⟨r3, o3⟩, b3⟩ := (rd_bool Tryz.underlying4 : Rd e (BK H) Tryz.prog w 4 _ _) n ((cs.drop 3).take 1) z3 (fld (t := 4) (o := 3) (m := 1) (by kernel_rfl) ((hf 3 _ rfl).trans hz3))
  refine ⟨⟨x0, x1, x2, x3⟩, ⟨?_, ?_⟩, fun m hm => ⟨b0 m (bulk_field hz0 hm), b1 m (bulk_field hz1 hm), b2 m (bulk_field hz2 hm), b3 m (bulk_field hz3 hm)⟩⟩
  · have := repL_step (o := 0) (m := 1) r0 (repL_step (o := 1) (m := 1) r1 (repL_step (o := 2) (m := 1) r2 (repL_step (o := 3) (m := 1) r3 (repL_end (by omega)))))
    rw [List.drop_zero] at this; exact this
  · have := one_step (o := 0) (m := 1) o0 (one_step (o := 1) (m := 1) o1 (one_step (o := 2) (m := 1) o2 (one_step (o := 3) (m := 1) o3 (one_end (by omega)))))
    rw [List.drop_zero] at this; exact this
end
end Go.Aw.D
