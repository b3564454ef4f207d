/- Texts joined by a program: Read, Bridge. -/
import Derived.Test.YtjohkkigiacbjaaGreatDoorRows
import Derived.Carry
import Derived.OpenShut
import Derived.JoinedCond
import Derived.WalkKit
import Derived.ProofKit
import Derived.WideKeyArgs
import Derived.Test.YtjohkkigiacbjaaGreatDoorSp14

section
set_option linter.unusedSimpArgs false
set_option linter.unusedVariables false
namespace Go.Aw.D
open Go.Aw Go.RowKit
set_option maxRecDepth 100000
def Sw (w : World) : Sg := ⟨fun k => k < w.heap.size, fun k => k < w.heap.size, fun _ => .slice none 0 0, fun _ => 1, 0⟩
def TabsIn (w : World) : Prop := ∀ t ∈ tabL, t.2 (varCells w t.1)
theorem varCells_lt {w : World} {g : Nat} {cs : Array Value} (h : varCells w g = some cs) : g < w.heap.size := by
  unfold varCells at h
  split at h
  · rename_i h1; exact (Array.getElem?_eq_some_iff.1 h1).1
  · cases h
theorem Sw_st (w : World) (ht : TabsIn w) : St (Sw w) w noRows := ⟨fun _ h => h, fun _ h => h, fun k r hk => by simp [noRows] at hk, fun k r hk => by simp [noRows] at hk, fun k k' r r' hk => by simp [noRows] at hk, fun t h => by
  obtain ⟨a, ha⟩ := tab_some h (ht t h)
  exact ⟨varCells_lt ha, ht t h⟩⟩
def bInt (_ : Nat) (x : Int) : Prop := -9223372036854775808 ≤ x ∧ x ≤ 9223372036854775807
def bBool (_ : Nat) (_ : Bool) : Prop := True
def bStr (n : Nat) (s : ByteArray) : Prop := s.size ≤ n
def bL {α : Type} (b : Nat → α → Prop) (n : Nat) (l : List α) : Prop := l.length ≤ n ∧ ∀ x ∈ l, b n x
def Rd {H : Type} (e : TypeId × Value → H) (B : DataW H → Nat) (P : Program) (w : World) (t : TypeId) {α : Type} (enc : α → List AV) (b : Nat → α → Prop) : Prop :=
  ∀ fuel cs y, DataW.trod e P w 0 (fun _ => true) true fuel t cs = some y → ∃ x : α, (repL (Sw w) w (enc x) cs ∧ ∀ u ∈ cs, u.oneCell' = true) ∧ ∀ n, B y.1 ≤ n → b n x
section
variable {H : Type} {e : TypeId × Value → H} {P : Program} {w : World} {t : TypeId}
abbrev BK (H : Type) : DataW H → Nat := Go.Proofs.YtjohkkigiacbjaaGreatDoor.Rows.uptoBulk
theorem rd_int (ht : P.underlying t = some (.int .i64)) : Rd e (BK H) P w t encInt bInt := by
  intro fuel cs y h
  obtain ⟨n, rfl, _, hw⟩ := DataW.trod_int ht h
  refine ⟨n, ⟨by simp only [encInt, repL]; exact ⟨_, _, rfl, by simp only [rep], rfl⟩, by simp [Value.oneCell']⟩, fun _ _ => bounds_i64 hw⟩
theorem rd_bool (ht : P.underlying t = some .bool) : Rd e (BK H) P w t encBool bBool := by
  intro fuel cs y h
  obtain ⟨n, rfl, _⟩ := DataW.trod_bool ht h
  refine ⟨n, ⟨by simp only [encBool, repL]; exact ⟨_, _, rfl, by simp only [rep], rfl⟩, by simp [Value.oneCell']⟩, fun _ _ => trivial⟩
theorem rd_str (ht : P.underlying t = some .string) : Rd e (BK H) P w t encStr bStr := by
  intro fuel cs y h
  obtain ⟨s, rfl, rfl, _⟩ := DataW.trod_string ht h
  refine ⟨s, ⟨by simp only [encStr, repL]; exact ⟨_, _, rfl, by simp only [rep], rfl⟩, by simp [Value.oneCell']⟩, fun n hn => ?_⟩
  simp only [BK, Go.Proofs.YtjohkkigiacbjaaGreatDoor.Rows.uptoBulk, Array.length_toList] at hn
  have : s.size = s.data.size := rfl
  simp only [bStr]; omega
theorem bulk_part {d : DataW H} {l : List (DataW H)} (h : d ∈ l) : BK H d ≤ Go.Proofs.YtjohkkigiacbjaaGreatDoor.Rows.uptoBulkAll l := by
  induction l with
  | nil => cases h
  | cons x r ih =>
    simp only [Go.Proofs.YtjohkkigiacbjaaGreatDoor.Rows.uptoBulkAll]
    cases List.mem_cons.1 h with
    | inl e => subst e; simp only [BK]; omega
    | inr e => have := ih e; omega
theorem bulk_one (d : DataW H) : 1 ≤ BK H d := by
  cases d with
  | lit l => cases l <;> simp [BK, Go.Proofs.YtjohkkigiacbjaaGreatDoor.Rows.uptoBulk]
  | nil => simp [BK, Go.Proofs.YtjohkkigiacbjaaGreatDoor.Rows.uptoBulk]
  | ptr d => simp [BK, Go.Proofs.YtjohkkigiacbjaaGreatDoor.Rows.uptoBulk]
  | slice elems spare => simp [BK, Go.Proofs.YtjohkkigiacbjaaGreatDoor.Rows.uptoBulk]
  | agg parts => simp [BK, Go.Proofs.YtjohkkigiacbjaaGreatDoor.Rows.uptoBulk]
  | iface t d => simp [BK, Go.Proofs.YtjohkkigiacbjaaGreatDoor.Rows.uptoBulk]
  | map entries => simp [BK, Go.Proofs.YtjohkkigiacbjaaGreatDoor.Rows.uptoBulk]
  | held h => simp [BK, Go.Proofs.YtjohkkigiacbjaaGreatDoor.Rows.uptoBulk]
theorem bulk_length (l : List (DataW H)) : l.length ≤ Go.Proofs.YtjohkkigiacbjaaGreatDoor.Rows.uptoBulkAll l := by
  induction l with
  | nil => simp [Go.Proofs.YtjohkkigiacbjaaGreatDoor.Rows.uptoBulkAll]
  | cons x r ih => have := bulk_one x; simp only [Go.Proofs.YtjohkkigiacbjaaGreatDoor.Rows.uptoBulkAll, List.length_cons, BK] at *; omega
theorem choose_list {α : Type} (n : Nat) (p : Nat → α → Prop) (h : ∀ i, i < n → ∃ x, p i x) : ∃ l : List α, l.length = n ∧ ∀ i x, l[i]? = some x → p i x := by
  induction n with
  | zero => exact ⟨[], rfl, by simp⟩
  | succ n ih =>
    obtain ⟨l, hl, hp⟩ := ih fun i hi => h i (by omega)
    obtain ⟨x, hx⟩ := h n (by omega)
    refine ⟨l ++ [x], by simp [hl], fun i y hy => ?_⟩
    rcases Nat.lt_or_ge i n with hi | hi
    · rw [List.getElem?_append_left (by omega)] at hy; exact hp i y hy
    · rw [List.getElem?_append_right (by omega)] at hy
      have : i - l.length = 0 := by
        rcases Nat.eq_zero_or_pos (i - l.length) with h0 | h0
        · exact h0
        · rw [List.getElem?_eq_none (by simp; omega)] at hy; simp at hy
      rw [this] at hy
      have hi' : i = n := by omega
      subst hi'
      simp at hy; subst hy; exact hx
theorem elsAt_of_get {S : Sg} {b sz : Nat} {α : Type} {enc : α → List AV} (hlen : ∀ x, (enc x).length = sz) : ∀ (l : List α) (o : Nat), (∀ i x, l[i]? = some x → cellsAt S w b (o + i * sz) (enc x)) → elsAt S w b sz o (l.map enc)
  | [], _, _ => by simp [elsAt]
  | x :: r, o, h => by
    simp only [List.map_cons, elsAt]
    refine ⟨hlen x, by simpa using h 0 x rfl, elsAt_of_get hlen r (o + sz) fun i y hy => ?_⟩
    have := h (i + 1) y (by simpa using hy)
    rwa [show o + (i + 1) * sz = o + sz + i * sz by rw [Nat.add_mul]; omega] at this
theorem cells_get {a : Addr} {n : Nat} {cs : List Value} (h : w.cells? 0 a n = some cs) : cs.length = n ∧ ∀ j, j < n → w.cell? (a.add j) = cs[j]? := by
  unfold World.cells? at h
  rw [if_pos (Nat.zero_le _)] at h
  have hl := mapM_some_length h
  exact ⟨by simpa using hl, fun j hj => mapM_some_get h j j (by simp [hj])⟩
theorem rd_slice {α : Type} {enc : α → List AV} {b : Nat → α → Prop} {et : TypeId} {sz : Nat} (ht : P.underlying t = some (.slice et)) (hc : P.cellsOf et = sz) (hpos : 0 < sz) (hlen : ∀ x, (enc x).length = sz) (hr : Rd e (BK H) P w et enc b) :
    Rd e (BK H) P w t (fun l : List α => [.sl (l.map enc)]) (bL b) := by
  intro fuel cs y h
  rcases DataW.trod_slice ht h with ⟨rfl, rfl⟩ | ⟨a, len, cap, elems, rest, n, rfl, rfl, rfl, _, hlc, hcap, hel, hget, hsp, _⟩
  · refine ⟨[], ⟨?_, by simp [Value.oneCell']⟩, fun n _ => ⟨by simp, by simp⟩⟩
    simp only [repL, rep, List.map_nil]
    exact ⟨_, _, rfl, ⟨none, 0, 0, rfl, rfl, Nat.le_refl _, Nat.zero_le _, by simp⟩, rfl⟩
  · have hp : ∀ i, i < len → ∃ x : α, ∃ z cs', elems[i]? = some z ∧ w.cells? 0 (a.add (i * sz)) sz = some cs' ∧ (repL (Sw w) w (enc x) cs' ∧ ∀ u ∈ cs', u.oneCell' = true) ∧ ∀ n, BK H z.1 ≤ n → b n x := fun i hi => by
      have hg := hget i hi
      rw [List.getElem?_eq_getElem (by omega), hc, Option.bind_eq_some_iff] at hg
      obtain ⟨cs', h1, h2⟩ := hg
      obtain ⟨x, hx, hb⟩ := hr _ _ _ h2
      exact ⟨x, _, cs', List.getElem?_eq_getElem (by omega), h1, hx, hb⟩
    obtain ⟨l, hl, hpl⟩ := choose_list len _ hp
    refine ⟨l, ⟨?_, by simp [Value.oneCell']⟩, fun m hm => ⟨?_, fun x hx => ?_⟩⟩
    · simp only [repL]
      refine ⟨_, _, rfl, ?_, rfl⟩
      simp only [rep]
      refine ⟨some a, len, cap, rfl, by simp [hl], hlc, hcap, ?_⟩
      rcases Nat.eq_zero_or_pos len with h0 | h0
      · left; rw [List.eq_nil_of_length_eq_zero (hl.trans h0)]; rfl
      · right
        have h00 := hp 0 h0
        obtain ⟨_, _, cs0, _, hc0, _⟩ := h00
        have q := (cells_get hc0).2 0 hpos
        have hlen0 := (cells_get hc0).1
        rw [List.getElem?_eq_getElem (by omega)] at q
        simp only [Nat.zero_mul, Addr.add, if_true] at q
        have hspot : a.spot = none ∧ a.block < w.heap.size := by
          unfold World.cell? at q
          split at q
          · rename_i c _ _ hb
            split at q
            · simp at q
            · rename_i hs
              refine ⟨by simpa using hs, ?_⟩
              rcases Nat.lt_or_ge a.block w.heap.size with h | h
              · exact h
              · rw [Array.getElem?_eq_none h] at hb; simp at hb
          · simp at q
        obtain ⟨ab, ao, asp⟩ := a
        obtain ⟨hs, hlt⟩ := hspot
        simp only at hs hlt
        subst hs
        refine ⟨ab, ao, sz, rfl, hlt, hpos, elsAt_of_get hlen l ao fun i x hx => ?_⟩
        obtain ⟨z, cs', _, hcs, ⟨h1, h2⟩, _⟩ := hpl i x hx
        refine cellsAt_of_repL _ cs' _ h1 h2 fun j u hj => ?_
        obtain ⟨e1, e2⟩ := cells_get hcs
        have hj' : j < sz := by
          rcases Nat.lt_or_ge j sz with h | h
          · exact h
          · rw [List.getElem?_eq_none (by omega)] at hj; simp at hj
        have := e2 j hj'
        rw [hj, Addr.add_lit, Addr.add_lit] at this
        exact this
    · rw [hl, ← hel]
      have h1 := bulk_length (elems.map (·.1))
      simp only [BK, Go.Proofs.YtjohkkigiacbjaaGreatDoor.Rows.uptoBulk, List.length_map] at hm h1
      omega
    · obtain ⟨i, hi⟩ := List.mem_iff_getElem?.1 hx
      obtain ⟨z, cs', hz, _, _, hb⟩ := hpl i x hi
      refine hb m ?_
      have h1 := bulk_part (List.mem_map_of_mem (f := (·.1)) (List.mem_of_getElem? hz))
      simp only [BK, Go.Proofs.YtjohkkigiacbjaaGreatDoor.Rows.uptoBulk] at hm h1 ⊢
      omega
theorem fld {fuel o m : Nat} {cs : List Value} {z : DataW H × List MemPlace} (hc : P.cellsOf t = m) (h : DataW.trod e P w 0 (fun _ => true) true fuel t ((cs.drop o).take (P.cellsOf t)) = some z) : DataW.trod e P w 0 (fun _ => true) true fuel t ((cs.drop o).take m) = some z := hc ▸ h
theorem repL_step {S : Sg} {a b : List AV} {cs : List Value} {o m : Nat} (h : repL S w a ((cs.drop o).take m)) (h' : repL S w b (cs.drop (o + m))) : repL S w (a ++ b) (cs.drop o) := by
  have := repL_append a b _ _ h h'
  rwa [← List.drop_drop, List.take_append_drop] at this
theorem repL_end {S : Sg} {cs : List Value} {o : Nat} (h : cs.length = o) : repL S w [] (cs.drop o) := by
  rw [List.drop_eq_nil_of_le (by omega)]; simp [repL]
theorem one_step {cs : List Value} {o m : Nat} (h : ∀ u ∈ (cs.drop o).take m, u.oneCell' = true) (h' : ∀ u ∈ cs.drop (o + m), u.oneCell' = true) : ∀ u ∈ cs.drop o, u.oneCell' = true := by
  intro u hu
  rw [← List.take_append_drop m (cs.drop o), List.drop_drop] at hu
  rcases List.mem_append.1 hu with hu | hu
  · exact h u hu
  · exact h' u hu
theorem one_end {cs : List Value} {o : Nat} (h : cs.length = o) : ∀ u ∈ cs.drop o, u.oneCell' = true := by
  rw [List.drop_eq_nil_of_le (by omega)]; simp
theorem bulk_field {xs : List (DataW H × List MemPlace)} {i : Nat} {z : DataW H × List MemPlace} (hz : xs[i]? = some z) {n : Nat} (h : BK H (.agg (xs.map (·.1))) ≤ n) : BK H z.1 ≤ n := by
  have h1 := bulk_part (List.mem_map_of_mem (f := (·.1)) (List.mem_of_getElem? hz))
  simp only [BK, Go.Proofs.YtjohkkigiacbjaaGreatDoor.Rows.uptoBulk] at h h1 ⊢
  omega
theorem get_some {α : Type} {xs : List α} {n i : Nat} (h : xs.length = n) (hi : i < n) : ∃ z, xs[i]? = some z := ⟨xs[i], List.getElem?_eq_getElem (by omega)⟩
def RdL (e : TypeId × Value → H) (P : Program) (w : World) (T : TypeId) (fs : Array Field) (i o : Nat) {α : Type} (enc : α → List AV) (b : Nat → α → Prop) : Prop :=
  ∀ (n : Nat) (cs : List Value) (xs : List (DataW H × List MemPlace)), cs.length = P.cellsOf T → xs.length = fs.size →
    (∀ (j : Nat) (f : Field), fs[j]? = some f → DataW.trod e P w 0 (fun _ => true) true n f.type ((cs.drop f.offset).take (P.cellsOf f.type)) = xs[j]?) →
    ∃ x : α, (repL (Sw w) w (enc x) (cs.drop o) ∧ ∀ u ∈ cs.drop o, u.oneCell' = true) ∧ ∀ m, BK H (.agg (xs.map (·.1))) ≤ m → b m x
theorem rdF {fs : Array Field} {i o : Nat} {t : TypeId} (m : Nat) {α : Type} {enc : α → List AV} {b : Nat → α → Prop} (R : Rd e (BK H) P w t enc b) (hG : (fs[i]?).map (fun f : Field => (f.type, f.offset)) = some (t, o)) (hm : P.cellsOf t = m)
    {n : Nat} {cs : List Value} {xs : List (DataW H × List MemPlace)} (h2 : xs.length = fs.size) (hf : ∀ (j : Nat) (f : Field), fs[j]? = some f → DataW.trod e P w 0 (fun _ => true) true n f.type ((cs.drop f.offset).take (P.cellsOf f.type)) = xs[j]?) :
    ∃ x : α, (repL (Sw w) w (enc x) ((cs.drop o).take m) ∧ ∀ u ∈ (cs.drop o).take m, u.oneCell' = true) ∧ ∀ m, BK H (.agg (xs.map (·.1))) ≤ m → b m x := by
  obtain ⟨f, hf1, hf2⟩ := Option.map_eq_some_iff.1 hG
  obtain ⟨rfl, rfl⟩ := Prod.mk.inj hf2
  obtain ⟨z, hz⟩ := get_some h2 (Array.getElem?_eq_some_iff.1 hf1).1
  obtain ⟨x, h, hb⟩ := R n ((cs.drop f.offset).take m) z (fld hm ((hf i f hf1).trans hz))
  exact ⟨x, h, fun k hk => hb k (bulk_field hz hk)⟩
theorem rdC {T : TypeId} {fs : Array Field} {i o : Nat} {t : TypeId} (m : Nat) {α β : Type} {enc : α → List AV} {b : Nat → α → Prop} {enc' : β → List AV} {b' : Nat → β → Prop} (R : Rd e (BK H) P w t enc b) (r : RdL e P w T fs (i + 1) (o + m) enc' b')
    (hG : (fs[i]?).map (fun f : Field => (f.type, f.offset)) = some (t, o) := by rfl) (hm : P.cellsOf t = m := by kernel_rfl) : RdL e P w T fs i o (fun p : α × β => enc p.1 ++ enc' p.2) (fun n p => b n p.1 ∧ b' n p.2) := fun n cs xs h1 h2 hf => by
  obtain ⟨x, ⟨r1, o1⟩, b1⟩ := rdF m R hG hm h2 hf
  obtain ⟨y, ⟨r2, o2⟩, b2⟩ := r n cs xs h1 h2 hf
  exact ⟨(x, y), ⟨repL_step r1 r2, one_step o1 o2⟩, fun k hk => ⟨b1 k hk, b2 k hk⟩⟩
theorem rdE {T : TypeId} {fs : Array Field} {i o : Nat} {t : TypeId} (m : Nat) {α : Type} {enc : α → List AV} {b : Nat → α → Prop} (R : Rd e (BK H) P w t enc b)
    (hG : (fs[i]?).map (fun f : Field => (f.type, f.offset)) = some (t, o) := by rfl) (hm : P.cellsOf t = m := by kernel_rfl) (he : P.cellsOf T = o + m := by kernel_rfl) : RdL e P w T fs i o enc b := fun n cs xs h1 h2 hf => by
  obtain ⟨x, ⟨r1, o1⟩, b1⟩ := rdF m R hG hm h2 hf
  refine ⟨x, ⟨?_, one_step o1 (one_end (h1.trans he))⟩, b1⟩
  have := repL_step r1 (repL_end (h1.trans he))
  rwa [List.append_nil] at this
theorem rdS {T : TypeId} {fs : Array Field} {α X : Type} {enc : α → List AV} {b : Nat → α → Prop} {encX : X → List AV} {bX : Nat → X → Prop} (ht : P.underlying T = some (.struct fs)) (r : RdL e P w T fs 0 0 enc b) (mk : α → X)
    (he : ∀ p, encX (mk p) = enc p) (hb : ∀ n p, b n p → bX n (mk p)) : Rd e (BK H) P w T encX bX := by
  intro fuel cs y h
  obtain ⟨xs, n, rfl, rfl, hl, hxl, hf⟩ := DataW.trod_struct ht h
  obtain ⟨x, ⟨r1, o1⟩, b1⟩ := r n cs xs hl hxl hf
  exact ⟨mk x, ⟨by rw [he]; rwa [List.drop_zero] at r1, by rwa [List.drop_zero] at o1⟩, fun m hm => hb m x (b1 m hm)⟩
end
section
open Go.Proofs Go.Proofs.YtjohkkigiacbjaaGreatDoor
variable {H : Type} {e : TypeId × Value → H} {w : World}
theorem rd_LStr : Rd e (BK H) Tryz.prog w 22 (fun l : List ByteArray => [.sl (l.map encStr)]) (bL bStr) := rd_slice (sz := 1) Tryz.underlying22 (by kernel_rfl) (by omega) (fun _ => rfl) (rd_str Tryz.underlying9)
def bPoint (n : Nat) (x : Point) : Prop := bInt n x.t ∧ bInt n x.a
theorem rd_Point : Rd e (BK H) Tryz.prog w 134 encPoint bPoint := rdS Tryz.underlying134 (rdC 1 (rd_int Tryz.underlying3) (rdE 1 (rd_int Tryz.underlying3))) (fun (a,b) => ⟨a,b⟩) (fun _ => rfl) (fun _ (_,_) h => h)
theorem rd_LPoint : Rd e (BK H) Tryz.prog w 93 (fun l : List Point => [.sl (l.map encPoint)]) (bL bPoint) := rd_slice (sz := 2) Tryz.underlying93 (by kernel_rfl) (by omega) (fun _ => rfl) (rd_Point)
def bArc (n : Nat) (x : Arc) : Prop := bInt n x.src ∧ bInt n x.dst ∧ bInt n x.profile ∧ bInt n x.miles ∧ (bL bPoint) n x.travel ∧ (bL bPoint) n x.slow
theorem rd_Arc : Rd e (BK H) Tryz.prog w 95 encArc bArc := rdS Tryz.underlying95 (rdC 1 (rd_int Tryz.underlying3) (rdC 1 (rd_int Tryz.underlying3) (rdC 1 (rd_int Tryz.underlying3) (rdC 1 (rd_int Tryz.underlying3) (rdC 1 rd_LPoint (rdE 1 rd_LPoint)))))) (fun (a,b,c,d,e,f) => ⟨a,b,c,d,e,f⟩) (fun _ => rfl) (fun _ (_,_,_,_,_,_) h => h)
theorem rd_LArc : Rd e (BK H) Tryz.prog w 23 (fun l : List Arc => [.sl (l.map encArc)]) (bL bArc) := rd_slice (sz := 6) Tryz.underlying23 (by kernel_rfl) (by omega) (fun _ => rfl) (rd_Arc)
def bNetwork (n : Nat) (x : Network) : Prop := (bL bStr) n x.places ∧ (bL bArc) n x.arcs
theorem rd_Network : Rd e (BK H) Tryz.prog w 25 encNetwork bNetwork := rdS Tryz.underlying25 (rdC 1 rd_LStr (rdE 1 rd_LArc)) (fun (a,b) => ⟨a,b⟩) (fun _ => rfl) (fun _ (_,_) h => h)
theorem rd_LInt : Rd e (BK H) Tryz.prog w 51 (fun l : List Int => [.sl (l.map encInt)]) (bL bInt) := rd_slice (sz := 1) Tryz.underlying51 (by kernel_rfl) (by omega) (fun _ => rfl) (rd_int Tryz.underlying3)
def bVType (n : Nat) (x : VType) : Prop := bStr n x.name ∧ bInt n x.count ∧ bInt n x.src ∧ bInt n x.dst ∧ (bL bInt) n x.cap ∧ bInt n x.skills ∧ bInt n x.profile ∧ bInt n x.start ∧ bInt n x.close ∧ bInt n x.drive ∧ bInt n x.rest ∧ bInt n x.fixed ∧ bInt n x.perMile ∧ bInt n x.perTick
theorem rd_VType : Rd e (BK H) Tryz.prog w 98 encVType bVType := rdS Tryz.underlying98 (rdC 1 (rd_str Tryz.underlying9) (rdC 1 (rd_int Tryz.underlying3) (rdC 1 (rd_int Tryz.underlying3) (rdC 1 (rd_int Tryz.underlying3) (rdC 1 rd_LInt (rdC 1 (rd_int Tryz.underlying3) (rdC 1 (rd_int Tryz.underlying3) (rdC 1 (rd_int Tryz.underlying3) (rdC 1 (rd_int Tryz.underlying3) (rdC 1 (rd_int Tryz.underlying3) (rdC 1 (rd_int Tryz.underlying3) (rdC 1 (rd_int Tryz.underlying3) (rdC 1 (rd_int Tryz.underlying3) (rdE 1 (rd_int Tryz.underlying3))))))))))))))) (fun (a,b,c,d,e,f,g,h,i,j,k,l,m,n) => ⟨a,b,c,d,e,f,g,h,i,j,k,l,m,n⟩) (fun _ => rfl) (fun _ (_,_,_,_,_,_,_,_,_,_,_,_,_,_) h => h)
theorem rd_LVType : Rd e (BK H) Tryz.prog w 26 (fun l : List VType => [.sl (l.map encVType)]) (bL bVType) := rd_slice (sz := 14) Tryz.underlying26 (by kernel_rfl) (by omega) (fun _ => rfl) (rd_VType)
def bStop (n : Nat) (x : Stop) : Prop := bInt n x.place ∧ bInt n x.start ∧ bInt n x.close ∧ bInt n x.service
theorem rd_Stop : Rd e (BK H) Tryz.prog w 53 encStop bStop := rdS Tryz.underlying53 (rdC 1 (rd_int Tryz.underlying3) (rdC 1 (rd_int Tryz.underlying3) (rdC 1 (rd_int Tryz.underlying3) (rdE 1 (rd_int Tryz.underlying3))))) (fun (a,b,c,d) => ⟨a,b,c,d⟩) (fun _ => rfl) (fun _ (_,_,_,_) h => h)
def bOrder (n : Nat) (x : Order) : Prop := bStr n x.name ∧ (bL bInt) n x.load ∧ bStop n x.pick ∧ bStop n x.drop ∧ bInt n x.skills ∧ bInt n x.penalty ∧ bInt n x.split ∧ bInt n x.last ∧ bInt n x.now ∧ bBool n x.off
theorem rd_Order : Rd e (BK H) Tryz.prog w 55 encOrder bOrder := rdS Tryz.underlying55 (rdC 1 (rd_str Tryz.underlying9) (rdC 1 rd_LInt (rdC 4 rd_Stop (rdC 4 rd_Stop (rdC 1 (rd_int Tryz.underlying3) (rdC 1 (rd_int Tryz.underlying3) (rdC 1 (rd_int Tryz.underlying3) (rdC 1 (rd_int Tryz.underlying3) (rdC 1 (rd_int Tryz.underlying3) (rdE 1 (rd_bool Tryz.underlying4))))))))))) (fun (a,b,c,d,e,f,g,h,i,j) => ⟨a,b,c,d,e,f,g,h,i,j⟩) (fun _ => rfl) (fun _ (_,_,_,_,_,_,_,_,_,_) h => h)
theorem rd_LOrder : Rd e (BK H) Tryz.prog w 27 (fun l : List Order => [.sl (l.map encOrder)]) (bL bOrder) := rd_slice (sz := 16) Tryz.underlying27 (by kernel_rfl) (by omega) (fun _ => rfl) (rd_Order)
def bPair (n : Nat) (x : Pair) : Prop := bInt n x.a ∧ bInt n x.b
theorem rd_Pair : Rd e (BK H) Tryz.prog w 101 encPair bPair := by
  intro fuel cs y h
  obtain ⟨xs, n, rfl, rfl, hl, hxl, hf⟩ := DataW.trod_array Tryz.underlying101 h
  have hl : cs.length = 2 := hl.trans (by kernel_rfl)
  obtain ⟨z0, hz0⟩ := get_some hxl (show 0 < 2 by omega)
  obtain ⟨x0, ⟨r0, o0⟩, b0⟩ := (rd_int Tryz.underlying3 : Rd e (BK H) Tryz.prog w 3 _ _) n ((cs.drop 0).take 1) z0 (fld (t := 3) (o := 0) (m := 1) (by kernel_rfl) ((hf 0 (by omega)).trans hz0))
  obtain ⟨z1, hz1⟩ := get_some hxl (show 1 < 2 by omega)
  obtain ⟨x1, ⟨r1, o1⟩, b1⟩ := (rd_int Tryz.underlying3 : Rd e (BK H) Tryz.prog w 3 _ _) n ((cs.drop 1).take 1) z1 (fld (t := 3) (o := 1) (m := 1) (by kernel_rfl) ((hf 1 (by omega)).trans hz1))
  refine ⟨⟨x0, x1⟩, ⟨?_, ?_⟩, fun m hm => ⟨b0 m (bulk_field hz0 hm), b1 m (bulk_field hz1 hm)⟩⟩
  · have := repL_step (o := 0) (m := 1) r0 (repL_step (o := 1) (m := 1) r1 (repL_end (by omega)))
    rw [List.drop_zero] at this; exact this
  · have := one_step (o := 0) (m := 1) o0 (one_step (o := 1) (m := 1) o1 (one_end (by omega)))
    rw [List.drop_zero] at this; exact this
theorem rd_LPair : Rd e (BK H) Tryz.prog w 28 (fun l : List Pair => [.sl (l.map encPair)]) (bL bPair) := rd_slice (sz := 2) Tryz.underlying28 (by kernel_rfl) (by omega) (fun _ => rfl) (rd_Pair)
def bInstance (n : Nat) (x : Instance) : Prop := bNetwork n x.net ∧ (bL bVType) n x.types ∧ (bL bOrder) n x.orders ∧ (bL bPair) n x.apart ∧ (bL bPair) n x.before
theorem rd_Instance : Rd e (BK H) Tryz.prog w 30 encInstance bInstance := rdS Tryz.underlying30 (rdC 2 rd_Network (rdC 1 rd_LVType (rdC 1 rd_LOrder (rdC 1 rd_LPair (rdE 1 rd_LPair))))) (fun (a,b,c,d,e) => ⟨a,b,c,d,e⟩) (fun _ => rfl) (fun _ (_,_,_,_,_) h => h)
def bEvent (n : Nat) (x : Event) : Prop := bInt n x.at_ ∧ bInt n x.kind ∧ bInt n x.a ∧ bInt n x.b ∧ bInt n x.n ∧ bOrder n x.order
theorem rd_Event : Rd e (BK H) Tryz.prog w 57 encEvent bEvent := rdS Tryz.underlying57 (rdC 1 (rd_int Tryz.underlying3) (rdC 1 (rd_int Tryz.underlying3) (rdC 1 (rd_int Tryz.underlying3) (rdC 1 (rd_int Tryz.underlying3) (rdC 1 (rd_int Tryz.underlying3) (rdE 16 rd_Order)))))) (fun (a,b,c,d,e,f) => ⟨a,b,c,d,e,f⟩) (fun _ => rfl) (fun _ (_,_,_,_,_,_) h => h)
def bCommand (n : Nat) (x : Command) : Prop := bInt n x.kind ∧ bInt n x.n ∧ bEvent n x.event
theorem rd_Command : Rd e (BK H) Tryz.prog w 59 encCommand bCommand := rdS Tryz.underlying59 (rdC 1 (rd_int Tryz.underlying3) (rdC 1 (rd_int Tryz.underlying3) (rdE 21 rd_Event))) (fun (a,b,c) => ⟨a,b,c⟩) (fun _ => rfl) (fun _ (_,_,_) h => h)
theorem rd_LCommand : Rd e (BK H) Tryz.prog w 31 (fun l : List Command => [.sl (l.map encCommand)]) (bL bCommand) := rd_slice (sz := 23) Tryz.underlying31 (by kernel_rfl) (by omega) (fun _ => rfl) (rd_Command)
def bScript (n : Nat) (x : Script) : Prop := bInstance n x.inst ∧ (bL bCommand) n x.commands
theorem rd_Script : Rd e (BK H) Tryz.prog w 33 encScript bScript := rdS Tryz.underlying33 (rdC 6 rd_Instance (rdE 1 rd_LCommand)) (fun (a,b) => ⟨a,b⟩) (fun _ => rfl) (fun _ (_,_) h => h)
def bItem (n : Nat) (x : Item) : Prop := bInt n x.kind ∧ bInt n x.a
theorem rd_Item : Rd e (BK H) Tryz.prog w 62 encItem bItem := rdS Tryz.underlying62 (rdC 1 (rd_int Tryz.underlying3) (rdE 1 (rd_int Tryz.underlying3))) (fun (a,b) => ⟨a,b⟩) (fun _ => rfl) (fun _ (_,_) h => h)
theorem rd_LItem : Rd e (BK H) Tryz.prog w 35 (fun l : List Item => [.sl (l.map encItem)]) (bL bItem) := rd_slice (sz := 2) Tryz.underlying35 (by kernel_rfl) (by omega) (fun _ => rfl) (rd_Item)
def bReply (n : Nat) (x : Reply) : Prop := bInt n x.err ∧ bInt n x.price ∧ (bL bItem) n x.items
theorem rd_Reply : Rd e (BK H) Tryz.prog w 37 encReply bReply := rdS Tryz.underlying37 (rdC 1 (rd_int Tryz.underlying34) (rdC 1 (rd_int Tryz.underlying3) (rdE 1 rd_LItem))) (fun (a,b,c) => ⟨a,b,c⟩) (fun _ => rfl) (fun _ (_,_,_) h => h)
end
end Go.Aw.D
end

section
set_option linter.unusedSimpArgs false
set_option linter.unusedVariables false
namespace Go.Proofs.YtjohkkigiacbjaaGreatDoor
open Go.Aw Go.Aw.D Go.Proofs Go.RowKit Go.ChangeShapes Go.WideShapes Go.ChangeAt
section
variable {H : Type} {e : TypeId × Value → H} {P : Program} {W W' : World}
theorem calls_of_PC {f : FuncId} {args : List AV} {vals : List Value} (h : PC P f args (.v (.bool true))) (ht : TabsIn W) (ha : repL (Sw W) W args vals) :
    Calls P f vals.toArray W fun en W' => en = .returned (.bool true) ∧ Below W.heap.size W W' :=
  (h (Sw W) W vals (Sw_st W ht) (fun _ h => h) ha).mono fun en W' ⟨v, r, H', S', he, hr, _, hv, hg, _⟩ => by
    subst hr
    simp only [rep] at hv
    subst hv
    exact ⟨he, hg.os, hg.tape, hg.output, hg.size, hg.same⟩
theorem trodAll_keep (hl : laidOutB P = true) (hb : Below W.heap.size W W') : ∀ {ts : List TypeId} {vs : List Value} {ds : List (DataW H)} {ps : List MemPlace}, (∀ t ∈ ts, P.readableRec t = true ∧ t < P.types.size) →
    DataW.TrodAll e P W 0 (fun _ => true) true ts vs ds ps → (∀ x ∈ ps, x.block < W.heap.size) → ∀ sp : Nat → Bool, (∀ x ∈ ps, sp x.block = true) → DataW.TrodAll e P W' 0 sp true ts vs ds ps
  | [], [], [], _, _, h, _, _, _ => h
  | t :: ts, v :: vs, d :: ds, ps, ht, ⟨p, q, h1, h2, he⟩, hlt, sp, hs => by
    subst he
    have h0 := ht t (by simp)
    exact ⟨p, q, WideElems.Trod_stays hl h0.1 h0.2 h1 (fun x hx => hb.same (hlt x (by simp [hx]))) (fun x hx => hs x (by simp [hx])),
      trodAll_keep hl hb (fun t ht' => ht t (by simp [ht'])) h2 (fun x hx => hlt x (by simp [hx])) sp (fun x hx => hs x (by simp [hx])), rfl⟩
theorem arg_struct {t : TypeId} {fs : Array Field} {α : Type} {enc : α → List AV} {b : Nat → α → Prop} {r : Reach} {b0 : Nat} {v : Value} {d : DataW H} {ps : List MemPlace} (ht : P.underlying t = some (.struct fs))
    (hr : Rd e (BK H) P W t enc b) (hval : Value.okWide P W r b0 t v) (hd : DataW.Trod e P W 0 (fun _ => true) true t v d ps) : ∃ x : α, rep (Sw W) W (.agg (enc x)) v ∧ ∀ n, BK H d ≤ n → b n x := by
  obtain ⟨cs, rfl, _⟩ := okWide_struct ht hval
  obtain ⟨fuel, h⟩ := hd
  obtain ⟨x, ⟨h1, h2⟩, h3⟩ := hr fuel _ _ h
  refine ⟨x, ?_, h3⟩
  simp only [rep]
  exact ⟨cs.toList, by simp, h1, h2⟩
theorem post_true {fn : Func} {s : ChangeSpec} {args : Array Value} {ds gs : List (DataW H)} {before : List MemPlace} (hl : laidOutB P = true) (hts : ∀ t ∈ fn.params.toList, P.readableRec t = true ∧ t < P.types.size)
    (hvars : s.vars = []) {tb : TypeId} (hbt : P.underlying tb = some .bool) (hrt : fn.resultTypes = #[tb]) (hW : DataW.Whole e P fn.params.toList s.vars false W args.toList ds gs before)
    (hres : (s.fn H (ds ++ gs)).results = [.lit (.bool true)]) (hargs : (s.fn H (ds ++ gs)).args = ds) (hvs : (s.fn H (ds ++ gs)).vars = []) (hb : Below W.heap.size W W') :
    s.post e P fn false true false false W args (.bool true) W' := by
  have hlt := hW.lt
  have hW' := hW
  obtain ⟨p, q, hA, hV, rfl, hfz, hnd⟩ := hW
  rw [hvars] at hV
  obtain ⟨rfl, rfl⟩ := trodVars_none hV
  have hk : W.keptBut W' (· ∈ p ++ []) := hb.frame _
  have hold : ∀ x ∈ p ++ [], (fun b => decide (b < W.heap.size)) x.block = true := fun x hx => by simpa using hlt x hx
  have r1 : ∀ (b : Nat) (sp : Nat → Bool) (hd : Bool), DataW.TrodAll e P W' b sp hd fn.resultTypes.toList ((Value.bool true).resultList fn.resultTypes.size) (s.fn H (ds ++ [])).results [] := fun b sp hd => by
    rw [hrt, hres]
    exact trodAll_cons_mk (shut_bool hbt _) trodAll_mk0
  have r2 : ∀ sp : Nat → Bool, (∀ x ∈ p ++ [], sp x.block = true) → DataW.TrodAll e P W' 0 sp true fn.params.toList args.toList (s.fn H (ds ++ [])).args p := fun sp hsp => by
    rw [hargs]
    exact trodAll_keep hl hb hts hA (fun x hx => hlt x (by simp [hx])) sp (fun x hx => hsp x (by simp [hx]))
  have r3 : ∀ sp : Nat → Bool, DataW.TrodVars e P W' sp s.vars (s.fn H (ds ++ [])).vars [] := fun sp => by
    rw [hvars, hvs]; simp [DataW.TrodVars]
  refine ⟨ds, [], p ++ [], [], p, [], hW', r1 _ _ _, r2 _ hold, r3 _, World.keptBut_mono (fun x hx => ⟨hx, .inr (by simpa using hx)⟩) hk, fun _ => ?_⟩
  refine ⟨?_, _, _, ([] ++ p) ++ [], ⟨[] ++ p, [], trodAll_append (r2 _ (fun _ _ => rfl)) (r1 _ _ _), r3 _, rfl, ?_, ?_⟩, ?_⟩
  · exact ok_one hrt rfl (okWide_bool_mk hbt _)
  · intro b off hp
    have hp' : MemPlace.cell b off ∈ p ++ [] := by simpa using hp
    rw [hb.frozen (hlt _ hp')]
    exact hfz b off hp'
  · intro ha; simp at ha
  · intro x hx _
    simpa using hx
end
end Go.Proofs.YtjohkkigiacbjaaGreatDoor
end
