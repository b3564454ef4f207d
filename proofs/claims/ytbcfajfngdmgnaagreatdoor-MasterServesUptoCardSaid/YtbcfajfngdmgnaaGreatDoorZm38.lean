/- Texts joined by a program: MaV, MaS, MaT, MaU, MaW, MaX, MaY. -/
import Derived.Test.YtbcfajfngdmgnaaGreatDoorZm37

section
set_option linter.unusedSimpArgs false
set_option linter.unusedVariables false
namespace Go.Proofs.YtbcfajfngdmgnaaGreatDoor.Nu
open Go.Aw Go.Aw.D Go.Proofs Ty Go.Nu
open Dec (chkR allowsR forbidsR decB hasN)
set_option maxRecDepth 100000
theorem ratS_int (n : Int) : ratS (n : Rat) = zed n := by unfold ratS; rw [if_pos (Rat.den_intCast n), Rat.num_intCast]
theorem small_int {n : Int} (h : n.natAbs < maxN) : SmallR (n : Rat) := ⟨by rw [Rat.num_intCast]; exact h, by rw [Rat.den_intCast]; exact lt_max (k := 1) (by decide) (by decide)⟩
theorem right_zed {n : Int} (h : n.natAbs < maxN) : rightR (zed n) = true := by rw [← ratS_int]; exact rightR_ratS (small_int h)
theorem val_zed (n : Int) : valR (zed n) = (n : Rat) := by rw [← ratS_int, valR_ratS]
theorem mul_zed {a b : Int} (ha : a.natAbs < maxN) (hb : b.natAbs < maxN) (h : (a * b).natAbs < maxN) : mulR (zed a) (zed b) = (zed (a * b), 0) := by
  unfold mulR
  rw [right_zed ha, right_zed hb, Bool.and_self, if_pos rfl, val_zed, val_zed]
  unfold prodR
  rw [Rat.num_intCast, Rat.num_intCast, Rat.den_intCast, Rat.den_intCast, bigI_iff.2 h, bigI_iff.2 (lt_max (k := 1) (by decide) (by decide)), if_neg (by decide), ← Rat.intCast_mul, ratS_int]
theorem add_zed {a b : Int} (ha : a.natAbs < maxN) (hb : b.natAbs < maxN) (h : (a + b).natAbs < maxN) : addR (zed a) (zed b) = (zed (a + b), 0) := by
  unfold addR
  rw [right_zed ha, right_zed hb, Bool.and_self, if_pos rfl, val_zed, val_zed, sumR_ok (by rw [Rat.num_intCast, Rat.den_intCast]; simpa using ha) (by rw [Rat.num_intCast, Rat.den_intCast]; simpa using hb) (by rw [Rat.num_intCast, Rat.den_intCast, Rat.num_intCast, Rat.den_intCast]; simpa using h) (by rw [Rat.den_intCast, Rat.den_intCast]; exact lt_max (k := 1) (by decide) (by decide)), ← Rat.intCast_add, ratS_int]
theorem cmp_zed {a b : Int} (ha : a.natAbs < maxN) (hb : b.natAbs < maxN) : cmpR (zed a) (zed b) = cmpI a b := by
  unfold cmpR
  rw [right_zed ha, right_zed hb, Bool.and_self, if_pos rfl, val_zed, val_zed, cmpQ_X]
  unfold cmpX
  rw [Rat.num_intCast, Rat.num_intCast, Rat.den_intCast, Rat.den_intCast]
  simp
def v01 (s : ByteArray) : Int := if is1 s = true then 1 else 0
theorem zed_01 {s : ByteArray} (h : badB s = false) : s = zed (v01 s) := by
  unfold badB at h
  unfold v01
  by_cases h1 : is1 s = true
  · rw [if_pos h1]
    refine bl_ext ?_
    rw [show bl s = [49] by simpa [is1] using h1]
    decide +kernel
  · rw [if_neg h1]
    have h0 : is0 s = true := by
      rw [Bool.eq_false_iff.2 h1] at h
      simpa using h
    refine bl_ext ?_
    rw [show bl s = [48] by simpa [is0] using h0]
    decide +kernel
theorem v01_in (s : ByteArray) : v01 s = 0 ∨ v01 s = 1 := by
  unfold v01; split
  · exact .inr rfl
  · exact .inl rfl
def dotI : List Int → List ByteArray → Int
  | n :: l, s :: v => n * v01 s + dotI l v
  | _, _ => 0
theorem max_big {n : Int} (h : n.natAbs ≤ 1000000000000000000000000000000000000000000) : n.natAbs < maxN := lt_max (k := 43) (Nat.lt_of_le_of_lt h (by decide)) (by decide)
theorem timesF01 : ∀ (ns : List Int) (v : List ByteArray) (t : Int), (∀ n ∈ ns, n.natAbs ≤ 1000000000000000000000) → (∀ s ∈ v, badB s = false) → t.natAbs + ns.length * 1000000000000000000000 ≤ 1000000000000000000000000000000000000000000 →
    timesF (ns.zip v) (zed t) = (zed (t + dotI ns v), 0) := by
  intro ns
  induction ns with
  | nil => intro v t _ _ _; rw [List.zip_nil_left]; show (zed t, 0) = (zed (t + 0), 0); rw [Int.add_zero]
  | cons n l ih =>
    intro v t hn hv ht
    cases v with
    | nil => show (zed t, 0) = (zed (t + 0), 0); rw [Int.add_zero]
    | cons s v =>
      have h1 := hn n (by simp)
      have hs := zed_01 (hv s (by simp))
      have h2 := v01_in s
      have h3 : (n * v01 s).natAbs ≤ 1000000000000000000000 := by rcases h2 with e | e <;> rw [e] <;> simp <;> omega
      rw [List.length_cons] at ht
      have hm : mulR (zed n) s = (zed (n * v01 s), 0) := by
        rw [hs, ← hs]
        have := mul_zed (a := n) (b := v01 s) (max_big (by omega)) (max_big (by omega)) (max_big (by omega))
        rw [← hs] at this; exact this
      have ha := add_zed (a := t) (b := n * v01 s) (max_big (by omega)) (max_big (by omega)) (max_big (by omega))
      rw [List.zip_cons_cons]
      unfold timesF
      simp only [hm, ha]
      rw [if_neg (by decide), if_neg (by decide), ih v _ (fun m hm => hn m (by simp [hm])) (fun m hm => hv m (by simp [hm])) (by omega)]
      show (zed (t + n * v01 s + dotI l v), (0 : Int)) = (zed (t + (n * v01 s + dotI l v)), 0)
      rw [Int.add_assoc]
theorem times01 {ns : List Int} {v : List ByteArray} (hn : ∀ n ∈ ns, n.natAbs ≤ 1000000000000000000000) (hv : ∀ s ∈ v, badB s = false) (hl : ns.length = v.length) (h8 : ns.length ≤ 1048576) : timesR ns v = (zed (dotI ns v), 0) := by
  unfold timesR
  rw [if_neg (by simpa using hl), if_neg (by
    intro hc
    obtain ⟨s, h1, h2⟩ := List.any_eq_true.1 hc
    have := zed_01 (hv s h1)
    have h3 := v01_in s
    rw [this, right_zed (max_big (by omega))] at h2
    cases h2), ← zed_nat 0]
  have := timesF01 ns v 0 hn hv (by simp; omega)
  rw [Int.zero_add] at this
  exact this
end Go.Proofs.YtbcfajfngdmgnaaGreatDoor.Nu
end

section
set_option linter.unusedSimpArgs false
set_option linter.unusedVariables false
namespace Go.Proofs.YtbcfajfngdmgnaaGreatDoor.Nu
open Go.Aw Go.Aw.D Go.Proofs Ty Go.Nu
open Dec (chkR allowsR forbidsR decB hasN)
set_option maxRecDepth 100000
structure AskB (a : Go.Aw.D.Ask) : Prop where
  x : InB a.x
  l : a.l.length ≤ 1048576
  set : ∀ c ∈ a.l, i64I c.set
  cset : ∀ q ∈ a.cuts, q.set ≤ 9223372036854775807
  right : RightB a.x a.cuts a.d
  dec : ∀ d ∈ a.d, decB d
def askD (a : Go.Aw.D.Ask) : Nat := (dimsR a.x.types).toNat
end Go.Proofs.YtbcfajfngdmgnaaGreatDoor.Nu
end

section
set_option linter.unusedSimpArgs false
set_option linter.unusedVariables false
namespace Go.Proofs.YtbcfajfngdmgnaaGreatDoor.Nu
open Go.Aw Go.Aw.D Go.Proofs Ty Go.Nu
open Dec (chkR allowsR forbidsR decB hasN)
set_option maxRecDepth 100000
end Go.Proofs.YtbcfajfngdmgnaaGreatDoor.Nu
end

section
set_option linter.unusedSimpArgs false
set_option linter.unusedVariables false
namespace Go.Proofs.YtbcfajfngdmgnaaGreatDoor.Nu
open Go.Aw Go.Aw.D Go.Proofs Ty Go.Nu
open Dec (chkR allowsR forbidsR decB hasN)
set_option maxRecDepth 100000
end Go.Proofs.YtbcfajfngdmgnaaGreatDoor.Nu
end

section
set_option linter.unusedSimpArgs false
set_option linter.unusedVariables false
namespace Go.Proofs.YtbcfajfngdmgnaaGreatDoor.Nu
open Go.Aw Go.Aw.D Go.Proofs Ty Go.Nu
open Dec (chkR allowsR forbidsR decB hasN)
set_option maxRecDepth 100000
def colRow (r : PRow) (l : List (Int × List Int)) (i : Nat) : PRow := ⟨r.coef ++ l.map fun c => c.2.getD i 0, r.kind, r.right⟩
def addAll (p : List Int × List PRow) (l : List (Int × List Int)) : List Int × List PRow := l.foldl (fun s c => addCols s c.1 c.2) p
theorem addAll_cost : ∀ (l : List (Int × List Int)) (p : List Int × List PRow), (addAll p l).1 = p.1 ++ l.map (·.1)
  | [], p => by simp [addAll]
  | c :: l, p => by
    show (addAll (addCols p c.1 c.2) l).1 = _
    rw [addAll_cost l]
    unfold addCols
    simp
theorem addAll_row : ∀ (l : List (Int × List Int)) (p : List Int × List PRow), (∀ c ∈ l, c.2.length = p.2.length) → ∀ i r, p.2[i]? = some r → (addAll p l).2[i]? = some (colRow r l i)
  | [], p, _, i, r, h => by show p.2[i]? = _; rw [h]; unfold colRow; simp
  | c :: l, p, hl, i, r, h => by
    show (addAll (addCols p c.1 c.2) l).2[i]? = _
    have hi := (List.getElem?_eq_some_iff.1 h).1
    have hg : (addCols p c.1 c.2).2[i]? = some (addR1 r (c.2.getD i 0)) := by
      unfold addCols
      rw [addTo_get, if_pos (by rw [hl c (by simp)]; exact hi), h]; rfl
    rw [addAll_row l _ (fun d hd => by rw [(addCols_len p c.1 c.2).1]; exact hl d (by simp [hd])) i _ hg]
    unfold colRow addR1
    simp
theorem addAll_len : ∀ (l : List (Int × List Int)) (p : List Int × List PRow), (addAll p l).2.length = p.2.length
  | [], p => rfl
  | c :: l, p => by
    show (addAll (addCols p c.1 c.2) l).2.length = _
    rw [addAll_len l, (addCols_len p c.1 c.2).1]
def colA (x : Instance) (cuts : List Cut) (ds : List Decision) (c : Column) : Int × List Int := (c.price, coefsM x c cuts ds)
def colS (x : Instance) (n : Nat) (o : Int) : Int × List Int := (weightM x o, skipCol x o n)
theorem bldA_all (x : Instance) (cuts : List Cut) (ds : List Decision) (l : List Column) : bldA x cuts ds l = addAll ([], rowsM x cuts ds) (l.map (colA x cuts ds)) := by
  unfold bldA addAll; rw [List.foldl_map]; rfl
theorem bldB_all (x : Instance) (n : Nat) (s0 : List Int × List PRow) (l : List Int) : bldB x n s0 l = addAll s0 (l.map (colS x n)) := by
  unfold bldB addAll; rw [List.foldl_map]; rfl
def rowI (x : Instance) (cuts : List Cut) (ds : List Decision) (L : List Column) (K : List Int) (i : Nat) : List Int := L.map (fun c => (coefsM x c cuts ds).getD i 0) ++ K.map fun o => (skipCol x o (rowsN x cuts ds)).getD i 0
theorem build_rows {x : Instance} {d : Nat} {cols : List Column} {cuts : List Cut} {ds : List Decision} (h : (buildM x d cols cuts ds).2 = 0) :
    (buildM x d cols cuts ds).1.cost = (inM cols ds).map (·.price) ++ (skipsM x ds).map (weightM x) ∧
    ∀ (i : Nat) (r : PRow), (rowsM x cuts ds)[i]? = some r → (buildM x d cols cuts ds).1.rows[i]? = some (⟨rowI x cuts ds (inM cols ds) (skipsM x ds) i, r.kind, r.right⟩ : PRow) := by
  have hno : (ordI x).length ≤ rowsN x cuts ds := by unfold rowsN; omega
  unfold buildM at h ⊢
  split at h
  · next h1 => exact absurd h h1
  next h1 =>
  split at h
  · cases h
  next h2 =>
  rw [if_neg h1, if_neg h2]
  show (bldB x (rowsN x cuts ds) (bldA x cuts ds (inM cols ds)) (skipsM x ds)).1 = _ ∧ ∀ (i : Nat) (r : PRow), (rowsM x cuts ds)[i]? = some r → (bldB x (rowsN x cuts ds) (bldA x cuts ds (inM cols ds)) (skipsM x ds)).2[i]? = some (⟨rowI x cuts ds (inM cols ds) (skipsM x ds) i, r.kind, r.right⟩ : PRow)
  generalize inM cols ds = L
  generalize skipsM x ds = K
  rw [bldA_all, bldB_all]
  refine ⟨?_, fun i r hr => ?_⟩
  · rw [addAll_cost, addAll_cost, List.nil_append, List.map_map, List.map_map]; rfl
  · have hc : r.coef = [] := List.eq_nil_of_length_eq_zero ((rowsM_sz x cuts ds).2.2 r (List.mem_of_getElem? hr))
    have e1 := addAll_row (L.map (colA x cuts ds)) ([], rowsM x cuts ds) (fun c hc => by
      obtain ⟨a, _, rfl⟩ := List.mem_map.1 hc
      show (coefsM x a cuts ds).length = (rowsM x cuts ds).length
      rw [coefsM_len, rowsM_len]) i r hr
    rw [addAll_row (K.map (colS x (rowsN x cuts ds))) _ (fun c hc => by
      obtain ⟨a, _, rfl⟩ := List.mem_map.1 hc
      show (skipCol x a (rowsN x cuts ds)).length = _
      rw [skipCol_len x a hno, addAll_len]; exact (rowsM_len x cuts ds).symm) i _ e1]
    unfold colRow rowI
    rw [hc, List.nil_append, List.map_map, List.map_map]; rfl
theorem dotI_nil (l : List Int) : dotI l [] = 0 := by cases l <;> rfl
theorem dotI_app : ∀ (a b : List Int) (v : List ByteArray), a.length ≤ v.length → dotI (a ++ b) v = dotI a v + dotI b (v.drop a.length)
  | [], b, v, _ => by show dotI b v = 0 + dotI b (v.drop 0); rw [List.drop_zero]; omega
  | n :: a, b, [], h => by simp at h
  | n :: a, b, s :: v, h => by
    show n * v01 s + dotI (a ++ b) v = n * v01 s + dotI a v + dotI b (v.drop a.length)
    rw [dotI_app a b v (by simpa using h)]; omega
theorem dotI_succ {l : List Int} {v : List ByteArray} {k : Nat} {n : Int} {s : ByteArray} (h : l[k]? = some n) (hs : v[k]? = some s) : dotI (l.take (k + 1)) (v.take (k + 1)) = dotI (l.take k) (v.take k) + n * v01 s := by
  have h1 := (List.getElem?_eq_some_iff.1 h).1
  have h2 := (List.getElem?_eq_some_iff.1 hs).1
  rw [take_succ h, take_succ hs, dotI_app _ _ _ (by rw [List.length_append, List.length_take, List.length_take]; omega), List.length_take, show min k l.length = k by omega]
  have e1 : (v.take k ++ [s]).drop k = [s] := by
    have := List.drop_append_of_le_length (l₁ := v.take k) (l₂ := [s]) (i := k) (by rw [List.length_take]; omega)
    rw [this, List.drop_of_length_le (by rw [List.length_take]; omega)]; rfl
  have e2 : ∀ (a : List Int) (b c : List ByteArray), a.length ≤ b.length → dotI a (b ++ c) = dotI a b := by
    intro a
    induction a with
    | nil => intro b c _; rfl
    | cons n a ih =>
      intro b c hb
      cases b with
      | nil => simp at hb
      | cons s b => show n * v01 s + dotI a (b ++ c) = n * v01 s + dotI a b; rw [ih b c (by simpa using hb)]
  rw [e1, e2 _ _ _ (by rw [List.length_take, List.length_take]; omega)]
  show _ + (n * v01 s + 0) = _
  omega
theorem dotI_pick {α : Type} (f : α → Int) (l : List α) (v : List ByteArray) (off : Nat) : ∀ k, k ≤ l.length → off + l.length ≤ v.length → ((pickTo l v off k).map f).sum = dotI ((l.map f).take k) ((v.drop off).take k)
  | 0, _, _ => by simp [pickTo, dotI]
  | k + 1, hk, hv => by
    obtain ⟨a, ha⟩ := getIn (show k < l.length by omega)
    obtain ⟨s, hs⟩ := getIn (show off + k < v.length by omega)
    rw [pickTo_succ ha hs, List.map_append, List.sum_append, dotI_pick f l v off k (by omega) hv, dotI_succ (n := f a) (s := s) (by rw [List.getElem?_map, ha]; rfl) (by rw [List.getElem?_drop]; exact hs)]
    unfold v01
    by_cases h1 : is1 s = true
    · rw [if_pos h1, if_pos h1]; simp
    · rw [if_neg h1, if_neg h1]; simp
theorem dot_bnd : ∀ (l : List Int) (v : List ByteArray), (∀ n ∈ l, n = 0 ∨ n = 1) → 0 ≤ dotI l v ∧ dotI l v ≤ l.length
  | [], v, _ => ⟨Int.le_refl _, Int.le_refl _⟩
  | n :: l, [], _ => by rw [dotI_nil]; exact ⟨Int.le_refl _, by omega⟩
  | n :: l, s :: v, hm => by
    have := dot_bnd l v fun m h => hm m (by simp [h])
    have h2 := v01_in s
    show 0 ≤ n * v01 s + dotI l v ∧ n * v01 s + dotI l v ≤ ((l.length + 1 : Nat) : Int)
    rcases hm n (by simp) with e | e <;> rcases h2 with e2 | e2 <;> rw [e, e2] <;> omega
theorem fits_row {p : PLin} {v : List ByteArray} (h : fitsM p v = true) (hv : ∀ s ∈ v, badB s = false) {r : PRow} (hr : r ∈ p.rows) (hn : ∀ n ∈ r.coef, n = 0 ∨ n = 1) (hri : i64I r.right) (hl : r.coef.length = v.length) (h8 : r.coef.length ≤ 8192) :
    holdM r.kind (cmpI (dotI r.coef v) r.right) = true := by
  unfold fitsM at h
  split at h
  · cases h
  split at h
  · cases h
  have h1 := List.all_eq_true.1 h r hr
  unfold rowFits at h1
  rw [times01 (fun n hm => by rcases hn n hm with e | e <;> rw [e] <;> decide) hv hl (by omega)] at h1
  simp only [beq_self_eq_true, Bool.true_and] at h1
  have hd := dot_bnd r.coef v hn
  unfold i64I at hri
  rw [cmp_zed (max_big (by omega)) (max_big (by omega))] at h1
  exact h1
end Go.Proofs.YtbcfajfngdmgnaaGreatDoor.Nu
end

section
set_option linter.unusedSimpArgs false
set_option linter.unusedVariables false
namespace Go.Proofs.YtbcfajfngdmgnaaGreatDoor.Nu
open Go.Aw Go.Aw.D Go.Proofs Ty Go.Nu
open Dec (chkR allowsR forbidsR decB hasN)
set_option maxRecDepth 100000
def covI (L : List Column) (K : List Int) (o : Int) : List Int := L.map (fun c => bitI (hasR c.set o)) ++ K.map fun s => bitI (s == o)
theorem covered_c (a : Go.Aw.D.Ask) (v : List ByteArray) (K : List Int) (o : Nat) (ho : o ≤ 62) (hv : v.length ≤ 1048576) (hl : a.l.length ≤ 1048576) (hd : a.d.length ≤ 1048576) (hx : a.x.orders.length ≤ 62) (hdb : ∀ d ∈ a.d, decB d) (hck : chkR a.x a.d = 0)
    (hs : ∀ c ∈ a.l, 0 ≤ c.set ∧ c.set ≤ 9223372036854775807) (hlen : v.length = (inM a.l a.d).length + K.length) (hK : K.length ≤ 1048576) :
    PC Tryz.prog 50 [.agg (encAsk a), .sl (v.map Go.Aw.D.encStr), .sl (K.map encInt), int (o : Nat)] (int (dotI (covI (inM a.l a.d) K o) v)) := by
  refine PC.body (c := Tryz.f50.body.getD .skip) (fun _ => false) mixed Tryz.func50 rfl (by kernel_rfl) ?_
  unfold Tryz.f50
  simp only [Option.getD_some]
  simp only [go_sem]
  refine PC.use (inside30_c a.x a.l a.d hck hx hl hd hdb hs) ?_
  simp only [go_sem]
  have hLm : ∀ c ∈ inM a.l a.d, c ∈ a.l := fun c hc => (List.mem_filter.1 hc).1
  have hLl : (inM a.l a.d).length ≤ a.l.length := List.length_filter_le _ _
  generalize inM a.l a.d = L at *
  refine ⟨fun ρ H => ∃ (k : Nat), k ≤ v.length ∧ ρ 1 = .sl (v.map Go.Aw.D.encStr) ∧ ρ 2 = .sl (K.map encInt) ∧ ρ 3 = int (o : Nat) ∧ ρ 10 = .sl (L.map encColumn) ∧ ρ 11 = int k ∧ ρ 9 = int (dotI ((covI L K o).take k) (v.take k)), fun ρ _ => v.length - natOf (ρ 11), ⟨0, Nat.zero_le _, by simp only [go_sem], by simp only [go_sem], by simp only [go_sem], by simp only [go_sem], (by simp only [go_sem]; rfl), by simp only [go_sem]; rfl⟩, ?_⟩
  rintro ρ H ⟨k, hk, e1, e2, e3, e10, e11, e9⟩
  simp only [go_sem, e1, e2, e3, e10, e11, e9]
  refine acond_i (fun hlt => ?_) (fun hge => ?_)
  · have hlt := ltB (by simpa using hlt)
    obtain ⟨s, hs1⟩ := getIn hlt
    have b1 := inB hlt
    have hcl : (covI L K o).length = v.length := by unfold covI; rw [List.length_append, List.length_map, List.length_map]; omega
    obtain ⟨n, hn⟩ := getIn (l := covI L K o) (k := k) (by omega)
    have hsu := dotI_succ hn hs1
    have hbn := dot_bnd ((covI L K o).take k) (v.take k) fun m hm => by
      have := List.mem_of_mem_take hm
      unfold covI at this
      rcases List.mem_append.1 this with h | h
      · obtain ⟨_, _, rfl⟩ := List.mem_map.1 h; exact bitI_in _
      · obtain ⟨_, _, rfl⟩ := List.mem_map.1 h; exact bitI_in _
    rw [List.length_take] at hbn
    simp only [go_sem, e1, e2, e3, e10, e11, e9, getD_map hs1, b1]
    refine acond_i (fun hb => ?_) (fun hb => ?_)
    · have h1 : ¬ is1 s = true := by
        have : (!is1 s) = true := hb
        simpa using this
      simp only [go_sem, e1, e2, e3, e10, e11, e9, wrapS (show k ≤ 4611686018427387904 by omega)]
      refine ⟨⟨k + 1, hlt, rfl, ?_⟩, by simp only [natOf_int]; omega⟩
      rw [hsu, show v01 s = 0 from if_neg h1]
      simp
    have h1 : is1 s = true := by
      have : (!is1 s) = false := hb
      simpa using this
    rw [show v01 s = 1 from if_pos h1, Int.mul_one] at hsu
    by_cases hk : k < L.length
    · obtain ⟨c, hc⟩ := getIn hk
      have b2 := inB hk
      have hn2 : n = bitI (hasR c.set o) := by
        unfold covI at hn
        rw [List.getElem?_append_left (by rw [List.length_map]; exact hk), List.getElem?_map, hc] at hn
        exact (Option.some.inj hn).symm
      have hu : IntKind.u64.wrap ((o : Nat) : Int) = ((o : Nat) : Int) := by
        show ((o : Nat) : Int) % 18446744073709551616 = _
        omega
      have hd1 : decide ((k : Int) < (L.length : Int)) = true := by simp; omega
      have hd2 : decide ((k : Int) ≥ (L.length : Int)) = false := by simp; omega
      simp only [go_sem, e1, e2, e3, e10, e11, e9, List.length_map, getD_map hc, b2, hu, shr_in (show o ≤ 62 by omega), hd1, hd2]
      have hkd : (((K.map encInt).getD (IntKind.i64.wrap ((k : Int) - (L.length : Int))).toNat []).getD 0 AV.any) = AV.any ∨ ∃ z, (((K.map encInt).getD (IntKind.i64.wrap ((k : Int) - (L.length : Int))).toNat []).getD 0 AV.any) = int z := by
        generalize (IntKind.i64.wrap ((k : Int) - (L.length : Int))).toNat = q
        by_cases hq : q < K.length
        · obtain ⟨z, hz⟩ := getIn hq
          exact .inr ⟨z, by rw [getD_map hz]; rfl⟩
        · have : (K.map encInt).getD q [] = [] := by unfold List.getD; rw [List.getElem?_eq_none (by rw [List.length_map]; omega)]; rfl
          exact .inl (by rw [this]; rfl)
      refine ⟨fun _ => by omega, fun _ => by decide, ?_⟩
      have hbv : (decide True && (c.set / 2 ^ o).tmod 2 == 1) = hasR c.set o := by
        have h0 : 0 ≤ c.set / 2 ^ o := Int.ediv_nonneg (hs c (hLm c (List.mem_of_getElem? hc))).1 (Int.le_of_lt (Int.pow_pos (by decide)))
        unfold hasR
        rw [Int.tmod_eq_emod_of_nonneg h0, Int.toNat_natCast, decide_eq_true (show ((o : Nat) : Int) ≥ 0 by omega), decide_eq_true (show ((o : Nat) : Int) ≤ 62 by omega)]
        rfl
      rcases hkd with e | ⟨z, e⟩
      all_goals
        simp only [go_sem, e]
        rw [hbv]
        cases hh : hasR c.set o
        · rw [hh, show bitI false = 0 from rfl] at hn2
          simp only [go_sem, pickV, Bool.false_and]
          refine acond_i (fun hb => by cases hb) (fun hb => ?_)
          simp only [go_sem, e1, e2, e3, e10, e11, e9, wrapS (show k ≤ 4611686018427387904 by omega)]
          refine ⟨⟨k + 1, hlt, rfl, ?_⟩, by simp only [natOf_int]; omega⟩
          rw [hsu, hn2, Int.add_zero]
        · rw [hh, show bitI true = 1 from rfl] at hn2
          simp only [go_sem, pickV]
          refine acond_i (fun hb => ?_) (fun hb => by cases hb)
          simp only [go_sem, e1, e2, e3, e10, e11, e9, wrapS (show k ≤ 4611686018427387904 by omega)]
          refine ⟨⟨k + 1, hlt, rfl, ?_⟩, by simp only [natOf_int]; omega⟩
          rw [hsu, hn2, wrap_in (by omega)]
    · obtain ⟨z, hz⟩ := getIn (l := K) (k := k - L.length) (by omega)
      have b2 := inB (show k - L.length < K.length by omega)
      have hn2 : n = bitI (z == o) := by
        unfold covI at hn
        rw [List.getElem?_append_right (by rw [List.length_map]; omega), List.length_map, List.getElem?_map, hz] at hn
        exact (Option.some.inj hn).symm
      have w : IntKind.i64.wrap ((k : Int) - (L.length : Int)) = ((k - L.length : Nat) : Int) := by rw [wrap_in (by omega)]; omega
      have hd1 : decide ((k : Int) < (L.length : Int)) = false := by simp; omega
      have hd2 : decide ((k : Int) ≥ (L.length : Int)) = true := by simp; omega
      have hd3 : decide (((k - L.length : Nat) : Int) < (K.length : Int)) = true := by simp; omega
      have hno : (List.map encColumn L).getD k [] = [] := by unfold List.getD; rw [List.getElem?_eq_none (by rw [List.length_map]; omega)]; rfl
      simp only [go_sem, e1, e2, e3, e10, e11, e9, List.length_map, hd1, hd2, hd3, w, getD_map hz, b2, hno]
      refine acond_i (fun hb => ?_) (fun hb => ?_)
      · have hzo : (z == (o : Int)) = true := by simpa using hb
        rw [hzo, show bitI true = 1 from rfl] at hn2
        simp only [go_sem, e1, e2, e3, e10, e11, e9, wrapS (show k ≤ 4611686018427387904 by omega)]
        refine ⟨⟨k + 1, hlt, rfl, ?_⟩, by simp only [natOf_int]; omega⟩
        rw [hsu, hn2, wrap_in (by omega)]
      · have hzo : (z == (o : Int)) = false := by simpa using hb
        rw [hzo, show bitI false = 0 from rfl] at hn2
        simp only [go_sem, e1, e2, e3, e10, e11, e9, wrapS (show k ≤ 4611686018427387904 by omega)]
        refine ⟨⟨k + 1, hlt, rfl, ?_⟩, by simp only [natOf_int]; omega⟩
        rw [hsu, hn2, Int.add_zero]
  have hge := geB (by omega) (by simpa using hge)
  subst hge
  rw [List.take_length, List.take_of_length_le (by unfold covI; rw [List.length_append, List.length_map, List.length_map]; omega)] at e9
  simp only [go_sem, e1, e2, e3, e10, e11, e9]
  exact .refl _
end Go.Proofs.YtbcfajfngdmgnaaGreatDoor.Nu
end

section
set_option linter.unusedSimpArgs false
set_option linter.unusedVariables false
namespace Go.Proofs.YtbcfajfngdmgnaaGreatDoor.Nu
open Go.Aw Go.Aw.D Go.Proofs Ty Go.Nu
open Dec (chkR allowsR forbidsR decB hasN)
set_option maxRecDepth 100000
theorem plan_err {x : Instance} {d : Nat} {cols : List Column} {cuts : List Cut} {ds : List Decision} {v : List ByteArray} (h : (planM x d cols cuts ds v).2 ≠ 0) : (planM x d cols cuts ds v).1 = ⟨[], []⟩ := by
  unfold planM at h ⊢
  split
  · rfl
  split
  · rfl
  split
  · rfl
  split
  · rfl
  next h1 h2 h3 h4 => rw [if_neg h1, if_neg h2, if_neg h3, if_neg h4] at h; exact absurd rfl h
theorem plan_ok {x : Instance} {d : Nat} {cols : List Column} {cuts : List Cut} {ds : List Decision} {v : List ByteArray} (h : (planM x d cols cuts ds v).2 = 0) :
    (buildM x d cols cuts ds).2 = 0 ∧ v.length = (buildM x d cols cuts ds).1.cost.length ∧ (∀ s ∈ v, badB s = false) ∧ fitsM (buildM x d cols cuts ds).1 v = true ∧
    (planM x d cols cuts ds v).1 = ⟨(pickTo (inM cols ds) v 0 (inM cols ds).length).map (·.route), pickTo (skipsM x ds) v (inM cols ds).length (skipsM x ds).length⟩ := by
  unfold planM at h ⊢
  split at h
  · next h1 => exact absurd h h1
  next h1 =>
  split at h
  · cases h
  next h2 =>
  split at h
  · cases h
  next h3 =>
  split at h
  · cases h
  next h4 =>
  rw [if_neg h1, if_neg h2, if_neg h3, if_neg h4]
  refine ⟨by simpa using h1, by simpa using h2, fun s hs => ?_, by simpa using h4, rfl⟩
  exact Bool.eq_false_iff.2 fun hb => h3 (List.any_eq_true.2 ⟨s, hs, hb⟩)
theorem ord_at {x : Instance} {n : Nat} {o : Order} (h : x.orders[n]? = some o) (hf : o.off = false) : ∃ j, j < (ordI x).length ∧ (ordI x)[j]? = some (n : Int) := by
  have hm : (n : Int) ∈ ordI x := by
    unfold ordI ordN
    refine List.mem_map.2 ⟨n, List.mem_filter.2 ⟨List.mem_range.2 (List.getElem?_eq_some_iff.1 h).1, ?_⟩, rfl⟩
    rw [suchB_at h, hf]; rfl
  obtain ⟨j, hj, e⟩ := List.getElem_of_mem hm
  exact ⟨j, hj, by rw [List.getElem?_eq_getElem hj, e]⟩
theorem getD_of {l : List Int} {j : Nat} {n : Int} (h : l[j]? = some n) : l.getD j 0 = n := by rw [List.getD, h]; rfl
theorem coef_order {x : Instance} {c : Column} {cuts : List Cut} {ds : List Decision} {j : Nat} {i : Int} (h : (ordI x)[j]? = some i) : (coefsM x c cuts ds).getD j 0 = bitI (hasR c.set i) := by
  have hj := (List.getElem?_eq_some_iff.1 h).1
  have hl : (coefO x c).length = (ordI x).length := by unfold coefO; rw [List.length_map]
  refine getD_of ?_
  unfold coefsM
  rw [List.getElem?_append_left (by rw [List.length_append, List.length_append]; omega), List.getElem?_append_left (by rw [List.length_append]; omega), List.getElem?_append_left (by omega)]
  unfold coefO
  rw [List.getElem?_map, h]; rfl
theorem coef_type {x : Instance} {c : Column} {cuts : List Cut} {ds : List Decision} {t : Nat} (h : t < x.types.length) : (coefsM x c cuts ds).getD ((ordI x).length + t) 0 = bitI (c.type == (t : Int)) := by
  have hl : (coefO x c).length = (ordI x).length := by unfold coefO; rw [List.length_map]
  have hl2 : (coefT x c x.types.length).length = x.types.length := by unfold coefT; rw [List.length_map, List.length_range]
  refine getD_of ?_
  unfold coefsM
  rw [List.getElem?_append_left (by rw [List.length_append, List.length_append]; omega), List.getElem?_append_left (by rw [List.length_append]; omega), List.getElem?_append_right (by omega), hl]
  unfold coefT
  rw [List.getElem?_map, show (ordI x).length + t - (ordI x).length = t by omega, List.getElem?_range h]; rfl
theorem skip_order {x : Instance} {o : Int} {n j : Nat} {i : Int} (h : (ordI x)[j]? = some i) : (skipCol x o n).getD j 0 = bitI (i == o) := by
  have hj := (List.getElem?_eq_some_iff.1 h).1
  refine getD_of ?_
  unfold skipCol
  rw [List.getElem?_append_left (by rw [List.length_map]; omega), List.getElem?_map, h]; rfl
theorem skip_type {x : Instance} {o : Int} {n j : Nat} (h : (ordI x).length ≤ j) : (skipCol x o n).getD j 0 = 0 := by
  unfold skipCol
  rw [List.getD, List.getElem?_append_right (by rw [List.length_map]; omega), List.length_map, List.getElem?_replicate]
  split <;> rfl
theorem row_order {x : Instance} {cuts : List Cut} {ds : List Decision} {j : Nat} (h : j < (ordI x).length) : (rowsM x cuts ds)[j]? = some ⟨[], 2, 1⟩ := by
  have hl : (rowsO (ordI x).length).length = (ordI x).length := by unfold rowsO; rw [List.length_replicate]
  unfold rowsM
  rw [List.getElem?_append_left (by rw [List.length_append, List.length_append]; omega), List.getElem?_append_left (by rw [List.length_append]; omega), List.getElem?_append_left (by omega)]
  unfold rowsO
  rw [List.getElem?_replicate, if_pos h]
theorem row_type {x : Instance} {cuts : List Cut} {ds : List Decision} {t : Nat} {ty : VType} (h : x.types[t]? = some ty) : (rowsM x cuts ds)[(ordI x).length + t]? = some ⟨[], 1, ty.count⟩ := by
  have ht := (List.getElem?_eq_some_iff.1 h).1
  have hl : (rowsO (ordI x).length).length = (ordI x).length := by unfold rowsO; rw [List.length_replicate]
  have hl2 : (rowsT x.types).length = x.types.length := by unfold rowsT; rw [List.length_map]
  unfold rowsM
  rw [List.getElem?_append_left (by rw [List.length_append, List.length_append]; omega), List.getElem?_append_left (by rw [List.length_append]; omega), List.getElem?_append_right (by omega), hl, show (ordI x).length + t - (ordI x).length = t by omega]
  unfold rowsT
  rw [List.getElem?_map, h]; rfl
theorem dot_zero {α : Type} : ∀ (l : List α) (v : List ByteArray), dotI (l.map fun _ => (0 : Int)) v = 0
  | [], _ => rfl
  | _ :: l, [] => rfl
  | _ :: l, s :: v => by show 0 * v01 s + dotI (l.map fun _ => (0 : Int)) v = 0; rw [dot_zero l v]; omega
def typI (L : List Column) (t : Nat) : List Int := L.map fun c => bitI (c.type == (t : Int))
structure Serve (x : Instance) (L : List Column) (K : List Int) (v : List ByteArray) (cost : List Int) : Prop where
  len : v.length = L.length + K.length
  bad : ∀ s ∈ v, badB s = false
  cov : ∀ (n : Nat) (o : Order), x.orders[n]? = some o → o.off = false → dotI (covI L K n) v = 1
  type : ∀ c ∈ L, 0 ≤ c.type ∧ c.type < (x.types.length : Int)
  cnt : ∀ (t : Nat) (ty : VType), x.types[t]? = some ty → dotI (typI L t) (v.take L.length) ≤ ty.count
  pen : ∀ u ∈ K, (unserved20 x u).2 = 0 ∧ (weightP (unserved20 x u).1).2 = 0 ∧ 0 ≤ weightM x u ∧ weightM x u ≤ 17592186044416
  cost : cost = L.map (·.price) ++ K.map (weightM x)
theorem dot_take {l : List Int} {v : List ByteArray} : ∀ (a : List Int) (b c : List ByteArray), a.length ≤ b.length → dotI a (b ++ c) = dotI a b
  | [], b, c, _ => rfl
  | n :: a, [], c, h => by simp at h
  | n :: a, s :: b, c, h => by show n * v01 s + dotI a (b ++ c) = n * v01 s + dotI a b; rw [dot_take (l := l) (v := v) a b c (by simpa using h)]
theorem dot_cut (a b : List Int) (v : List ByteArray) (h : a.length ≤ v.length) : dotI (a ++ b) v = dotI a (v.take a.length) + dotI b (v.drop a.length) := by
  rw [dotI_app a b v h]
  have := dot_take (l := []) (v := []) a (v.take a.length) (v.drop a.length) (by rw [List.length_take]; omega)
  rw [List.take_append_drop] at this
  rw [this]
theorem skip_pen {x : Instance} {ds : List Decision} (hA : Acc x) {u : Int} (h : u ∈ skipsM x ds) : (unserved20 x u).2 = 0 ∧ (weightP (unserved20 x u).1).2 = 0 ∧ 0 ≤ weightM x u ∧ weightM x u ≤ 17592186044416 := by
  obtain ⟨h1, h2⟩ := List.mem_filter.1 h
  obtain ⟨n, o, rfl, hn, ho, hf⟩ := ordI_in h1
  unfold skipB at h2
  simp only [Bool.and_eq_true, decide_eq_true_eq] at h2
  have hpen := h2.1
  have hp : penAt x (n : Int) = o.penalty := by unfold penAt; rw [orderAt_get ho]
  rw [hp] at hpen
  have hpb := (hA.order o (List.mem_of_getElem? ho)).penalty
  have e1 : unserved20 x (n : Int) = (⟨o.penalty, if (o.now != -1) = true then 1 else 0, 0, 0⟩, 0) := by
    unfold unserved20
    have hb : badNo (n : Int) x.orders.length = false := by unfold badNo; simp; omega
    rw [hb, if_neg (by simp), Int.toNat_natCast, ho]
    show unservedO o = _
    unfold unservedO
    rw [hf, if_neg (by simp), if_neg (by simp; omega)]
  have hm : (if (o.now != -1) = true then (1 : Int) else 0) = 0 ∨ (if (o.now != -1) = true then (1 : Int) else 0) = 1 := by split <;> simp
  unfold weightM
  rw [e1]
  generalize (if (o.now != -1) = true then (1 : Int) else 0) = m at *
  have c1 : (decide (o.penalty < 0) || decide (m < 0) || decide ((0 : Int) < 0) || decide ((0 : Int) < 0)) = false := by simp; omega
  have c2 : (decide (o.penalty > 1073741824) || decide (m ≥ 16) || decide ((0 : Int) ≥ 16) || decide ((0 : Int) ≥ 65536)) = false := by simp; omega
  have ew : weightP ⟨o.penalty, m, 0, 0⟩ = (wExp ⟨o.penalty, m, 0, 0⟩, 0) := by
    unfold weightP
    simp only [c1, c2]
    rfl
  rw [ew]
  refine ⟨rfl, rfl, ?_⟩
  show 0 ≤ wExp ⟨o.penalty, m, 0, 0⟩ ∧ wExp ⟨o.penalty, m, 0, 0⟩ ≤ 17592186044416
  have a1 : IntKind.i64.wrap (o.penalty * 16) = o.penalty * 16 := wrap_in (by omega)
  have a2 : IntKind.i64.wrap (o.penalty * 16 + m) = o.penalty * 16 + m := wrap_in (by omega)
  have a3 : IntKind.i64.wrap ((o.penalty * 16 + m) * 16) = (o.penalty * 16 + m) * 16 := wrap_in (by omega)
  have a4 : IntKind.i64.wrap ((o.penalty * 16 + m) * 16 + 0) = (o.penalty * 16 + m) * 16 + 0 := wrap_in (by omega)
  have a5 : IntKind.i64.wrap (((o.penalty * 16 + m) * 16 + 0) * 65536) = ((o.penalty * 16 + m) * 16 + 0) * 65536 := wrap_in (by omega)
  have a6 : IntKind.i64.wrap (((o.penalty * 16 + m) * 16 + 0) * 65536 + 0) = ((o.penalty * 16 + m) * 16 + 0) * 65536 + 0 := wrap_in (by omega)
  unfold wExp
  simp only [a1, a2, a3, a4, a5, a6]
  omega
theorem serve_of {x : Instance} {d : Nat} {cols : List Column} {cuts : List Cut} {ds : List Decision} {v : List ByteArray} (hA : Acc x) (hR : RightB x cuts ds) (h : (planM x d cols cuts ds v).2 = 0) :
    Serve x (inM cols ds) (skipsM x ds) v (buildM x d cols cuts ds).1.cost := by
  obtain ⟨h1, h2, h3, h4, _⟩ := plan_ok h
  obtain ⟨w1, w2, w3, w4, w5, w6, w7⟩ := build_ok h1 hR
  obtain ⟨r1, r2⟩ := build_rows h1
  obtain ⟨_, _, hw3⟩ := wrong_zero w1
  have hLm : ∀ c ∈ inM cols ds, c ∈ cols := fun c hc => (List.mem_filter.1 hc).1
  have hpen := fun u hu => skip_pen (ds := ds) hA (u := u) hu
  generalize inM cols ds = L at *
  generalize skipsM x ds = K at *
  have hlen : v.length = L.length + K.length := by omega
  have row : ∀ (i : Nat) (r : PRow), (rowsM x cuts ds)[i]? = some r → holdM r.kind (cmpI (dotI (rowI x cuts ds L K i) v) r.right) = true := by
    intro i r hr
    have hm := List.mem_of_getElem? (r2 i r hr)
    have hw7 := w7 _ hm
    exact fits_row h4 h3 hm hw7.1 hw7.2 (by have := w6 _ hm; simp only at this ⊢; omega) (by have := w6 _ hm; simp only at this ⊢; omega)
  refine ⟨hlen, h3, fun n o ho hf => ?_, fun c hc => ?_, fun t ty ht => ?_, hpen, r1⟩
  · obtain ⟨j, hj, hjn⟩ := ord_at ho hf
    have := row j _ (row_order hj)
    have e : rowI x cuts ds L K j = covI L K n := by
      unfold rowI covI
      congr 1
      · exact List.map_congr_left fun c _ => coef_order hjn
      · refine List.map_congr_left fun u _ => ?_
        rw [skip_order hjn]
        congr 1
        rw [Bool.eq_iff_iff, beq_iff_eq, beq_iff_eq]
        exact ⟨Eq.symm, Eq.symm⟩
    rw [e] at this
    have h0 : (cmpI (dotI (covI L K n) v) 1 == 0) = true := this
    exact cmpI_zero.1 (by simpa using h0)
  · have := hw3 c (hLm c hc)
    unfold badC at this
    simp only [Bool.or_eq_false_iff, decide_eq_false_iff_not] at this
    omega
  · have hlt := (List.getElem?_eq_some_iff.1 ht).1
    have := row _ _ (row_type ht)
    have e : rowI x cuts ds L K ((ordI x).length + t) = typI L t ++ K.map fun _ => (0 : Int) := by
      unfold rowI typI
      congr 1
      · exact List.map_congr_left fun c _ => coef_type hlt
      · exact List.map_congr_left fun u _ => skip_type (by omega)
    have hl : (typI L t).length = L.length := by unfold typI; rw [List.length_map]
    rw [e, dot_cut _ _ _ (by omega), dot_zero, Int.add_zero, hl] at this
    have h0 : decide (cmpI (dotI (typI L t) (v.take L.length)) ty.count ≤ 0) = true := this
    have h0 := of_decide_eq_true h0
    refine Decidable.byContradiction fun hc => ?_
    rw [cmpI_gt (by omega)] at h0
    omega
end Go.Proofs.YtbcfajfngdmgnaaGreatDoor.Nu
end
