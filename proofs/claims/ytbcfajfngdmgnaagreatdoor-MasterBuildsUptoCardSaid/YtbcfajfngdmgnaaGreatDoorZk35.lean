/- Texts joined by a program: MaJ, MaK. -/
import Derived.Test.YtbcfajfngdmgnaaGreatDoorZk32
import Derived.Test.YtbcfajfngdmgnaaGreatDoorZk34

section
set_option linter.unusedSimpArgs false
set_option linter.unusedVariables false
namespace Go.Proofs.YtbcfajfngdmgnaaGreatDoor.Nu
open Go.Aw Go.Aw.D Go.Proofs Ty Go.Nu
set_option maxRecDepth 100000
def i64I (n : Int) : Prop := -9223372036854775808 ≤ n ∧ n ≤ 9223372036854775807
structure LinB (p : PLin) : Prop where
  rows : p.rows.length ≤ 1048576
  cost : p.cost.length ≤ 1048576
  coef : ∀ r ∈ p.rows, ∀ n ∈ r.coef, i64I n
  right : ∀ r ∈ p.rows, i64I r.right
structure VarB (v : List ByteArray) : Prop where
  len : v.length ≤ 1048576
  size : ∀ s ∈ v, s.size ≤ 1048576
def holdM (k c : Int) : Bool := if k = 1 then decide (c ≤ 0) else if k = 3 then decide (c ≥ 0) else c == 0
def rowFits (v : List ByteArray) (r : PRow) : Bool := (timesR r.coef v).2 == 0 && holdM r.kind (cmpR (timesR r.coef v).1 (zed r.right))
def badV (s : ByteArray) : Bool := !rightR s || decide (signR s < 0)
def fitsM (p : PLin) (v : List ByteArray) : Bool := if v.length ≠ p.cost.length then false else if v.any badV = true then false else p.rows.all (rowFits v)
theorem times_size {ns : List Int} {xs : List ByteArray} : (timesR ns xs).1.size ≤ 8194 := by
  by_cases h : (timesR ns xs).2 = 0
  · exact right_size' (times_right h)
  · have : (timesR ns xs).1 = emp := by
      unfold timesR at h ⊢
      split
      · rfl
      · split
        · rfl
        · next h1 h2 =>
          rw [if_neg h1, if_neg h2] at h
          have : ∀ (l : List (Int × ByteArray)) (t : ByteArray), (timesF l t).2 ≠ 0 → (timesF l t).1 = emp := by
            intro l
            induction l with
            | nil => intro t h; exact absurd rfl h
            | cons p l ih =>
              intro t h
              unfold timesF at h ⊢
              split
              · rfl
              · next h3 =>
                rw [if_neg h3] at h
                split
                · rfl
                · next h4 => rw [if_neg h4] at h; exact ih _ h
          exact this _ _ h
    rw [this]; decide
theorem holds_c (k : Int) (a b : ByteArray) (ha : a.size ≤ 1048576) (hb : b.size ≤ 1048576) : PC Tryz.prog 172 [int k, str a, str b] (boo (holdM k (cmpR a b))) := by
  unfold holdM
  refine PC.body (c := Tryz.f172.body.getD .skip) (fun _ => false) mixed Tryz.func172 rfl (by kernel_rfl) ?_
  unfold Tryz.f172
  simp only [Option.getD_some]
  simp only [go_sem]
  refine PC.use (rCompare_c a b ha hb) ?_
  simp only [go_sem]
  refine acond_i (fun h1 => ?_) (fun h1 => ?_)
  · rw [if_pos (by simpa using h1)]
    simp only [go_sem]
    exact .refl _
  rw [if_neg (by simpa using h1)]
  simp only [go_sem]
  refine acond_i (fun h1 => ?_) (fun h1 => ?_)
  · rw [if_pos (by simpa using h1)]
    simp only [go_sem]
    exact .refl _
  rw [if_neg (by simpa using h1)]
  simp only [go_sem]
  exact .refl _
theorem left_c (p : PLin) (k : Nat) (v : List ByteArray) (hp : LinB p) (hv : VarB v) {r : PRow} (hr : p.rows[k]? = some r) : PC Tryz.prog 171 [.agg (encPLin p), int k, .sl (v.map Go.Aw.D.encStr)] (.tup [str (timesR r.coef v).1, int (timesR r.coef v).2]) := by
  have hlt := (List.getElem?_eq_some_iff.1 hr).1
  have b1 := inB hlt
  refine PC.body (c := Tryz.f171.body.getD .skip) (fun _ => false) mixed Tryz.func171 rfl (by kernel_rfl) ?_
  unfold Tryz.f171
  simp only [Option.getD_some]
  simp only [go_sem]
  refine acond_i (fun h1 => ?_) (fun h1 => ?_)
  · simp at h1; omega
  simp only [go_sem, getD_map hr, b1]
  refine PC.use (rTimes_c r.coef v (hp.coef r (List.mem_of_getElem? hr)) hv.len hv.size) ?_
  simp only [go_sem]
  exact .refl _
theorem all_hitB {α : Type} {q : α → Bool} {l : List α} {k : Nat} {a : α} (h : l[k]? = some a) (ha : q a = false) : l.all q = false := by
  rw [List.all_eq_false]
  exact ⟨a, List.mem_of_getElem? h, by rw [ha]; simp⟩
theorem fits_c (p : PLin) (v : List ByteArray) (hp : LinB p) (hv : VarB v) : PC Tryz.prog 111 [.agg (encPLin p), .sl (v.map Go.Aw.D.encStr)] (boo (fitsM p v)) := by
  have hv1 := hv.len
  have hp1 := hp.rows
  have hp2 := hp.cost
  unfold fitsM
  refine PC.body (c := Tryz.f111.body.getD .skip) (fun _ => false) mixed Tryz.func111 rfl (by kernel_rfl) ?_
  unfold Tryz.f111
  simp only [Option.getD_some]
  simp only [go_sem]
  refine acond_i (fun h1 => ?_) (fun h1 => ?_)
  · rw [if_pos (by simp at h1; omega)]
    simp only [go_sem]
    exact .refl _
  rw [if_neg (by simp at h1; omega)]
  simp only [go_sem]
  refine ⟨fun ρ H => ∃ (k : Nat), k ≤ v.length ∧ ρ 1 = .sl (v.map Go.Aw.D.encStr) ∧ ρ 2 = .rp (encPLin p) 0 ∧ ρ 17 = .sl (v.map Go.Aw.D.encStr) ∧ ρ 18 = int (v.length : Nat) ∧ ρ 19 = int k ∧ ∀ s ∈ v.take k, badV s = false, fun ρ _ => v.length - natOf (ρ 19), ⟨0, Nat.zero_le _, by simp only [go_sem], by simp only [go_sem], by simp only [go_sem], by simp only [go_sem, List.length_map], (by simp only [go_sem]; rfl), by simp⟩, ?_⟩
  rintro ρ H ⟨k, hk, e1, e2, e17, e18, e19, hz⟩
  simp only [go_sem, e1, e2, e17, e18, e19]
  refine acond_i (fun hlt => ?_) (fun hge => ?_)
  · have hlt := ltB (by simpa using hlt)
    obtain ⟨s, hs⟩ := getIn hlt
    have b1 := inB hlt
    have hss := hv.size s (List.mem_of_getElem? hs)
    simp only [go_sem, e1, e2, e17, e18, e19, getD_map hs, b1]
    refine PC.use (right1_c s hss) ?_
    simp only [go_sem, e1, e2, e17, e18, e19]
    refine ⟨_, fun _ => (rsign_c s hss).q rfl, ?_⟩
    simp only [go_sem, e1, e2, e17, e18, e19]
    refine acond_i (fun hb => ?_) (fun hb => ?_)
    · rw [if_pos (List.any_eq_true.2 ⟨s, List.mem_of_getElem? hs, hb⟩)]
      simp only [go_sem]
      exact .refl _
    · simp only [go_sem, e1, e2, e17, e18, e19, wrapS (show k ≤ 4611686018427387904 by omega)]
      exact ⟨⟨k + 1, hlt, rfl, take_all' (p := fun s => badV s = false) hs hb hz⟩, by simp only [natOf_int]; omega⟩
  have hge := geB hk (by simpa using hge)
  subst hge
  rw [List.take_length] at hz
  rw [if_neg (fun hc => by obtain ⟨s, hs1, hs2⟩ := List.any_eq_true.1 hc; rw [hz s hs1] at hs2; cases hs2)]
  simp only [go_sem, e1, e2, e17, e18, e19, List.length_map]
  refine ⟨fun ρ H => ∃ (k : Nat), k ≤ p.rows.length ∧ ρ 1 = .sl (v.map Go.Aw.D.encStr) ∧ ρ 2 = .rp (encPLin p) 0 ∧ ρ 33 = .sl (p.rows.map encPRow) ∧ ρ 34 = int (p.rows.length : Nat) ∧ ρ 35 = int k ∧ ∀ r ∈ p.rows.take k, rowFits v r = true, fun ρ _ => p.rows.length - natOf (ρ 35), ⟨0, Nat.zero_le _, by simp only [go_sem, e1, e2], by simp only [go_sem, e1, e2], by simp only [go_sem, e1, e2], by simp only [go_sem, List.length_map, e1, e2], (by simp only [go_sem, e1, e2]; rfl), by simp⟩, ?_⟩
  rintro ρ H ⟨k, hk, e1, e2, e33, e34, e35, hz⟩
  simp only [go_sem, e1, e2, e33, e34, e35]
  refine acond_i (fun hlt => ?_) (fun hge => ?_)
  · have hlt := ltB (by simpa using hlt)
    obtain ⟨r, hr⟩ := getIn hlt
    have b1 := inB hlt
    have hri := hp.right r (List.mem_of_getElem? hr)
    have hts := times_size (ns := r.coef) (xs := v)
    have hzs := zed64_size hri.1 hri.2
    simp only [go_sem, e1, e2, e33, e34, e35, getD_map hr, b1]
    refine anew_i fun i8 h8 => ?_
    simp only [go_sem, e1, e2, e33, e34, e35]
    refine wputE_n (updH_same _ _ _) (by simp [encPRow_len]) ?_
    generalize hG : updH (updH H i8 _) i8 _ = HG
    have R8 : HG i8 = some (⟨144, 3, [encPRow r]⟩ : Row) := by rw [← hG, updH_same]; rfl
    clear hG h8
    simp only [go_sem, e1, e2, e33, e34, e35]
    refine PC.use (left_c p k v hp hv hr) ?_
    have hrf : rowFits v r = ((timesR r.coef v).2 == 0 && holdM r.kind (cmpR (timesR r.coef v).1 (zed r.right))) := rfl
    generalize timesR r.coef v = T at *
    obtain ⟨t, e⟩ := T
    simp only at hts hrf
    simp only [go_sem, e1, e2, e33, e34, e35]
    refine adraw_p [i8] [(0, true), (1, true), (2, true), (3, true), (4, true), (5, true), (6, true), (7, true), (8, false), (9, false), (10, false), (11, false)] (by simp [R8]) (by kernel_rfl) fun Hp Hr hp hqq _ hr0 => ?_
    have Pp := (hp i8 (by simp)).trans R8
    simp only [go_sem, e1, e2, e33, e34, e35, Pp]
    refine ⟨_, fun _ => (rof_c r.right hri.1 hri.2).q rfl, ?_⟩
    simp only [go_sem, e1, e2, e33, e34, e35]
    refine ⟨_, fun _ => (holds_c r.kind t (zed r.right) (by omega) (by omega)).q rfl, ?_⟩
    simp only [go_sem, e1, e2, e33, e34, e35]
    refine pinEnd_i fun _ Hm _ _ => ?_
    simp only [go_sem, e1, e2, e33, e34, e35]
    have hcd : (e != 0 || !holdM r.kind (cmpR t (zed r.right))) = !rowFits v r := by rw [hrf, Bool.not_and]; rfl
    refine acond_i (fun hb => ?_) (fun hb => ?_)
    · rw [all_hitB hr (by rw [hcd] at hb; simpa using hb)]
      simp only [go_sem]
      exact .refl _
    · simp only [go_sem, e1, e2, e33, e34, e35, wrapS (show k ≤ 4611686018427387904 by omega)]
      exact ⟨⟨k + 1, hlt, rfl, take_all' (p := fun r => rowFits v r = true) hr (by rw [hcd] at hb; simpa using hb) hz⟩, by simp only [natOf_int]; omega⟩
  have hge := geB hk (by simpa using hge)
  subst hge
  rw [List.take_length] at hz
  rw [List.all_eq_true.2 hz]
  simp only [go_sem, e1, e2, e33, e34, e35]
  exact .refl _
end Go.Proofs.YtbcfajfngdmgnaaGreatDoor.Nu
end

section
set_option linter.unusedSimpArgs false
set_option linter.unusedVariables false
namespace Go.Proofs.YtbcfajfngdmgnaaGreatDoor.Nu
open Go.Aw Go.Aw.D Go.Proofs Ty Go.Nu
open Dec (chkR knownR allowsR forbidsR decB hasN)
set_option maxRecDepth 100000
def is0 (s : ByteArray) : Bool := bl s == [48]
def is1 (s : ByteArray) : Bool := bl s == [49]
def pickTo {α : Type} (l : List α) (v : List ByteArray) (off k : Nat) : List α := (List.range k).filterMap fun i => match l[i]?, v[off + i]? with
  | some a, some s => if is1 s = true then some a else none
  | _, _ => none
theorem pickTo_succ {α : Type} {l : List α} {v : List ByteArray} {off k : Nat} {a : α} {s : ByteArray} (h : l[k]? = some a) (hv : v[off + k]? = some s) : pickTo l v off (k + 1) = pickTo l v off k ++ (if is1 s = true then [a] else []) := by
  unfold pickTo
  rw [List.range_succ, List.filterMap_append]
  congr 1
  rw [List.filterMap_cons, List.filterMap_nil, h, hv]
  by_cases hs : is1 s = true
  · simp [hs]
  · simp [hs]
theorem pickTo_len {α : Type} (l : List α) (v : List ByteArray) (off k : Nat) : (pickTo l v off k).length ≤ k := by
  unfold pickTo
  exact Nat.le_trans (List.length_filterMap_le _ _) (by rw [List.length_range]; exact Nat.le_refl _)
def badB (s : ByteArray) : Bool := !is0 s && !is1 s
def planM (x : Instance) (d : Nat) (cols : List Column) (cuts : List Cut) (ds : List Decision) (v : List ByteArray) : Plan × Int :=
  if (buildM x d cols cuts ds).2 ≠ 0 then (⟨[], []⟩, (buildM x d cols cuts ds).2)
  else if v.length ≠ (buildM x d cols cuts ds).1.cost.length then (⟨[], []⟩, 2)
  else if v.any badB = true then (⟨[], []⟩, 2)
  else if fitsM (buildM x d cols cuts ds).1 v = false then (⟨[], []⟩, 24)
  else (⟨(pickTo (inM cols ds) v 0 (inM cols ds).length).map (·.route), pickTo (skipsM x ds) v (inM cols ds).length (skipsM x ds).length⟩, 0)
def RowsOk (rows : List PRow) : Prop := ∀ r ∈ rows, (∀ n ∈ r.coef, n = 0 ∨ n = 1) ∧ i64I r.right
theorem addTo_ok {rows : List PRow} {col : List Int} (h : RowsOk rows) (hc : ∀ n ∈ col, n = 0 ∨ n = 1) : RowsOk (addTo rows col col.length) := by
  intro r hr
  obtain ⟨i, hi, rfl⟩ := List.getElem_of_mem hr
  have hg := List.getElem?_eq_getElem hi
  rw [addTo_get] at hg
  rw [addTo_len] at hi
  have hm := h _ (List.getElem_mem hi)
  by_cases hlt : i < col.length
  · rw [if_pos hlt, List.getElem?_eq_getElem hi] at hg
    have e : (addTo rows col col.length)[i]'(by rw [addTo_len]; exact hi) = addR1 (rows[i]) (col.getD i 0) := (Option.some.inj hg).symm
    rw [e]
    unfold addR1
    refine ⟨fun n hn => ?_, hm.2⟩
    rcases List.mem_append.1 hn with hn | hn
    · exact hm.1 n hn
    · have e2 : n = col.getD i 0 := by simpa using hn
      rw [e2, List.getD, List.getElem?_eq_getElem hlt]
      exact hc _ (List.getElem_mem hlt)
  · rw [if_neg hlt, List.getElem?_eq_getElem hi] at hg
    have e : (addTo rows col col.length)[i]'(by rw [addTo_len]; exact hi) = rows[i] := (Option.some.inj hg).symm
    rw [e]; exact hm
structure RightB (x : Instance) (cuts : List Cut) (ds : List Decision) : Prop where
  types : ∀ t ∈ x.types, i64I t.count
  cuts : ∀ q ∈ cuts, i64I q.n
  ds : ∀ d ∈ ds, i64I d.n
theorem rowsM_ok {x : Instance} {cuts : List Cut} {ds : List Decision} (h : RightB x cuts ds) : RowsOk (rowsM x cuts ds) := by
  intro r hr
  have h1 : i64I 1 := by unfold i64I; omega
  unfold rowsM rowsO rowsT rowsC rowsD at hr
  simp only [List.mem_append, List.mem_map, List.mem_filterMap] at hr
  rcases hr with ((hr | ⟨t, ht, rfl⟩) | ⟨q, hq, rfl⟩) | ⟨d, hd, hr⟩
  · rw [List.eq_of_mem_replicate hr]; exact ⟨fun n hn => (by cases hn), h1⟩
  · exact ⟨fun n hn => (by cases hn), h.types t ht⟩
  · refine ⟨fun n hn => (by cases hn), ?_⟩
    show i64I (rowC q).2
    unfold rowC
    split
    · exact h1
    · split
      · exact h.cuts q hq
      · unfold i64I; omega
  · unfold rowD at hr
    split at hr
    · cases hr; exact ⟨fun n hn => (by cases hn), h.ds d hd⟩
    · split at hr
      · cases hr; exact ⟨fun n hn => (by cases hn), h.ds d hd⟩
      · cases hr
theorem bldA_ok {x : Instance} {cuts : List Cut} {ds : List Decision} (h : RightB x cuts ds) (l : List Column) : ∀ k, k ≤ l.length → RowsOk (bldA x cuts ds (l.take k)).2
  | 0, _ => rowsM_ok h
  | k + 1, hk => by
    obtain ⟨c, hc⟩ := getIn (show k < l.length by omega)
    rw [bldA_succ hc]
    exact addTo_ok (bldA_ok h l k (by omega)) fun n hn => coefsM_in hn
theorem skipCol_in {x : Instance} {o : Int} {n : Nat} {m : Int} (h : m ∈ skipCol x o n) : m = 0 ∨ m = 1 := by
  unfold skipCol at h
  rcases List.mem_append.1 h with h | h
  · obtain ⟨i, _, rfl⟩ := List.mem_map.1 h; exact bitI_in _
  · exact .inl (List.eq_of_mem_replicate h)
theorem bldB_ok {x : Instance} {n : Nat} {s0 : List Int × List PRow} (h : RowsOk s0.2) (l : List Int) : ∀ k, k ≤ l.length → RowsOk (bldB x n s0 (l.take k)).2
  | 0, _ => h
  | k + 1, hk => by
    obtain ⟨c, hc⟩ := getIn (show k < l.length by omega)
    rw [bldB_succ hc]
    exact addTo_ok (bldB_ok h l k (by omega)) fun n hn => skipCol_in hn
theorem build_ok {x : Instance} {d : Nat} {cols : List Column} {cuts : List Cut} {ds : List Decision} (h : (buildM x d cols cuts ds).2 = 0) (hr : RightB x cuts ds) :
    wrongM x d cols cuts ds = 0 ∧ (buildM x d cols cuts ds).1.cost.length = (inM cols ds).length + (skipsM x ds).length ∧ (inM cols ds).length + (skipsM x ds).length ≤ 8192 ∧ (buildM x d cols cuts ds).1.rows.length = rowsN x cuts ds ∧ rowsN x cuts ds ≤ 64 ∧
      (∀ r ∈ (buildM x d cols cuts ds).1.rows, r.coef.length = (inM cols ds).length + (skipsM x ds).length) ∧ RowsOk (buildM x d cols cuts ds).1.rows := by
  unfold buildM at h ⊢
  split at h
  · next h1 => exact absurd h h1
  next h1 =>
  split at h
  · cases h
  next h2 =>
  rw [if_neg h1, if_neg h2]
  have hA := bldA_sz x cuts ds (inM cols ds) _ (Nat.le_refl _)
  have hA2 := bldA_ok hr (inM cols ds) _ (Nat.le_refl _)
  rw [List.take_length] at hA hA2
  have hno : (ordI x).length ≤ rowsN x cuts ds := by unfold rowsN; omega
  have hB := bldB_sz x hno hA (skipsM x ds) _ (Nat.le_refl _)
  have hB2 := bldB_ok (x := x) (n := rowsN x cuts ds) hA2 (skipsM x ds) _ (Nat.le_refl _)
  rw [List.take_length] at hB hB2
  exact ⟨by simpa using h1, hB.1, by omega, hB.2.1, by omega, hB.2.2, hB2⟩
theorem build_lin {x : Instance} {d : Nat} {cols : List Column} {cuts : List Cut} {ds : List Decision} (h : (buildM x d cols cuts ds).2 = 0) (hr : RightB x cuts ds) : LinB (buildM x d cols cuts ds).1 := by
  obtain ⟨_, h1, h2, h3, h4, _, h6⟩ := build_ok h hr
  exact ⟨by omega, by omega, fun r hr n hn => by rcases (h6 r hr).1 n hn with e | e <;> unfold i64I <;> omega, fun r hr => (h6 r hr).2⟩
abbrev zPlan : Row := ⟨53, 2, [[.sl [], .sl []]]⟩
abbrev plRow (ja jb : Nat) : Row := ⟨53, 2, [[.os ja, .os jb]]⟩
abbrev rtRow (l : List Route) : Row := ⟨57, 4, l.map encRoute⟩
structure PlS (H : Heap) (i10 i16 ja jb : Nat) (rs : List Route) (us : List Int) : Prop where
  r10 : H i10 = some zPlan
  r16 : H i16 = some (plRow ja jb)
  ra : H ja = some (rtRow rs)
  rb : H jb = some (iRow us)
  ne : i10 ≠ i16
theorem PlS.mono {H H' : Heap} {i10 i16 ja jb : Nat} {rs : List Route} {us : List Int} (h : PlS H i10 i16 ja jb rs us) (hm : ∀ k row, H k = some row → H' k = some row) : PlS H' i10 i16 ja jb rs us :=
  ⟨hm _ _ h.r10, hm _ _ h.r16, hm _ _ h.ra, hm _ _ h.rb, h.ne⟩
theorem row_ne' {H : Heap} {i j : Nat} {a b : Row} (hi : H i = some a) (hj : H j = some b) (he : (a.e == b.e) = false) : i ≠ j := fun e => by
  subst e; rw [hi] at hj; rw [congrArg Row.e (Option.some.inj hj)] at he; simp at he
theorem PlS.appA {H : Heap} {i10 i16 ja jb : Nat} {rs : List Route} {us : List Int} (h : PlS H i10 i16 ja jb rs us) {ja' : Nat} (hj : H ja' = none) (r : Route) :
    PlS (updH (updH (updH H ja none) ja' (some ⟨57, 4, rs.map encRoute ++ [encRoute r]⟩)) i16 (some (plRow ja' jb))) i10 i16 ja' jb (rs ++ [r]) us := by
  have n1 : i10 ≠ ja := row_ne' h.r10 h.ra rfl
  have n2 : i16 ≠ ja := row_ne' h.r16 h.ra rfl
  have n3 : jb ≠ ja := row_ne' h.rb h.ra rfl
  have n4 : jb ≠ i16 := row_ne' h.rb h.r16 rfl
  have m1 : i10 ≠ ja' := ne_new h.r10 hj
  have m2 : i16 ≠ ja' := ne_new h.r16 hj
  have m3 : jb ≠ ja' := ne_new h.rb hj
  refine ⟨?_, updH_same _ _ _, ?_, ?_, h.ne⟩
  · rw [updH_ne _ _ _ _ h.ne, updH_ne _ _ _ _ m1, updH_ne _ _ _ _ n1]; exact h.r10
  · rw [updH_ne _ _ _ _ m2.symm, updH_same]
    exact congrArg (fun l => some (⟨57, 4, l⟩ : Row)) (List.map_append (f := encRoute) (l₁ := rs) (l₂ := [r])).symm
  · rw [updH_ne _ _ _ _ n4, updH_ne _ _ _ _ m3, updH_ne _ _ _ _ n3]; exact h.rb
theorem PlS.appB {H : Heap} {i10 i16 ja jb : Nat} {rs : List Route} {us : List Int} (h : PlS H i10 i16 ja jb rs us) {jb' : Nat} (hj : H jb' = none) (o : Int) :
    PlS (updH (updH (updH H jb none) jb' (some ⟨3, 1, us.map encInt ++ [[int o]]⟩)) i16 (some (plRow ja jb'))) i10 i16 ja jb' rs (us ++ [o]) := by
  have n1 : i10 ≠ jb := row_ne' h.r10 h.rb rfl
  have n2 : i16 ≠ jb := row_ne' h.r16 h.rb rfl
  have n3 : ja ≠ jb := row_ne' h.ra h.rb rfl
  have n4 : ja ≠ i16 := row_ne' h.ra h.r16 rfl
  have m1 : i10 ≠ jb' := ne_new h.r10 hj
  have m2 : i16 ≠ jb' := ne_new h.r16 hj
  have m3 : ja ≠ jb' := ne_new h.ra hj
  refine ⟨?_, updH_same _ _ _, ?_, ?_, h.ne⟩
  · rw [updH_ne _ _ _ _ h.ne, updH_ne _ _ _ _ m1, updH_ne _ _ _ _ n1]; exact h.r10
  · rw [updH_ne _ _ _ _ n4, updH_ne _ _ _ _ m3, updH_ne _ _ _ _ n3]; exact h.ra
  · rw [updH_ne _ _ _ _ m2.symm, updH_same]
    exact congrArg (fun l => some (⟨3, 1, l⟩ : Row)) (List.map_append (f := encInt) (l₁ := us) (l₂ := [o])).symm
theorem plan_c (x : Instance) (d : Nat) (cols : List Column) (cuts : List Cut) (ds : List Decision) (v : List ByteArray) (hlo : LoadsOk x d) (hne : x.types ≠ []) (h : MIn x cuts ds) (hl : cols.length ≤ 1048576) (hs : ∀ c ∈ cols, c.set ≤ 9223372036854775807) (hq : ∀ q ∈ cuts, q.set ≤ 9223372036854775807)
    (hR : RightB x cuts ds) (hv : VarB v) : PC Tryz.prog 46 [.agg (encInstance x), .sl (cols.map encColumn), .sl (cuts.map encCut), .sl (ds.map encDecision), .sl (v.map Go.Aw.D.encStr)] (.tup [.agg (encPlan (planM x d cols cuts ds v).1), int (planM x d cols cuts ds v).2]) := by
  have h1 := h.orders
  have h4 := h.dl
  have hv1 := hv.len
  refine PC.body (c := Tryz.f46.body.getD .skip) (fun t => t == 16) mixed Tryz.func46 rfl (by kernel_rfl) ?_
  unfold Tryz.f46
  simp only [Option.getD_some]
  simp only [go_sem]
  refine anew_i fun i10 h10 => ?_
  have R10 := updH_same noRows i10 (some zPlan)
  generalize updH noRows i10 _ = H0 at R10 ⊢
  clear h10
  simp only [go_sem]
  refine PC.use (build_c x d cols cuts ds hlo hne h hl hs hq) ?_
  have hok := build_ok (x := x) (d := d) (cols := cols) (cuts := cuts) (ds := ds)
  have hlin := build_lin (x := x) (d := d) (cols := cols) (cuts := cuts) (ds := ds)
  unfold planM
  generalize buildM x d cols cuts ds = B at *
  obtain ⟨p, e⟩ := B
  simp only at hok hlin
  simp only [go_sem]
  refine anew_i fun i12 hi120 => ?_
  have ne_i10_i12 : i10 ≠ i12 := ne_new R10 hi120
  simp only [go_sem, R10]
  refine wputE_n (updH_same _ _ _) (by simp [encPLin_len]) ?_
  generalize hGi12 : updH (updH _ i12 _) i12 _ = HGi12
  replace R10 := (congrFun hGi12.symm i10).trans ((updH_ne _ _ _ _ ne_i10_i12).trans ((updH_ne _ _ _ _ ne_i10_i12).trans R10))
  have R12 : HGi12 i12 = some (⟨77, 2, [encPLin p]⟩) := by rw [← hGi12, updH_same]; rfl
  clear hGi12 hi120
  simp only [go_sem, R12, R10]
  refine acond_i (fun hb => ?_) (fun hb => ?_)
  · rw [if_pos (by simpa using hb)]
    simp only [go_sem]
    refine wputE_n R10 (by simp) ?_
    simp only [go_sem]
    exact .refl _
  have he : e = 0 := by simpa using hb
  obtain ⟨_, k1, k2, k3, k4, k5, k6⟩ := hok he hR
  have hp := hlin he hR
  rw [if_neg (by simpa using he)]
  simp only [go_sem, R12, List.length_map]
  refine acond_i (fun hb => ?_) (fun hb => ?_)
  · rw [if_pos (by simp at hb ⊢; omega)]
    simp only [go_sem]
    refine wputE_n R10 (by simp) ?_
    simp only [go_sem]
    exact .refl _
  have hvl : v.length = p.cost.length := by simp at hb; omega
  rw [if_neg (by simp; omega)]
  simp only [go_sem, List.length_map]
  refine ⟨fun ρ H => ∃ (k : Nat), k ≤ v.length ∧ ρ 1 = .sl (cols.map encColumn) ∧ ρ 3 = .sl (ds.map encDecision) ∧ ρ 4 = .sl (v.map Go.Aw.D.encStr) ∧ ρ 5 = .rp (encInstance x) 0 ∧ ρ 10 = .op i10 0 0 ∧ ρ 12 = .op i12 0 0 ∧ ρ 40 = .sl (v.map Go.Aw.D.encStr) ∧ ρ 41 = int (v.length : Nat) ∧ ρ 42 = int k ∧ H i10 = some zPlan ∧ H i12 = some (⟨77, 2, [encPLin p]⟩ : Row) ∧ ∀ s ∈ v.take k, badB s = false, fun ρ _ => v.length - natOf (ρ 42), ⟨0, Nat.zero_le _, by simp only [go_sem], by simp only [go_sem], by simp only [go_sem], by simp only [go_sem], by simp only [go_sem], by simp only [go_sem], by simp only [go_sem], by simp only [go_sem, List.length_map], (by simp only [go_sem]; rfl), R10, R12, by simp⟩, ?_⟩
  rintro ρ H ⟨k, hk, e1, e3, e4, e5, e10, e12, e40, e41, e42, R10, R12, hz⟩
  simp only [go_sem, e1, e3, e4, e5, e10, e12, e40, e41, e42]
  refine acond_i (fun hlt => ?_) (fun hge => ?_)
  · have hlt := ltB (by simpa using hlt)
    obtain ⟨s, hs1⟩ := getIn hlt
    have b1 := inB hlt
    simp only [go_sem, e1, e3, e4, e5, e10, e12, e40, e41, e42, getD_map hs1, b1]
    refine acond_i (fun hb => ?_) (fun hb => ?_)
    · rw [if_pos (List.any_eq_true.2 ⟨s, List.mem_of_getElem? hs1, hb⟩)]
      simp only [go_sem, e1, e3, e4, e5, e10, e12, e40, e41, e42]
      refine wputE_n R10 (by simp) ?_
      simp only [go_sem, e1, e3, e4, e5, e10, e12, e40, e41, e42]
      exact .refl _
    · simp only [go_sem, e1, e3, e4, e5, e10, e12, e40, e41, e42, wrapS (show k ≤ 4611686018427387904 by omega)]
      exact ⟨⟨k + 1, hlt, rfl, R10, R12, take_all' (p := fun s => badB s = false) hs1 hb hz⟩, by simp only [natOf_int]; omega⟩
  have hge := geB hk (by simpa using hge)
  subst hge
  rw [List.take_length] at hz
  rw [if_neg (fun hc => by obtain ⟨s, hs1, hs2⟩ := List.any_eq_true.1 hc; rw [hz s hs1] at hs2; cases hs2)]
  simp only [go_sem, e1, e3, e4, e5, e10, e12, e40, e41, e42, R12]
  refine PC.use (fits_c p v hp hv) ?_
  simp only [go_sem, e1, e3, e4, e5, e10, e12, e40, e41, e42]
  refine acond_i (fun hb => ?_) (fun hb => ?_)
  · rw [if_pos (by simpa using hb)]
    simp only [go_sem, e1, e3, e4, e5, e10, e12, e40, e41, e42]
    refine wputE_n R10 (by simp) ?_
    simp only [go_sem, e1, e3, e4, e5, e10, e12, e40, e41, e42]
    exact .refl _
  rw [if_neg (by simpa using hb)]
  simp only [go_sem, e1, e3, e4, e5, e10, e12, e40, e41, e42]
  refine anew_i fun ja h1a => ?_
  refine anew_i fun jb h2a => ?_
  refine anew_i fun i16 h3a => ?_
  have S : PlS (updH (updH (updH H ja (some ⟨57, 4, []⟩)) jb (some ⟨3, 1, []⟩)) i16 (some (plRow ja jb))) i10 i16 ja jb [] [] := by
    have m1 := mono_new h1a (some (⟨57, 4, []⟩ : Row))
    have m2 := mono_new h2a (some (⟨3, 1, []⟩ : Row))
    have m3 := mono_new h3a (some (plRow ja jb))
    exact ⟨m3 _ _ (m2 _ _ (m1 _ _ R10)), updH_same _ _ _, m3 _ _ (m2 _ _ (updH_same _ _ _)), m3 _ _ (updH_same _ _ _), ne_new (m2 _ _ (m1 _ _ R10)) h3a⟩
  generalize hG : updH (updH (updH H ja _) jb _) i16 _ = G
  replace S : PlS G i10 i16 ja jb [] [] := by rw [← hG]; exact S
  clear hG h1a h2a h3a R10 R12
  simp only [go_sem, e1, e3, e4, e5, e10, e12, e40, e41, e42]
  refine PC.use (allowed_c cols ds hl h4) ?_
  generalize inM cols ds = L at *
  simp only [go_sem, e1, e3, e4, e5, e10, e12, e40, e41, e42, List.length_map]
  refine ⟨fun ρ H => ∃ (k : Nat) (ja : Nat), k ≤ L.length ∧ ρ 1 = .sl (L.map encColumn) ∧ ρ 3 = .sl (ds.map encDecision) ∧ ρ 4 = .sl (v.map Go.Aw.D.encStr) ∧ ρ 5 = .rp (encInstance x) 0 ∧ ρ 10 = .op i10 0 0 ∧ ρ 16 = .op i16 0 0 ∧ ρ 62 = .sl (L.map encColumn) ∧ ρ 63 = int (L.length : Nat) ∧ ρ 64 = int k ∧ PlS H i10 i16 ja jb ((pickTo L v 0 k).map fun c => c.route) [], fun ρ _ => L.length - natOf (ρ 64), ⟨0, ja, Nat.zero_le _, by simp only [go_sem, e3, e4, e5, e10], by simp only [go_sem, e3, e4, e5, e10], by simp only [go_sem, e3, e4, e5, e10], by simp only [go_sem, e3, e4, e5, e10], by simp only [go_sem, e3, e4, e5, e10], by simp only [go_sem, e3, e4, e5, e10], by simp only [go_sem, e3, e4, e5, e10], by simp only [go_sem, List.length_map, e3, e4, e5, e10], (by simp only [go_sem, e3, e4, e5, e10]; rfl), S⟩, ?_⟩
  rintro ρ H ⟨k, ja, hk, e1, e3, e4, e5, e10, e16, e62, e63, e64, S⟩
  simp only [go_sem, e1, e3, e4, e5, e10, e16, e62, e63, e64]
  refine acond_i (fun hlt => ?_) (fun hge => ?_)
  · have hlt := ltB (by simpa using hlt)
    obtain ⟨c, hc⟩ := getIn hlt
    have b1 := inB hlt
    obtain ⟨s, hs1⟩ := getIn (show k < v.length by omega)
    have b2 := inB (show k < v.length by omega)
    have hpk := pickTo_succ (off := 0) hc (by rw [Nat.zero_add]; exact hs1)
    have hpl := pickTo_len L v 0 k
    simp only [go_sem, e1, e3, e4, e5, e10, e16, e62, e63, e64, getD_map hc, b1]
    refine anew_i fun i18 h18 => ?_
    simp only [go_sem, e1, e3, e4, e5, e10, e16, e62, e63, e64]
    refine wputE_n (updH_same _ _ _) (by simp [encColumn_len]) ?_
    have S1 := S.mono (mono_new2 h18 (some (⟨63, 7, [[int 0, int 0, int 0, int 0, int 0, .sl [], .sl []]]⟩ : Row)) (some (⟨63, 7, [encColumn c]⟩ : Row)))
    generalize hG : updH (updH H i18 _) i18 _ = HG
    replace S1 : PlS HG i10 i16 ja jb ((pickTo L v 0 k).map fun c => c.route) [] := by rw [← hG]; exact S1
    have R18 : HG i18 = some (⟨63, 7, [encColumn c]⟩ : Row) := by rw [← hG, updH_same]; rfl
    clear hG h18
    simp only [go_sem, e1, e3, e4, e5, e10, e16, e62, e63, e64, getD_map hs1, b2]
    refine acond_i (fun hb => ?_) (fun hb => ?_)
    · have hb : is1 s = true := hb
      rw [if_pos hb] at hpk
      simp only [go_sem, e1, e3, e4, e5, e10, e16, e62, e63, e64, S1.r16, R18]
      refine wappE_i S1.ra ⟨rfl, rfl⟩ ⟨rfl, trivial⟩ (by simp only [List.length_map, List.length_cons, List.length_nil]; omega) (fun ja' hj => ?_)
      have S2 := S1.appA hj c.route
      have R16' := keep_app (r' := (⟨57, 4, ((pickTo L v 0 k).map fun c => c.route).map encRoute ++ [encRoute c.route]⟩ : Row)) S1.r16 (row_ne' S1.r16 S1.ra rfl).symm hj
      simp only [go_sem, e1, e3, e4, e5, e10, e16, e62, e63, e64]
      refine wputE_1 so50 R16' ⟨by simp, rfl, by simp⟩ ?_
      simp only [go_sem, e1, e3, e4, e5, e10, e16, e62, e63, e64, wrapS (show k ≤ 4611686018427387904 by omega)]
      refine ⟨⟨k + 1, ja', hlt, rfl, ?_⟩, by simp only [natOf_int]; omega⟩
      rw [hpk, List.map_append]
      exact S2
    · have hb : is1 s = false := hb
      rw [if_neg (by rw [hb]; simp), List.append_nil] at hpk
      simp only [go_sem, e1, e3, e4, e5, e10, e16, e62, e63, e64, wrapS (show k ≤ 4611686018427387904 by omega)]
      exact ⟨⟨k + 1, ja, hlt, rfl, by rw [hpk]; exact S1⟩, by simp only [natOf_int]; omega⟩
  have hge := geB hk (by simpa using hge)
  subst hge
  simp only [go_sem, e1, e3, e4, e5, e10, e16, e62, e63, e64]
  refine PC.use (skips_c x ds h1 h4) ?_
  generalize skipsM x ds = K at *
  generalize (pickTo L v 0 L.length).map (fun c => c.route) = rs at *
  simp only [go_sem, e1, e3, e4, e5, e10, e16, e62, e63, e64, List.length_map]
  refine ⟨fun ρ H => ∃ (k : Nat) (jb : Nat), k ≤ K.length ∧ ρ 1 = .sl (L.map encColumn) ∧ ρ 4 = .sl (v.map Go.Aw.D.encStr) ∧ ρ 10 = .op i10 0 0 ∧ ρ 16 = .op i16 0 0 ∧ ρ 84 = .sl (K.map encInt) ∧ ρ 85 = int (K.length : Nat) ∧ ρ 86 = int k ∧ PlS H i10 i16 ja jb rs (pickTo K v L.length k), fun ρ _ => K.length - natOf (ρ 86), ⟨0, jb, Nat.zero_le _, by simp only [go_sem, e1, e4, e10, e16], by simp only [go_sem, e1, e4, e10, e16], by simp only [go_sem, e1, e4, e10, e16], by simp only [go_sem, e1, e4, e10, e16], by simp only [go_sem, e1, e4, e10, e16], by simp only [go_sem, List.length_map, e1, e4, e10, e16], (by simp only [go_sem, e1, e4, e10, e16]; rfl), S⟩, ?_⟩
  rintro ρ H ⟨k, jb, hk, e1, e4, e10, e16, e84, e85, e86, S⟩
  simp only [go_sem, e1, e4, e10, e16, e84, e85, e86]
  refine acond_i (fun hlt => ?_) (fun hge => ?_)
  · have hlt := ltB (by simpa using hlt)
    obtain ⟨o, ho⟩ := getIn hlt
    have b1 := inB hlt
    obtain ⟨s, hs1⟩ := getIn (show L.length + k < v.length by omega)
    have b2 := inB (show L.length + k < v.length by omega)
    have hpk := pickTo_succ (off := L.length) ho hs1
    have hpl := pickTo_len K v L.length k
    have w : IntKind.i64.wrap ((L.length : Int) + (k : Int)) = ((L.length + k : Nat) : Int) := by rw [wrap_in (by omega)]; omega
    simp only [go_sem, e1, e4, e10, e16, e84, e85, e86, getD_map ho, b1, List.length_map, w, getD_map hs1, b2]
    refine acond_i (fun hb => ?_) (fun hb => ?_)
    · have hb : is1 s = true := hb
      rw [if_pos hb] at hpk
      simp only [go_sem, e1, e4, e10, e16, e84, e85, e86, S.r16]
      refine wappE_i S.rb ⟨rfl, rfl⟩ ⟨rfl, trivial⟩ (by simp only [List.length_map, List.length_cons, List.length_nil]; omega) (fun jb' hj => ?_)
      have S2 := S.appB hj o
      have R16' := keep_app (r' := (⟨3, 1, (pickTo K v L.length k).map encInt ++ [[int o]]⟩ : Row)) S.r16 (row_ne' S.r16 S.rb rfl).symm hj
      simp only [go_sem, e1, e4, e10, e16, e84, e85, e86]
      refine wputE_1 so51 R16' ⟨by simp, rfl, by simp⟩ ?_
      simp only [go_sem, e1, e4, e10, e16, e84, e85, e86, wrapS (show k ≤ 4611686018427387904 by omega)]
      refine ⟨⟨k + 1, jb', hlt, rfl, ?_⟩, by simp only [natOf_int]; omega⟩
      rw [hpk]
      exact S2
    · have hb : is1 s = false := hb
      rw [if_neg (by rw [hb]; simp), List.append_nil] at hpk
      simp only [go_sem, e1, e4, e10, e16, e84, e85, e86, wrapS (show k ≤ 4611686018427387904 by omega)]
      exact ⟨⟨k + 1, jb, hlt, rfl, by rw [hpk]; exact S⟩, by simp only [natOf_int]; omega⟩
  have hge := geB hk (by simpa using hge)
  subst hge
  simp only [go_sem, e1, e4, e10, e16, S.r16]
  refine wputE_n S.r10 (by simp) ?_
  have n1 : ja ≠ i10 := row_ne' S.ra S.r10 rfl
  have n2 : jb ≠ i10 := row_ne' S.rb S.r10 rfl
  simp only [go_sem, e1, e4, e10, e16]
  refine .tup _ _ (.cons _ _ _ _ (.agg _ _ (.cons _ _ _ _ (.row _ _ _ ((updH_ne _ _ _ _ n1).trans S.ra) (ConvE.refl _)) (.cons _ _ _ _ (.row _ _ _ ((updH_ne _ _ _ _ n2).trans S.rb) (ConvE.refl _)) .nil))) (.cons _ _ _ _ (.refl _) .nil))
end Go.Proofs.YtbcfajfngdmgnaaGreatDoor.Nu
end
