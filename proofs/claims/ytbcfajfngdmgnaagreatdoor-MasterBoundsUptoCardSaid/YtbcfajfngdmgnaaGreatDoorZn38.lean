/- Texts joined by a program: MaW, MbA, MbB, MaX, MaY. -/
import Derived.Test.YtbcfajfngdmgnaaGreatDoorZn37

section
set_option linter.unusedSimpArgs false
set_option linter.unusedVariables false
namespace Go.Proofs.YtbcfajfngdmgnaaGreatDoor.Nu
open Go.Aw Go.Aw.D Go.Proofs Ty Go.Nu
open Dec (chkR allowsR forbidsR decB hasN)
set_option maxRecDepth 100000
def colRow (r : PRow) (l : List (Int × List Int)) (i : Nat) : PRow := ⟨r.coef ++ l.map fun c => c.2.getD i 0, r.kind, r.right⟩
def addAll (p : List Int × List PRow) (l : List (Int × List Int)) : List Int × List PRow := l.foldl (fun s c => addCols s c.1 c.2) p
theorem addAll_cost : ∀ (l : List (Int × List Int)) (p : List Int × List PRow), (addAll p l).1 = p.1 ++ l.map (·.1)
  | [], p => by simp [addAll]
  | c :: l, p => by
    show (addAll (addCols p c.1 c.2) l).1 = _
    rw [addAll_cost l]
    unfold addCols
    simp
theorem addAll_row : ∀ (l : List (Int × List Int)) (p : List Int × List PRow), (∀ c ∈ l, c.2.length = p.2.length) → ∀ i r, p.2[i]? = some r → (addAll p l).2[i]? = some (colRow r l i)
  | [], p, _, i, r, h => by show p.2[i]? = _; rw [h]; unfold colRow; simp
  | c :: l, p, hl, i, r, h => by
    show (addAll (addCols p c.1 c.2) l).2[i]? = _
    have hi := (List.getElem?_eq_some_iff.1 h).1
    have hg : (addCols p c.1 c.2).2[i]? = some (addR1 r (c.2.getD i 0)) := by
      unfold addCols
      rw [addTo_get, if_pos (by rw [hl c (by simp)]; exact hi), h]; rfl
    rw [addAll_row l _ (fun d hd => by rw [(addCols_len p c.1 c.2).1]; exact hl d (by simp [hd])) i _ hg]
    unfold colRow addR1
    simp
theorem addAll_len : ∀ (l : List (Int × List Int)) (p : List Int × List PRow), (addAll p l).2.length = p.2.length
  | [], p => rfl
  | c :: l, p => by
    show (addAll (addCols p c.1 c.2) l).2.length = _
    rw [addAll_len l, (addCols_len p c.1 c.2).1]
def colA (x : Instance) (cuts : List Cut) (ds : List Decision) (c : Column) : Int × List Int := (c.price, coefsM x c cuts ds)
def colS (x : Instance) (n : Nat) (o : Int) : Int × List Int := (weightM x o, skipCol x o n)
theorem bldA_all (x : Instance) (cuts : List Cut) (ds : List Decision) (l : List Column) : bldA x cuts ds l = addAll ([], rowsM x cuts ds) (l.map (colA x cuts ds)) := by
  unfold bldA addAll; rw [List.foldl_map]; rfl
theorem bldB_all (x : Instance) (n : Nat) (s0 : List Int × List PRow) (l : List Int) : bldB x n s0 l = addAll s0 (l.map (colS x n)) := by
  unfold bldB addAll; rw [List.foldl_map]; rfl
def rowI (x : Instance) (cuts : List Cut) (ds : List Decision) (L : List Column) (K : List Int) (i : Nat) : List Int := L.map (fun c => (coefsM x c cuts ds).getD i 0) ++ K.map fun o => (skipCol x o (rowsN x cuts ds)).getD i 0
theorem build_rows {x : Instance} {d : Nat} {cols : List Column} {cuts : List Cut} {ds : List Decision} (h : (buildM x d cols cuts ds).2 = 0) :
    (buildM x d cols cuts ds).1.cost = (inM cols ds).map (·.price) ++ (skipsM x ds).map (weightM x) ∧
    ∀ (i : Nat) (r : PRow), (rowsM x cuts ds)[i]? = some r → (buildM x d cols cuts ds).1.rows[i]? = some (⟨rowI x cuts ds (inM cols ds) (skipsM x ds) i, r.kind, r.right⟩ : PRow) := by
  have hno : (ordI x).length ≤ rowsN x cuts ds := by unfold rowsN; omega
  unfold buildM at h ⊢
  split at h
  · next h1 => exact absurd h h1
  next h1 =>
  split at h
  · cases h
  next h2 =>
  rw [if_neg h1, if_neg h2]
  show (bldB x (rowsN x cuts ds) (bldA x cuts ds (inM cols ds)) (skipsM x ds)).1 = _ ∧ ∀ (i : Nat) (r : PRow), (rowsM x cuts ds)[i]? = some r → (bldB x (rowsN x cuts ds) (bldA x cuts ds (inM cols ds)) (skipsM x ds)).2[i]? = some (⟨rowI x cuts ds (inM cols ds) (skipsM x ds) i, r.kind, r.right⟩ : PRow)
  generalize inM cols ds = L
  generalize skipsM x ds = K
  rw [bldA_all, bldB_all]
  refine ⟨?_, fun i r hr => ?_⟩
  · rw [addAll_cost, addAll_cost, List.nil_append, List.map_map, List.map_map]; rfl
  · have hc : r.coef = [] := List.eq_nil_of_length_eq_zero ((rowsM_sz x cuts ds).2.2 r (List.mem_of_getElem? hr))
    have e1 := addAll_row (L.map (colA x cuts ds)) ([], rowsM x cuts ds) (fun c hc => by
      obtain ⟨a, _, rfl⟩ := List.mem_map.1 hc
      show (coefsM x a cuts ds).length = (rowsM x cuts ds).length
      rw [coefsM_len, rowsM_len]) i r hr
    rw [addAll_row (K.map (colS x (rowsN x cuts ds))) _ (fun c hc => by
      obtain ⟨a, _, rfl⟩ := List.mem_map.1 hc
      show (skipCol x a (rowsN x cuts ds)).length = _
      rw [skipCol_len x a hno, addAll_len]; exact (rowsM_len x cuts ds).symm) i _ e1]
    unfold colRow rowI
    rw [hc, List.nil_append, List.map_map, List.map_map]; rfl
end Go.Proofs.YtbcfajfngdmgnaaGreatDoor.Nu
end

section
set_option linter.unusedSimpArgs false
set_option linter.unusedVariables false
namespace Go.Proofs.YtbcfajfngdmgnaaGreatDoor.Nu
open Go.Aw Go.Aw.D Go.Proofs Ty Go.Nu
set_option maxRecDepth 100000
def sgnB (k : Int) (s : ByteArray) : Bool := !rightR s || k == 1 && decide (signR s > 0) || k == 3 && decide (signR s < 0)
def signedM (p : PLin) (v : List ByteArray) : Bool := if v.length ≠ p.rows.length then false else !((p.rows.zip v).any fun q => sgnB q.1.kind q.2)
theorem signed25_c (p : PLin) (v : List ByteArray) (hp : LinB p) (hv : VarB v) : PC Tryz.prog 116 [.agg (encPLin p), .sl (v.map Go.Aw.D.encStr)] (boo (signedM p v)) := by
  have hv1 := hv.len
  have hp1 := hp.rows
  unfold signedM
  refine PC.body (c := Tryz.f116.body.getD .skip) (fun _ => false) mixed Tryz.func116 rfl (by kernel_rfl) ?_
  unfold Tryz.f116
  simp only [Option.getD_some]
  simp only [go_sem]
  refine acond_i (fun h1 => ?_) (fun h1 => ?_)
  · rw [if_pos (by simp at h1; omega)]
    simp only [go_sem]
    exact .refl _
  have hl : v.length = p.rows.length := by simp at h1; omega
  rw [if_neg (by simpa using hl)]
  simp only [go_sem]
  refine ⟨fun ρ H => ∃ (k : Nat), k ≤ v.length ∧ ρ 1 = .sl (v.map Go.Aw.D.encStr) ∧ ρ 2 = .rp (encPLin p) 0 ∧ ρ 5 = int k ∧ ∀ q ∈ (p.rows.zip v).take k, sgnB q.1.kind q.2 = false, fun ρ _ => v.length - natOf (ρ 5), ⟨0, Nat.zero_le _, by simp only [go_sem], by simp only [go_sem], (by simp only [go_sem]; rfl), by simp⟩, ?_⟩
  rintro ρ H ⟨k, hk, e1, e2, e5, hz⟩
  simp only [go_sem, e1, e2, e5]
  refine acond_i (fun hlt => ?_) (fun hge => ?_)
  · have hlt := ltB (by simpa using hlt)
    obtain ⟨s, hs⟩ := getIn hlt
    obtain ⟨r, hr⟩ := getIn (show k < p.rows.length by omega)
    have b1 := inB hlt
    have b2 := inB (show k < p.rows.length by omega)
    have hss := hv.size s (List.mem_of_getElem? hs)
    have hzz : (p.rows.zip v)[k]? = some (r, s) := by rw [List.getElem?_zip_eq_some]; exact ⟨hr, hs⟩
    simp only [go_sem, e1, e2, e5, getD_map hs, b1]
    refine PC.use (sign4_c s hss) ?_
    simp only [go_sem, e1, e2, e5, getD_map hs, b1]
    refine PC.use (right4_c s hss) ?_
    simp only [go_sem, e1, e2, e5, getD_map hs, b1, getD_map hr, b2]
    have hcd : sgnB r.kind s = (!rightR s || r.kind == 1 && decide (signR s > 0) || r.kind == 3 && decide (signR s < 0)) := rfl
    refine acond_i (fun hb => ?_) (fun hb => ?_)
    · rw [show ((p.rows.zip v).any fun q => sgnB q.1.kind q.2) = true from List.any_eq_true.2 ⟨(r, s), List.mem_of_getElem? hzz, hcd.trans hb⟩]
      simp only [go_sem]
      exact .refl _
    · simp only [go_sem, e1, e2, e5, wrapS (show k ≤ 4611686018427387904 by omega)]
      exact ⟨⟨k + 1, hlt, rfl, take_all' (p := fun q : PRow × ByteArray => sgnB q.1.kind q.2 = false) hzz (hcd.trans hb) hz⟩, by simp only [natOf_int]; omega⟩
  have hge := geB hk (by simpa using hge)
  subst hge
  rw [List.take_of_length_le (by rw [List.length_zip]; omega)] at hz
  rw [show ((p.rows.zip v).any fun q => sgnB q.1.kind q.2) = false from List.any_eq_false.2 fun q hq => by rw [hz q hq]; simp]
  simp only [go_sem, e1, e2, e5]
  exact .refl _
def colP (p : PLin) (i : Nat) : List Int := p.rows.map fun r => r.coef.getD i 0
theorem column25_c (p : PLin) (i : Nat) (h1 : p.rows.length ≤ 1048576) (h2 : i ≤ 1048576) (h3 : ∀ r ∈ p.rows, r.coef.length ≤ 1048576) : PC Tryz.prog 176 [.agg (encPLin p), int (i : Nat)] (.sl ((colP p i).map encInt)) := by
  refine PC.body (c := Tryz.f176.body.getD .skip) (fun t => t == 5) mixed Tryz.func176 rfl (by kernel_rfl) ?_
  unfold Tryz.f176
  simp only [Option.getD_some]
  simp only [go_sem]
  refine anew_i fun j hj0 => ?_
  generalize hGj : updH _ j _ = HGj
  have R : HGj j = some (iRow []) := by rw [← hGj, updH_same]; rfl
  clear hGj hj0
  simp only [go_sem, R]
  refine ⟨fun ρ H => ∃ (k : Nat) (j : Nat), k ≤ p.rows.length ∧ ρ 1 = int (i : Nat) ∧ ρ 2 = .rp (encPLin p) 0 ∧ ρ 6 = int k ∧ ρ 5 = .os j ∧ H j = some (iRow ((p.rows.take k).map fun r => r.coef.getD i 0)), fun ρ _ => p.rows.length - natOf (ρ 6), ⟨0, j, Nat.zero_le _, by simp only [go_sem], by simp only [go_sem], (by simp only [go_sem]; rfl), by simp only [go_sem], R⟩, ?_⟩
  rintro ρ H ⟨k, j, hk, e1, e2, e6, e5, R⟩
  simp only [go_sem, e1, e2, e6, e5]
  refine acond_i (fun hlt => ?_) (fun hge => ?_)
  · have hlt := ltB (by simpa using hlt)
    obtain ⟨r, hr⟩ := getIn hlt
    have b1 := inB hlt
    have hrl := h3 r (List.mem_of_getElem? hr)
    have hs : (p.rows.take (k + 1)).map (fun r => r.coef.getD i 0) = (p.rows.take k).map (fun r => r.coef.getD i 0) ++ [r.coef.getD i 0] := by rw [take_succ hr, List.map_append]; rfl
    have hln : ((p.rows.take k).map fun r => r.coef.getD i 0).length ≤ k := by rw [List.length_map, List.length_take]; omega
    generalize hP : (p.rows.take k).map (fun r => r.coef.getD i 0) = P at *
    simp only [go_sem, e1, e2, e6, e5, getD_map hr, b1, List.length_map]
    refine acond_i (fun hb => ?_) (fun hb => ?_)
    · have hi : i < r.coef.length := by simpa using hb
      obtain ⟨n, hn⟩ := getIn hi
      have b2 := inB hi
      simp only [go_sem, e1, e2, e6, e5, getD_map hr, b1, getD_map hn, b2]
      refine wappE_i R ⟨rfl, rfl⟩ ⟨rfl, trivial⟩ (by simp only [List.length_map, List.length_cons, List.length_nil]; omega) (fun j' hj' => ?_)
      simp only [go_sem, e1, e2, e6, e5, wrapS (show k ≤ 4611686018427387904 by omega)]
      refine ⟨⟨k + 1, j', hlt, rfl, rfl, ?_⟩, by simp only [natOf_int]; omega⟩
      rw [hs, List.getD, hn]
      exact row_appG rfl
    · have hi : ¬ i < r.coef.length := by simpa using hb
      simp only [go_sem, e1, e2, e6, e5]
      refine wappE_i R ⟨rfl, rfl⟩ ⟨rfl, trivial⟩ (by simp only [List.length_map, List.length_cons, List.length_nil]; omega) (fun j' hj' => ?_)
      simp only [go_sem, e1, e2, e6, e5, wrapS (show k ≤ 4611686018427387904 by omega)]
      refine ⟨⟨k + 1, j', hlt, rfl, rfl, ?_⟩, by simp only [natOf_int]; omega⟩
      rw [hs, List.getD, List.getElem?_eq_none (by omega)]
      exact row_appG rfl
  have hge := geB hk (by simpa using hge)
  subst hge
  rw [List.take_length] at R
  simp only [go_sem, e1, e2, e6, e5]
  exact .row _ _ _ R (ConvE.refl _)
theorem rights25_c (p : PLin) (h1 : p.rows.length ≤ 1048576) : PC Tryz.prog 118 [.agg (encPLin p)] (.sl ((p.rows.map (·.right)).map encInt)) := by
  refine PC.body (c := Tryz.f118.body.getD .skip) (fun t => t == 3) mixed Tryz.func118 rfl (by kernel_rfl) ?_
  unfold Tryz.f118
  simp only [Option.getD_some]
  simp only [go_sem]
  refine anew_i fun j hj0 => ?_
  generalize hGj : updH _ j _ = HGj
  have R : HGj j = some (iRow []) := by rw [← hGj, updH_same]; rfl
  clear hGj hj0
  simp only [go_sem, R]
  refine ⟨fun ρ H => ∃ (k : Nat) (j : Nat), k ≤ p.rows.length ∧ ρ 1 = .rp (encPLin p) 0 ∧ ρ 4 = int k ∧ ρ 3 = .os j ∧ H j = some (iRow ((p.rows.take k).map (·.right))), fun ρ _ => p.rows.length - natOf (ρ 4), ⟨0, j, Nat.zero_le _, by simp only [go_sem], (by simp only [go_sem]; rfl), by simp only [go_sem], R⟩, ?_⟩
  rintro ρ H ⟨k, j, hk, e1, e4, e3, R⟩
  simp only [go_sem, e1, e4, e3]
  refine acond_i (fun hlt => ?_) (fun hge => ?_)
  · have hlt := ltB (by simpa using hlt)
    obtain ⟨r, hr⟩ := getIn hlt
    have b1 := inB hlt
    have hs : (p.rows.take (k + 1)).map (·.right) = (p.rows.take k).map (·.right) ++ [r.right] := by rw [take_succ hr, List.map_append]; rfl
    have hln : ((p.rows.take k).map (·.right)).length ≤ k := by rw [List.length_map, List.length_take]; omega
    generalize hP : (p.rows.take k).map (·.right) = P at *
    simp only [go_sem, e1, e4, e3, getD_map hr, b1]
    refine wappE_i R ⟨rfl, rfl⟩ ⟨rfl, trivial⟩ (by simp only [List.length_map, List.length_cons, List.length_nil]; omega) (fun j' hj' => ?_)
    simp only [go_sem, e1, e4, e3, wrapS (show k ≤ 4611686018427387904 by omega)]
    refine ⟨⟨k + 1, j', hlt, rfl, rfl, ?_⟩, by simp only [natOf_int]; omega⟩
    rw [hs]
    exact row_appG rfl
  have hge := geB hk (by simpa using hge)
  subst hge
  rw [List.take_length] at R
  simp only [go_sem, e1, e4, e3]
  exact .row _ _ _ R (ConvE.refl _)
def overM (p : PLin) (v : List ByteArray) (i : Nat) : Bool := (timesR (colP p i) v).2 != 0 || decide (cmpR (timesR (colP p i) v).1 (zed (p.cost.getD i 0)) > 0)
def belowM (p : PLin) (v : List ByteArray) : Bool := !((List.range p.cost.length).any (overM p v))
theorem below25_c (p : PLin) (v : List ByteArray) (hp : LinB p) (hcl : ∀ r ∈ p.rows, r.coef.length ≤ 1048576) (hc : ∀ n ∈ p.cost, i64I n) (hv : VarB v) : PC Tryz.prog 117 [.agg (encPLin p), .sl (v.map Go.Aw.D.encStr), boo true] (boo (belowM p v)) := by
  have hp2 := hp.cost
  unfold belowM
  refine PC.body (c := Tryz.f117.body.getD .skip) (fun _ => false) mixed Tryz.func117 rfl (by kernel_rfl) ?_
  unfold Tryz.f117
  simp only [Option.getD_some]
  simp only [go_sem]
  refine ⟨fun ρ H => ∃ (k : Nat), k ≤ p.cost.length ∧ ρ 1 = .sl (v.map Go.Aw.D.encStr) ∧ ρ 2 = boo true ∧ ρ 3 = .rp (encPLin p) 0 ∧ ρ 7 = int k ∧ ∀ q ∈ (List.range p.cost.length).take k, overM p v q = false, fun ρ _ => p.cost.length - natOf (ρ 7), ⟨0, Nat.zero_le _, by simp only [go_sem], by simp only [go_sem], by simp only [go_sem], (by simp only [go_sem]; rfl), by simp⟩, ?_⟩
  rintro ρ H ⟨k, hk, e1, e2, e3, e7, hz⟩
  simp only [go_sem, e1, e2, e3, e7]
  refine acond_i (fun hlt => ?_) (fun hge => ?_)
  · have hlt := ltB (by simpa using hlt)
    obtain ⟨n, hn⟩ := getIn hlt
    have b1 := inB hlt
    have hni := hc n (List.mem_of_getElem? hn)
    have hkr : (List.range p.cost.length)[k]? = some k := List.getElem?_range hlt
    have hts := times_size (ns := colP p k) (xs := v)
    have hzs := zed64_size hni.1 hni.2
    have hov : overM p v k = ((timesR (colP p k) v).2 != 0 || decide (cmpR (timesR (colP p k) v).1 (zed n) > 0)) := by unfold overM; rw [List.getD, hn]; rfl
    have hti := times4_c (colP p k) v (fun m hm => by
      unfold colP at hm
      obtain ⟨r, hr, rfl⟩ := List.mem_map.1 hm
      by_cases hk2 : k < r.coef.length
      · have := hp.coef r hr (r.coef.getD k 0) (by rw [List.getD, List.getElem?_eq_getElem hk2]; exact List.getElem_mem _)
        exact this
      · rw [List.getD, List.getElem?_eq_none (by omega)]; exact ⟨by decide, by decide⟩) hv.len hv.size
    generalize timesR (colP p k) v = T at *
    obtain ⟨t, e⟩ := T
    simp only at hov hts hti
    simp only [go_sem, e1, e2, e3, e7]
    refine PC.use (of4_c 0 (by decide) (by decide)) ?_
    simp only [go_sem, e1, e2, e3, e7]
    refine acond_i (fun _ => ?_) (fun hb => by cases hb)
    simp only [go_sem, e1, e2, e3, e7, getD_map hn, b1]
    refine PC.use (of4_c n hni.1 hni.2) ?_
    simp only [go_sem, e1, e2, e3, e7]
    refine PC.use (column25_c p k hp.rows (by omega) hcl) ?_
    simp only [go_sem, e1, e2, e3, e7]
    refine PC.use hti ?_
    simp only [go_sem, e1, e2, e3, e7]
    refine ⟨_, fun _ => (compare4_c t (zed n) (by omega) (by omega)).q rfl, ?_⟩
    simp only [go_sem, e1, e2, e3, e7]
    refine acond_i (fun hb => ?_) (fun hb => ?_)
    · rw [show (List.range p.cost.length).any (overM p v) = true from List.any_eq_true.2 ⟨k, List.mem_of_getElem? hkr, by rw [hov]; exact hb⟩]
      simp only [go_sem]
      exact .refl _
    · simp only [go_sem, e1, e2, e3, e7, wrapS (show k ≤ 4611686018427387904 by omega)]
      exact ⟨⟨k + 1, hlt, rfl, take_all' (p := fun q => overM p v q = false) hkr (by rw [hov]; exact hb) hz⟩, by simp only [natOf_int]; omega⟩
  have hge := geB hk (by simpa using hge)
  subst hge
  rw [List.take_of_length_le (by rw [List.length_range]; exact Nat.le_refl _)] at hz
  rw [show (List.range p.cost.length).any (overM p v) = false from List.any_eq_false.2 fun q hq => by rw [hz q hq]; simp]
  simp only [go_sem, e1, e2, e3, e7]
  exact .refl _
def provesM (p : PLin) (v : List ByteArray) : ByteArray × Bool := if (!signedM p v || !belowM p v) = true then (emp, false) else ((timesR (p.rows.map (·.right)) v).1, (timesR (p.rows.map (·.right)) v).2 == 0)
theorem proves25_c (p : PLin) (v : List ByteArray) (hp : LinB p) (hcl : ∀ r ∈ p.rows, r.coef.length ≤ 1048576) (hc : ∀ n ∈ p.cost, i64I n) (hv : VarB v) : PC Tryz.prog 55 [.agg (encPLin p), .sl (v.map Go.Aw.D.encStr)] (.tup [str (provesM p v).1, boo (provesM p v).2]) := by
  unfold provesM
  refine PC.body (c := Tryz.f55.body.getD .skip) (fun _ => false) mixed Tryz.func55 rfl (by kernel_rfl) ?_
  unfold Tryz.f55
  simp only [Option.getD_some]
  simp only [go_sem]
  refine PC.use (signed25_c p v hp hv) ?_
  simp only [go_sem]
  refine ⟨_, fun _ => (below25_c p v hp hcl hc hv).q rfl, ?_⟩
  simp only [go_sem]
  refine acond_i (fun hb => ?_) (fun hb => ?_)
  · rw [if_pos hb]
    simp only [go_sem]
    exact .refl _
  rw [if_neg (by rw [hb]; simp)]
  simp only [go_sem]
  refine PC.use (rights25_c p hp.rows) ?_
  simp only [go_sem]
  refine PC.use (times4_c (p.rows.map (·.right)) v (fun n hn => by
    obtain ⟨r, hr, rfl⟩ := List.mem_map.1 hn
    exact hp.right r hr) hv.len hv.size) ?_
  simp only [go_sem]
  exact .refl _
end Go.Proofs.YtbcfajfngdmgnaaGreatDoor.Nu
end

section
set_option linter.unusedSimpArgs false
set_option linter.unusedVariables false
namespace Go.Proofs.YtbcfajfngdmgnaaGreatDoor.Nu
open Go.Aw Go.Aw.D Go.Proofs Ty Go.Nu
open Dec (chkR allowsR forbidsR decB hasN)
set_option maxRecDepth 100000
def Sm (A D : Nat) (x : Rat) : Prop := x.den ≤ D ∧ x.num.natAbs ≤ A * x.den
theorem mk_parts {n : Int} {d : Nat} (hd : d ≠ 0) : ∃ g : Nat, 0 < g ∧ n.natAbs = (mkRat n d).num.natAbs * g ∧ d = (mkRat n d).den * g := by
  have h1 := low_num (n := n) hd
  have h2 := low_den (n := n) hd
  have hg := gcd_pos (n := n) hd
  have dn := Nat.gcd_dvd_left n.natAbs d
  have dd := Nat.gcd_dvd_right n.natAbs d
  refine ⟨Nat.gcd n.natAbs d, hg, ?_, ?_⟩
  · generalize Nat.gcd n.natAbs d = g at *
    rw [← h1, Int.fdiv_eq_ediv_of_nonneg _ (Int.natCast_nonneg g)]
    have hdvd : (g : Int) ∣ n := Int.dvd_natAbs.1 (Int.natCast_dvd_natCast.2 dn)
    rw [Int.natAbs_ediv_of_dvd hdvd, Int.natAbs_natCast]
    exact (Nat.div_mul_cancel dn).symm
  · generalize Nat.gcd n.natAbs d = g at *
    rw [Int.fdiv_eq_ediv_of_nonneg _ (Int.natCast_nonneg g), ← Int.natCast_ediv] at h2
    have : d / g = (mkRat n d).den := Int.ofNat.inj h2
    rw [← this]
    exact (Nat.div_mul_cancel dd).symm
theorem sm_add {A B D F : Nat} {x y : Rat} (hx : Sm A D x) (hy : Sm B F y) : Sm (A + B) (D * F) (x + y) := by
  obtain ⟨g, hg, e1, e2⟩ := mk_parts (n := x.num * y.den + y.num * x.den) (den_ne x y)
  rw [← add_mk] at e1 e2
  have hb : (x.num * y.den + y.num * x.den).natAbs ≤ (A + B) * (x.den * y.den) := by
    refine Nat.le_trans (Int.natAbs_add_le _ _) ?_
    rw [Int.natAbs_mul, Int.natAbs_mul, Int.natAbs_natCast, Int.natAbs_natCast, Nat.add_mul]
    refine Nat.add_le_add ?_ ?_
    · rw [← Nat.mul_assoc]; exact Nat.mul_le_mul_right _ hx.2
    · rw [Nat.mul_comm x.den, ← Nat.mul_assoc]; exact Nat.mul_le_mul_right _ hy.2
  refine ⟨?_, ?_⟩
  · have : (x + y).den ≤ x.den * y.den := by
      calc (x + y).den ≤ (x + y).den * g := Nat.le_mul_of_pos_right _ hg
        _ = x.den * y.den := e2.symm
    exact Nat.le_trans this (Nat.mul_le_mul hx.1 hy.1)
  · rw [e1, e2, ← Nat.mul_assoc] at hb
    exact Nat.le_of_mul_le_mul_right hb hg
theorem sm_mono {A B D F : Nat} {x : Rat} (h : Sm A D x) (h1 : A ≤ B) (h2 : D ≤ F) : Sm B F x := ⟨Nat.le_trans h.1 h2, Nat.le_trans h.2 (Nat.mul_le_mul_right _ h1)⟩
theorem sm_small {A D : Nat} {x : Rat} (h : Sm A D x) (h1 : A * D < maxN) (h2 : D < maxN) : SmallR x :=
  ⟨Nat.lt_of_le_of_lt (Nat.le_trans h.2 (Nat.mul_le_mul_left _ h.1)) h1, Nat.lt_of_le_of_lt h.1 h2⟩
theorem sm_parts {A B D F : Nat} {x y : Rat} (hx : Sm A D x) (hy : Sm B F y) : (x.num * y.den).natAbs ≤ A * (D * F) ∧ (y.num * x.den).natAbs ≤ B * (D * F) ∧ (x.num * y.den + y.num * x.den).natAbs ≤ (A + B) * (D * F) ∧ x.den * y.den ≤ D * F := by
  have hd := Nat.mul_le_mul hx.1 hy.1
  have h1 : (x.num * y.den).natAbs ≤ A * (x.den * y.den) := by
    rw [Int.natAbs_mul, Int.natAbs_natCast, ← Nat.mul_assoc]; exact Nat.mul_le_mul_right _ hx.2
  have h2 : (y.num * x.den).natAbs ≤ B * (x.den * y.den) := by
    rw [Int.natAbs_mul, Int.natAbs_natCast, Nat.mul_comm x.den, ← Nat.mul_assoc]; exact Nat.mul_le_mul_right _ hy.2
  refine ⟨Nat.le_trans h1 (Nat.mul_le_mul_left _ hd), Nat.le_trans h2 (Nat.mul_le_mul_left _ hd), ?_, hd⟩
  refine Nat.le_trans (Int.natAbs_add_le _ _) ?_
  rw [Nat.add_mul]
  exact Nat.add_le_add (Nat.le_trans h1 (Nat.mul_le_mul_left _ hd)) (Nat.le_trans h2 (Nat.mul_le_mul_left _ hd))
theorem addR_sm {A B D F : Nat} {x y : Rat} (hx : Sm A D x) (hy : Sm B F y) (h : (A + B) * (D * F) < maxN) (h2 : D * F < maxN) (sx : SmallR x) (sy : SmallR y) : addR (ratS x) (ratS y) = (ratS (x + y), 0) := by
  obtain ⟨p1, p2, p3, p4⟩ := sm_parts hx hy
  unfold addR
  rw [rightR_ratS sx, rightR_ratS sy, Bool.and_self, if_pos rfl, valR_ratS, valR_ratS]
  refine sumR_ok (Nat.lt_of_le_of_lt p1 (Nat.lt_of_le_of_lt (Nat.mul_le_mul_right _ (Nat.le_add_right _ _)) h)) (Nat.lt_of_le_of_lt p2 (Nat.lt_of_le_of_lt (Nat.mul_le_mul_right _ (Nat.le_add_left _ _)) h)) (Nat.lt_of_le_of_lt p3 h) (Nat.lt_of_le_of_lt p4 h2)
theorem sm_text {s : ByteArray} (hr : rightR s = true) (hs : s.size ≤ 60) : Sm (10 ^ 60) (10 ^ 60) (valR s) := by
  obtain ⟨x, rfl, _, _, _⟩ := right_parts hr
  rw [valR_ratS]
  have hz : ∀ n : Int, n.natAbs < 10 ^ 60 ∨ 60 < (zed n).size := by
    intro n
    by_cases h : (Lib.decDigits n.natAbs).length ≤ 60
    · exact .inl ((dec_len_le (by decide)).1 h)
    · refine .inr ?_
      have h1 : (digZ (zed n)).size = (Lib.decDigits n.natAbs).length := by rw [digZ_zed, size_dec]
      have h2 : (digZ (zed n)).size ≤ (zed n).size := by
        unfold digZ
        split
        · rw [← bl_size, bl_mk, List.length_drop, bl_size]; omega
        · exact Nat.le_refl _
      omega
  have hden : 1 ≤ x.den := x.den_pos
  have key : x.num.natAbs < 10 ^ 60 ∧ x.den ≤ 10 ^ 60 := by
    unfold ratS at hs
    split at hs
    · next h1 =>
      refine ⟨(hz x.num).resolve_right (by omega), ?_⟩
      rw [h1]; exact Nat.pow_pos (by decide)
    · rw [ByteArray.size_append, ByteArray.size_append] at hs
      refine ⟨(hz x.num).resolve_right (by omega), ?_⟩
      have : (dec x.den).size ≤ 60 := by omega
      rw [size_dec] at this
      exact Nat.le_of_lt ((dec_len_le (by decide)).1 this)
  refine ⟨key.2, ?_⟩
  exact Nat.le_trans (Nat.le_of_lt key.1) (Nat.le_mul_of_pos_right _ hden)
theorem sm_zero {A D : Nat} (h : 1 ≤ D) : Sm A D 0 := ⟨h, Nat.zero_le _⟩
theorem mul01 {n : Int} (hn : n = 0 ∨ n = 1) {y : Rat} (hy : SmallR y) : mulR (zed n) (ratS y) = (ratS ((n : Rat) * y), 0) ∧ ((n : Rat) * y = 0 ∨ (n : Rat) * y = y) := by
  have hm : n.natAbs < maxN := max_big (by rcases hn with e | e <;> rw [e] <;> decide)
  refine ⟨?_, ?_⟩
  · unfold mulR
    rw [right_zed hm, rightR_ratS hy, Bool.and_self, if_pos rfl, val_zed, valR_ratS]
    unfold prodR
    rw [Rat.num_intCast, Rat.den_intCast, bigI_iff.2 (show (n * y.num).natAbs < maxN by
      rcases hn with e | e <;> rw [e]
      · rw [Int.zero_mul]; exact max_pos
      · rw [Int.one_mul]; exact hy.1), bigI_iff.2 (show (((1 : Nat) : Int) * (y.den : Int)).natAbs < maxN by
      rw [show ((1 : Nat) : Int) = 1 from rfl, Int.one_mul, Int.natAbs_natCast]; exact hy.2)]
    rfl
  · rcases hn with e | e <;> rw [e]
    · exact .inl (Rat.zero_mul y)
    · exact .inr (Rat.one_mul y)
theorem times_sm (E : Nat) (hE : 1 ≤ E) : ∀ (ns : List Int) (v : List ByteArray) (t : Rat) (A D : Nat), (∀ n ∈ ns, n = 0 ∨ n = 1) → (∀ s ∈ v, rightR s = true ∧ Sm E E (valR s)) → Sm A D t → 1 ≤ D → (A + ns.length * E) * (D * E ^ ns.length) < maxN → D * E ^ ns.length < maxN →
    ∃ r : Rat, timesF (ns.zip v) (ratS t) = (ratS r, 0) ∧ Sm (A + ns.length * E) (D * E ^ ns.length) r := by
  intro ns
  induction ns with
  | nil =>
    intro v t A D _ _ ht hD _ _
    exact ⟨t, rfl, by simpa using ht⟩
  | cons n l ih =>
    intro v t A D hn hv ht hD h1 h2
    have hEl : 1 ≤ E ^ (l.length + 1) := Nat.pow_pos hE
    cases v with
    | nil => exact ⟨t, rfl, sm_mono ht (Nat.le_add_right _ _) (Nat.le_mul_of_pos_right _ hEl)⟩
    | cons s v =>
      obtain ⟨hsr, hsm⟩ := hv s (by simp)
      have hss := small_valR hsr
      have hrs := ratS_valR hsr
      generalize valR s = y at hsm hss hrs
      obtain ⟨hm, hy⟩ := mul01 (hn n (by simp)) hss
      rw [List.length_cons] at h1 h2
      have eA : A + E + l.length * E = A + (l.length + 1) * E := by rw [Nat.add_mul, Nat.one_mul]; omega
      have eD : D * E * E ^ l.length = D * E ^ (l.length + 1) := by rw [Nat.pow_succ, Nat.mul_assoc, Nat.mul_comm E]
      have hEl1 : 1 ≤ E ^ l.length := Nat.pow_pos hE
      have hDE : D * E ≤ D * E ^ (l.length + 1) := by rw [← eD]; exact Nat.le_mul_of_pos_right _ hEl1
      have hu : Sm E E ((n : Rat) * y) := by
        rcases hy with e | e <;> rw [e]
        · exact sm_zero hE
        · exact hsm
      have hus : SmallR ((n : Rat) * y) := by
        rcases hy with e | e <;> rw [e]
        · exact ⟨max_pos, lt_max (k := 1) (by decide) (by decide)⟩
        · exact hss
      generalize (n : Rat) * y = u at hm hu hus
      have hbig : (A + E) * (D * E) < maxN := Nat.lt_of_le_of_lt (Nat.mul_le_mul (by rw [← eA]; omega) hDE) h1
      have hts : SmallR t := sm_small ht (Nat.lt_of_le_of_lt (Nat.mul_le_mul (Nat.le_add_right _ _) (Nat.le_mul_of_pos_right _ hE)) hbig) (Nat.lt_of_le_of_lt (Nat.le_mul_of_pos_right _ (by omega)) h2)
      have ha := addR_sm ht hu hbig (Nat.lt_of_le_of_lt hDE h2) hts hus
      have hsum := sm_add ht hu
      obtain ⟨r, hr1, hr2⟩ := ih v (t + u) (A + E) (D * E) (fun m hm => hn m (by simp [hm])) (fun m hm => hv m (by simp [hm])) hsum (Nat.le_trans hD (Nat.le_mul_of_pos_right _ hE)) (by rw [eA, eD]; exact h1) (by rw [eD]; exact h2)
      rw [eA, eD] at hr2
      refine ⟨r, ?_, hr2⟩
      rw [List.zip_cons_cons]
      unfold timesF
      rw [← hrs]
      simp only [hm, ha]
      rw [if_neg (by decide), if_neg (by decide)]
      exact hr1
end Go.Proofs.YtbcfajfngdmgnaaGreatDoor.Nu
end

section
set_option linter.unusedSimpArgs false
set_option linter.unusedVariables false
namespace Go.Proofs.YtbcfajfngdmgnaaGreatDoor.Nu
open Go.Aw Go.Aw.D Go.Proofs Ty Go.Nu
open Dec (chkR allowsR forbidsR decB hasN)
set_option maxRecDepth 100000
def covI (L : List Column) (K : List Int) (o : Int) : List Int := L.map (fun c => bitI (hasR c.set o)) ++ K.map fun s => bitI (s == o)
end Go.Proofs.YtbcfajfngdmgnaaGreatDoor.Nu
end

section
set_option linter.unusedSimpArgs false
set_option linter.unusedVariables false
namespace Go.Proofs.YtbcfajfngdmgnaaGreatDoor.Nu
open Go.Aw Go.Aw.D Go.Proofs Ty Go.Nu
open Dec (chkR allowsR forbidsR decB hasN)
set_option maxRecDepth 100000
theorem getD_of {l : List Int} {j : Nat} {n : Int} (h : l[j]? = some n) : l.getD j 0 = n := by rw [List.getD, h]; rfl
def typI (L : List Column) (t : Nat) : List Int := L.map fun c => bitI (c.type == (t : Int))
structure Serve (x : Instance) (L : List Column) (K : List Int) (v : List ByteArray) (cost : List Int) : Prop where
  len : v.length = L.length + K.length
  bad : ∀ s ∈ v, badB s = false
  cov : ∀ (n : Nat) (o : Order), x.orders[n]? = some o → o.off = false → dotI (covI L K n) v = 1
  type : ∀ c ∈ L, 0 ≤ c.type ∧ c.type < (x.types.length : Int)
  cnt : ∀ (t : Nat) (ty : VType), x.types[t]? = some ty → dotI (typI L t) (v.take L.length) ≤ ty.count
  pen : ∀ u ∈ K, (unserved20 x u).2 = 0 ∧ (weightP (unserved20 x u).1).2 = 0 ∧ 0 ≤ weightM x u ∧ weightM x u ≤ 17592186044416
  cost : cost = L.map (·.price) ++ K.map (weightM x)
theorem skip_pen {x : Instance} {ds : List Decision} (hA : Acc x) {u : Int} (h : u ∈ skipsM x ds) : (unserved20 x u).2 = 0 ∧ (weightP (unserved20 x u).1).2 = 0 ∧ 0 ≤ weightM x u ∧ weightM x u ≤ 17592186044416 := by
  obtain ⟨h1, h2⟩ := List.mem_filter.1 h
  obtain ⟨n, o, rfl, hn, ho, hf⟩ := ordI_in h1
  unfold skipB at h2
  simp only [Bool.and_eq_true, decide_eq_true_eq] at h2
  have hpen := h2.1
  have hp : penAt x (n : Int) = o.penalty := by unfold penAt; rw [orderAt_get ho]
  rw [hp] at hpen
  have hpb := (hA.order o (List.mem_of_getElem? ho)).penalty
  have e1 : unserved20 x (n : Int) = (⟨o.penalty, if (o.now != -1) = true then 1 else 0, 0, 0⟩, 0) := by
    unfold unserved20
    have hb : badNo (n : Int) x.orders.length = false := by unfold badNo; simp; omega
    rw [hb, if_neg (by simp), Int.toNat_natCast, ho]
    show unservedO o = _
    unfold unservedO
    rw [hf, if_neg (by simp), if_neg (by simp; omega)]
  have hm : (if (o.now != -1) = true then (1 : Int) else 0) = 0 ∨ (if (o.now != -1) = true then (1 : Int) else 0) = 1 := by split <;> simp
  unfold weightM
  rw [e1]
  generalize (if (o.now != -1) = true then (1 : Int) else 0) = m at *
  have c1 : (decide (o.penalty < 0) || decide (m < 0) || decide ((0 : Int) < 0) || decide ((0 : Int) < 0)) = false := by simp; omega
  have c2 : (decide (o.penalty > 1073741824) || decide (m ≥ 16) || decide ((0 : Int) ≥ 16) || decide ((0 : Int) ≥ 65536)) = false := by simp; omega
  have ew : weightP ⟨o.penalty, m, 0, 0⟩ = (wExp ⟨o.penalty, m, 0, 0⟩, 0) := by
    unfold weightP
    simp only [c1, c2]
    rfl
  rw [ew]
  refine ⟨rfl, rfl, ?_⟩
  show 0 ≤ wExp ⟨o.penalty, m, 0, 0⟩ ∧ wExp ⟨o.penalty, m, 0, 0⟩ ≤ 17592186044416
  have a1 : IntKind.i64.wrap (o.penalty * 16) = o.penalty * 16 := wrap_in (by omega)
  have a2 : IntKind.i64.wrap (o.penalty * 16 + m) = o.penalty * 16 + m := wrap_in (by omega)
  have a3 : IntKind.i64.wrap ((o.penalty * 16 + m) * 16) = (o.penalty * 16 + m) * 16 := wrap_in (by omega)
  have a4 : IntKind.i64.wrap ((o.penalty * 16 + m) * 16 + 0) = (o.penalty * 16 + m) * 16 + 0 := wrap_in (by omega)
  have a5 : IntKind.i64.wrap (((o.penalty * 16 + m) * 16 + 0) * 65536) = ((o.penalty * 16 + m) * 16 + 0) * 65536 := wrap_in (by omega)
  have a6 : IntKind.i64.wrap (((o.penalty * 16 + m) * 16 + 0) * 65536 + 0) = ((o.penalty * 16 + m) * 16 + 0) * 65536 + 0 := wrap_in (by omega)
  unfold wExp
  simp only [a1, a2, a3, a4, a5, a6]
  omega
end Go.Proofs.YtbcfajfngdmgnaaGreatDoor.Nu
end
