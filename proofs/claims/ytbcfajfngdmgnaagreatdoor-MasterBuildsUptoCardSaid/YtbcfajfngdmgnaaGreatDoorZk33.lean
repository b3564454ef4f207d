/- Texts joined by a program: MaG, MaH. -/
import Derived.Test.YtbcfajfngdmgnaaGreatDoorZk32

section
set_option linter.unusedSimpArgs false
set_option linter.unusedVariables false
namespace Go.Proofs.YtbcfajfngdmgnaaGreatDoor.Nu
open Go.Aw Go.Aw.D Go.Proofs Ty Go.Nu
set_option maxRecDepth 100000
abbrev cellF (f : Nat → Nat) (i : Nat) (r : PRow) : List AV := [.os (f i), int r.kind, int r.right]
abbrev linRow (f : Nat → Nat) (rows : List PRow) : Row := ⟨144, 3, rows.mapIdx (cellF f)⟩
def updF (f : Nat → Nat) (k c : Nat) : Nat → Nat := fun i => if i = k then c else f i
structure LinH (H : Heap) (jr : Nat) (f : Nat → Nat) (rows : List PRow) : Prop where
  row : H jr = some (linRow f rows)
  coef : ∀ (i : Nat) (r : PRow), rows[i]? = some r → H (f i) = some (iRow r.coef)
  inj : ∀ i k, i < rows.length → k < rows.length → f i = f k → i = k
theorem cells_app (f : Nat → Nat) (rows : List PRow) (c : Nat) (kd rt : Int) : rows.mapIdx (cellF f) ++ [[.os c, int kd, int rt]] = (rows ++ [(⟨[], kd, rt⟩ : PRow)]).mapIdx (cellF (updF f rows.length c)) := by
  rw [List.mapIdx_append]
  congr 1
  · refine List.ext_getElem? fun i => ?_
    rw [List.getElem?_mapIdx, List.getElem?_mapIdx]
    cases h : rows[i]? with
    | none => rfl
    | some r =>
      have hlt := (List.getElem?_eq_some_iff.1 h).1
      show some (cellF f i r) = some (cellF (updF f rows.length c) i r)
      unfold cellF updF
      rw [if_neg (by omega)]
  · simp [cellF, updF]
theorem cells_set (f : Nat → Nat) (rows : List PRow) (k c : Nat) (r : PRow) (l : List Int) (h : rows[k]? = some r) : (rows.mapIdx (cellF f)).set k [.os c, int r.kind, int r.right] = (rows.set k (⟨l, r.kind, r.right⟩ : PRow)).mapIdx (cellF (updF f k c)) := by
  have hlt := (List.getElem?_eq_some_iff.1 h).1
  refine List.ext_getElem? fun i => ?_
  rw [List.getElem?_set, List.getElem?_mapIdx, List.getElem?_mapIdx, List.getElem?_set]
  by_cases hi : k = i
  · subst hi
    rw [if_pos rfl, if_pos rfl, List.length_mapIdx, if_pos hlt, if_pos hlt]
    show some _ = some (cellF (updF f k c) k _)
    unfold cellF updF
    rw [if_pos rfl]
  · rw [if_neg hi, if_neg hi]
    cases h2 : rows[i]? with
    | none => rfl
    | some r2 =>
      show some (cellF f i r2) = some (cellF (updF f k c) i r2)
      unfold cellF updF
      rw [if_neg (fun e => hi e.symm)]
structure RowsS (H0 H : Heap) (j : Nat) (f : Nat → Nat) (rows : List PRow) : Prop where
  lin : LinH H j f rows
  keep : ∀ k row, H0 k = some row → H k = some row
  nj : H0 j = none
  nf : ∀ i, i < rows.length → H0 (f i) = none
theorem keep_none {H0 H : Heap} (h : ∀ k row, H0 k = some row → H k = some row) {c : Nat} (hc : H c = none) : H0 c = none := by
  cases e : H0 c with
  | none => rfl
  | some row => rw [h c row e] at hc; cases hc
theorem LinH.ne {H : Heap} {j : Nat} {f : Nat → Nat} {rows : List PRow} (h : LinH H j f rows) {i : Nat} (hi : i < rows.length) : f i ≠ j := fun e => by
  obtain ⟨r, hr⟩ := getIn hi
  have h1 := h.coef i r hr
  rw [e, h.row] at h1
  have h2 : (linRow f rows).e = (iRow r.coef).e := congrArg Row.e (Option.some.inj h1)
  exact absurd (show (144 : Nat) = 3 from h2) (by decide)
theorem LinH.new {H : Heap} {j : Nat} {f : Nat → Nat} {rows : List PRow} (h : LinH H j f rows) {i : Nat} (hi : H i = none) (a : Option Row) : LinH (updH H i a) j f rows := by
  refine ⟨?_, fun k r hr => ?_, h.inj⟩
  · rw [updH_ne _ _ _ _ (fun e => by subst e; rw [h.row] at hi; cases hi)]; exact h.row
  · have := h.coef k r hr
    rw [updH_ne _ _ _ _ (fun e => by rw [e, hi] at this; cases this)]; exact this
theorem RowsS.new {H0 H : Heap} {j : Nat} {f : Nat → Nat} {rows : List PRow} (h : RowsS H0 H j f rows) {i : Nat} (hi : H i = none) (a b : Option Row) : RowsS H0 (updH (updH H i a) i b) j f rows := by
  have e : updH (updH H i a) i b = updH H i b := by
    funext k
    by_cases e : k = i
    · subst e; rw [updH_same, updH_same]
    · rw [updH_ne _ _ _ _ e, updH_ne _ _ _ _ e, updH_ne _ _ _ _ e]
  rw [e]
  refine ⟨h.lin.new hi b, fun k row hk => ?_, h.nj, h.nf⟩
  have := h.keep k row hk
  rw [updH_ne _ _ _ _ (fun e => by subst e; rw [hi] at this; cases this)]; exact this
theorem RowsS.app {H0 H : Heap} {j : Nat} {f : Nat → Nat} {rows : List PRow} (h : RowsS H0 H j f rows) {c j' : Nat} (hc : H c = none) (hj' : updH H c (some (iRow [])) j' = none) (kd rt : Int) :
    RowsS H0 (updH (updH (updH H c (some (iRow []))) j none) j' (some ⟨144, 3, rows.mapIdx (cellF f) ++ [[.os c, int kd, int rt]]⟩)) j' (updF f rows.length c) (rows ++ [⟨[], kd, rt⟩]) := by
  have hjc : c ≠ j' := fun e => by subst e; rw [updH_same] at hj'; cases hj'
  have hjn : H j' = none := by rwa [updH_ne _ _ _ _ hjc.symm] at hj'
  have hcj : c ≠ j := fun e => by subst e; rw [h.lin.row] at hc; cases hc
  refine ⟨⟨?_, fun i r hr => ?_, fun i k hi hk hik => ?_⟩, fun k row hk => ?_, keep_none h.keep hjn, fun i hi => ?_⟩
  · rw [updH_same, cells_app]
  · unfold updF
    by_cases e : i = rows.length
    · subst e
      rw [if_pos rfl, updH_ne _ _ _ _ hjc, updH_ne _ _ _ _ hcj, updH_same]
      have : r = ⟨[], kd, rt⟩ := by simpa using hr.symm
      rw [this]
    · have hlt : i < rows.length := by have := (List.getElem?_eq_some_iff.1 hr).1; rw [List.length_append] at this; simp at this; omega
      rw [if_neg e]
      rw [List.getElem?_append_left hlt] at hr
      have hh := h.lin.coef i r hr
      rw [updH_ne _ _ _ _ (fun e => by rw [e, hjn] at hh; cases hh), updH_ne _ _ _ _ (h.lin.ne hlt), updH_ne _ _ _ _ (fun e => by rw [e, hc] at hh; cases hh)]
      exact hh
  · have hsome : ∀ i, i < rows.length → f i ≠ c := fun i hi e => by
      obtain ⟨r, hr⟩ := getIn hi
      have := h.lin.coef i r hr
      rw [e, hc] at this; cases this
    rw [List.length_append] at hi hk
    simp at hi hk
    unfold updF at hik
    by_cases e1 : i = rows.length
    · by_cases e2 : k = rows.length
      · omega
      · rw [if_pos e1, if_neg e2] at hik
        exact absurd hik.symm (hsome k (by omega))
    · by_cases e2 : k = rows.length
      · rw [if_neg e1, if_pos e2] at hik
        exact absurd hik (hsome i (by omega))
      · rw [if_neg e1, if_neg e2] at hik
        exact h.lin.inj i k (by omega) (by omega) hik
  · have hh := h.keep k row hk
    rw [updH_ne _ _ _ _ (fun e => by rw [e, hjn] at hh; cases hh), updH_ne _ _ _ _ (fun e => by rw [e, h.nj] at hk; cases hk), updH_ne _ _ _ _ (fun e => by rw [e, hc] at hh; cases hh)]
    exact hh
  · unfold updF
    by_cases e : i = rows.length
    · rw [if_pos e]; exact keep_none h.keep hc
    · rw [if_neg e]
      rw [List.length_append] at hi
      simp at hi
      exact h.nf i (by omega)
def rowD (d : Decision) : Option PRow := if d.kind = 3 then some ⟨[], 1, d.n⟩ else if d.kind = 4 then some ⟨[], 3, d.n⟩ else none
def rowsO (k : Nat) : List PRow := List.replicate k ⟨[], 2, 1⟩
def rowsT (l : List VType) : List PRow := l.map fun t => ⟨[], 1, t.count⟩
def rowsC (l : List Cut) : List PRow := l.map fun q => ⟨[], (rowC q).1, (rowC q).2⟩
def rowsD (l : List Decision) : List PRow := l.filterMap rowD
def rowsM (x : Instance) (cuts : List Cut) (ds : List Decision) : List PRow := rowsO (ordI x).length ++ rowsT x.types ++ rowsC cuts ++ rowsD ds
theorem rowsD_len (ds : List Decision) : (rowsD ds).length = (ds.filter cntD).length := by
  unfold rowsD
  induction ds with
  | nil => rfl
  | cons d l ih =>
    rw [List.filterMap_cons, List.filter_cons]
    by_cases h3 : d.kind = 3
    · rw [show rowD d = some ⟨[], 1, d.n⟩ from if_pos h3, if_pos (show cntD d = true by simp [cntD, h3])]
      try simp only [List.length_cons, ih]
    · by_cases h4 : d.kind = 4
      · rw [show rowD d = some ⟨[], 3, d.n⟩ from (if_neg h3).trans (if_pos h4), if_pos (show cntD d = true by simp [cntD, h4])]
        try simp only [List.length_cons, ih]
      · rw [show rowD d = none from (if_neg h3).trans (if_neg h4), if_neg (show ¬ cntD d = true by simp [cntD, h3, h4])]
        try exact ih
theorem rowsM_len (x : Instance) (cuts : List Cut) (ds : List Decision) : (rowsM x cuts ds).length = rowsN x cuts ds := by
  unfold rowsM rowsO rowsT rowsC rowsN
  simp only [List.length_append, List.length_map, List.length_replicate, rowsD_len]
theorem filterMap_take {ds : List Decision} {k : Nat} {d : Decision} (h : ds[k]? = some d) : rowsD (ds.take (k + 1)) = rowsD (ds.take k) ++ (rowD d).toList := by
  unfold rowsD
  rw [take_succ h, List.filterMap_append]
  congr 1
theorem mrows_c (x : Instance) (cuts : List Cut) (ds : List Decision) (h : MIn x cuts ds) (H0 : Heap) (K : AV → Heap → Prop) (hK : ∀ j f Hn, RowsS H0 Hn j f (rowsM x cuts ds) → K (.os j) Hn) :
    FCalls Tryz.prog 95 [.agg (encInstance x), .sl (cuts.map encCut), .sl (ds.map encDecision)] H0 K := by
  have h1 := h.orders
  have h2 := h.types
  have h3 := h.cl
  have h4 := h.dl
  have hol := ordI_len x
  refine FCalls.body (c := Tryz.f95.body.getD .skip) (fun t => t == 7 || t == 23 || t == 37 || t == 55 || t == 72 || t == 80) mixed Tryz.func95 rfl (by kernel_rfl) ?_
  unfold Tryz.f95
  simp only [Option.getD_some]
  simp only [go_sem]
  refine anew_i fun j hj => ?_
  have S : RowsS H0 (updH H0 j (some ⟨144, 3, []⟩)) j id [] := by
    refine ⟨⟨updH_same _ _ _, fun i r hr => (by simp at hr), fun i k hi => absurd hi (by simp)⟩, fun k row hk => ?_, hj, fun i hi => absurd hi (by simp)⟩
    rw [updH_ne _ _ _ _ (fun e => by subst e; rw [hj] at hk; cases hk)]; exact hk
  generalize updH H0 j _ = H1 at S ⊢
  simp only [go_sem]
  refine PC.use (all_c x h1) ?_
  simp only [go_sem]
  refine PC.use (members_c _) ?_
  rw [mem_all x h1]
  simp only [go_sem, List.length_map]
  refine ⟨fun ρ H => ∃ (k : Nat) (j : Nat) (f:Nat → Nat), k ≤ (ordI x).length ∧ ρ 1 = .sl (cuts.map encCut) ∧ ρ 2 = .sl (ds.map encDecision) ∧ ρ 3 = .rp (encInstance x) 0 ∧ ρ 19 = int ((ordI x).length : Nat) ∧ ρ 20 = int k ∧ ρ 7 = .os j ∧ RowsS H0 H j f (rowsO k), fun ρ _ => (ordI x).length - natOf (ρ 20), ⟨0, j, id, Nat.zero_le _, by simp only [go_sem], by simp only [go_sem], by simp only [go_sem], by simp only [go_sem, List.length_map], (by simp only [go_sem]; rfl), by simp only [go_sem], S⟩, ?_⟩
  rintro ρ H ⟨k, j, f, hk, e1, e2, e3, e19, e20, e7, S⟩
  simp only [go_sem, e1, e2, e3, e19, e20, e7]
  refine acond_i (fun hlt => ?_) (fun hge => ?_)
  · have hlt := ltB (by simpa using hlt)
    simp only [go_sem, e1, e2, e3, e19, e20, e7]
    refine anew_i fun c hc => ?_
    have R := (S.lin.new hc (some (iRow []))).row
    refine wappE_i R ⟨rfl, rfl⟩ ⟨rfl, trivial⟩ (by simp only [List.length_mapIdx, rowsO, List.length_replicate, List.length_cons, List.length_nil]; omega) (fun j' hj' => ?_)
    have S2 := S.app hc hj' 2 1
    have e : rowsO (k + 1) = rowsO k ++ [⟨[], 2, 1⟩] := List.replicate_succ'
    rw [← e] at S2
    simp only [go_sem, e1, e2, e3, e19, e20, e7, wrapS (show k ≤ 4611686018427387904 by omega)]
    exact ⟨⟨k + 1, j', _, hlt, rfl, rfl, S2⟩, by simp only [natOf_int]; omega⟩
  have hge := geB hk (by simpa using hge)
  subst hge
  simp only [go_sem, e1, e2, e3, e19, e20, e7, List.length_map]
  generalize hB : rowsO (ordI x).length = B at S
  have hBl : B.length ≤ 62 := by rw [← hB]; unfold rowsO; rw [List.length_replicate]; omega
  refine ⟨fun ρ H => ∃ (k : Nat) (j : Nat) (f:Nat → Nat), k ≤ x.types.length ∧ ρ 1 = .sl (cuts.map encCut) ∧ ρ 2 = .sl (ds.map encDecision) ∧ ρ 28 = .sl (x.types.map encVType) ∧ ρ 29 = int (x.types.length : Nat) ∧ ρ 30 = int k ∧ ρ 7 = .os j ∧ RowsS H0 H j f (B ++ rowsT (x.types.take k)), fun ρ _ => x.types.length - natOf (ρ 30), ⟨0, j, f, Nat.zero_le _, by simp only [go_sem, e1, e2], by simp only [go_sem, e1, e2], by simp only [go_sem, e1, e2], by simp only [go_sem, List.length_map, e1, e2], (by simp only [go_sem, e1, e2]; rfl), by simp only [go_sem, e7], by simpa [rowsT] using S⟩, ?_⟩
  rintro ρ H ⟨k, j, f, hk, e1, e2, e28, e29, e30, e7, S⟩
  simp only [go_sem, e1, e2, e28, e29, e30, e7]
  refine acond_i (fun hlt => ?_) (fun hge => ?_)
  · have hlt := ltB (by simpa using hlt)
    obtain ⟨t, ht⟩ := getIn hlt
    have b1 := inB hlt
    have hlen : (B ++ rowsT (x.types.take k)).length ≤ 62 + k := by unfold rowsT; simp only [List.length_append, List.length_map, List.length_take]; omega
    simp only [go_sem, e1, e2, e28, e29, e30, e7, getD_map ht, b1]
    refine anew_i fun i9 h9 => ?_
    simp only [go_sem, e1, e2, e28, e29, e30, e7]
    refine wputE_n (updH_same _ _ _) (by simp [encVType_len]) ?_
    have S1 := S.new h9
    generalize hG : updH (updH H i9 _) i9 _ = HG
    replace S1 : RowsS H0 HG j f (B ++ rowsT (x.types.take k)) := by rw [← hG]; exact S1 _ _
    have R9 : HG i9 = some (⟨105, 14, [encVType t]⟩ : Row) := by rw [← hG, updH_same]; rfl
    clear hG h9
    simp only [go_sem, e1, e2, e28, e29, e30, e7, R9]
    refine anew_i fun c hc => ?_
    have R := (S1.lin.new hc (some (iRow []))).row
    refine wappE_i R ⟨rfl, rfl⟩ ⟨rfl, trivial⟩ (by simp only [List.length_mapIdx, List.length_cons, List.length_nil]; omega) (fun j' hj' => ?_)
    have S2 := S1.app hc hj' 1 t.count
    have e : B ++ rowsT (x.types.take (k + 1)) = B ++ rowsT (x.types.take k) ++ [⟨[], 1, t.count⟩] := by unfold rowsT; rw [take_succ ht, List.map_append, List.append_assoc]; rfl
    rw [← e] at S2
    simp only [go_sem, e1, e2, e28, e29, e30, e7, wrapS (show k ≤ 4611686018427387904 by omega)]
    exact ⟨⟨k + 1, j', _, hlt, rfl, rfl, S2⟩, by simp only [natOf_int]; omega⟩
  have hge := geB hk (by simpa using hge)
  subst hge
  rw [List.take_length] at S
  simp only [go_sem, e1, e2, e28, e29, e30, e7, List.length_map]
  generalize hB2 : B ++ rowsT x.types = B2 at S
  have hBl2 : B2.length ≤ 62 + 1048576 := by rw [← hB2]; unfold rowsT; rw [List.length_append, List.length_map]; omega
  refine ⟨fun ρ H => ∃ (k : Nat) (j : Nat) (f:Nat → Nat), k ≤ cuts.length ∧ ρ 2 = .sl (ds.map encDecision) ∧ ρ 41 = .sl (cuts.map encCut) ∧ ρ 42 = int (cuts.length : Nat) ∧ ρ 43 = int k ∧ ρ 7 = .os j ∧ RowsS H0 H j f (B2 ++ rowsC (cuts.take k)), fun ρ _ => cuts.length - natOf (ρ 43), ⟨0, j, f, Nat.zero_le _, by simp only [go_sem, e2], by simp only [go_sem, e2], by simp only [go_sem, List.length_map, e2], (by simp only [go_sem, e2]; rfl), by simp only [go_sem, e7], by simpa [rowsC] using S⟩, ?_⟩
  rintro ρ H ⟨k, j, f, hk, e2, e41, e42, e43, e7, S⟩
  simp only [go_sem, e2, e41, e42, e43, e7]
  refine acond_i (fun hlt => ?_) (fun hge => ?_)
  · have hlt := ltB (by simpa using hlt)
    obtain ⟨q, hq⟩ := getIn hlt
    have b1 := inB hlt
    have hlen : (B2 ++ rowsC (cuts.take k)).length ≤ 62 + 1048576 + k := by unfold rowsC; simp only [List.length_append, List.length_map, List.length_take]; omega
    simp only [go_sem, e2, e41, e42, e43, e7, getD_map hq, b1]
    refine anew_i fun i9 h9 => ?_
    simp only [go_sem, e2, e41, e42, e43, e7]
    refine wputE_n (updH_same _ _ _) (by simp [encCut_len]) ?_
    have S1 := S.new h9
    generalize hG : updH (updH H i9 _) i9 _ = HG
    replace S1 : RowsS H0 HG j f (B2 ++ rowsC (cuts.take k)) := by rw [← hG]; exact S1 _ _
    have R9 : HG i9 = some (⟨23, 3, [encCut q]⟩ : Row) := by rw [← hG, updH_same]; rfl
    clear hG h9
    simp only [go_sem, e2, e41, e42, e43, e7, R9]
    refine PC.use (row_c q) ?_
    simp only [go_sem, e2, e41, e42, e43, e7]
    refine anew_i fun c hc => ?_
    have R := (S1.lin.new hc (some (iRow []))).row
    refine wappE_i R ⟨rfl, rfl⟩ ⟨rfl, trivial⟩ (by simp only [List.length_mapIdx, List.length_cons, List.length_nil]; omega) (fun j' hj' => ?_)
    have S2 := S1.app hc hj' (rowC q).1 (rowC q).2
    have e : B2 ++ rowsC (cuts.take (k + 1)) = B2 ++ rowsC (cuts.take k) ++ [⟨[], (rowC q).1, (rowC q).2⟩] := by unfold rowsC; rw [take_succ hq, List.map_append, List.append_assoc]; rfl
    rw [← e] at S2
    simp only [go_sem, e2, e41, e42, e43, e7, wrapS (show k ≤ 4611686018427387904 by omega)]
    exact ⟨⟨k + 1, j', _, hlt, rfl, rfl, S2⟩, by simp only [natOf_int]; omega⟩
  have hge := geB hk (by simpa using hge)
  subst hge
  rw [List.take_length] at S
  simp only [go_sem, e2, e41, e42, e43, e7, List.length_map]
  generalize hB3 : B2 ++ rowsC cuts = B3 at S
  have hBl3 : B3.length ≤ 62 + 1048576 + 1048576 := by rw [← hB3]; unfold rowsC; rw [List.length_append, List.length_map]; omega
  refine ⟨fun ρ H => ∃ (k : Nat) (j : Nat) (f:Nat → Nat), k ≤ ds.length ∧ ρ 59 = .sl (ds.map encDecision) ∧ ρ 60 = int (ds.length : Nat) ∧ ρ 61 = int k ∧ ρ 7 = .os j ∧ RowsS H0 H j f (B3 ++ rowsD (ds.take k)), fun ρ _ => ds.length - natOf (ρ 61), ⟨0, j, f, Nat.zero_le _, by simp only [go_sem], by simp only [go_sem, List.length_map], (by simp only [go_sem]; rfl), by simp only [go_sem, e7], by simpa [rowsD] using S⟩, ?_⟩
  rintro ρ H ⟨k, j, f, hk, e59, e60, e61, e7, S⟩
  simp only [go_sem, e59, e60, e61, e7]
  refine acond_i (fun hlt => ?_) (fun hge => ?_)
  · have hlt := ltB (by simpa using hlt)
    obtain ⟨d, hd⟩ := getIn hlt
    have b1 := inB hlt
    have hs := filterMap_take hd
    have hlen : (B3 ++ rowsD (ds.take k)).length ≤ 62 + 1048576 + 1048576 + k := by
      have := cntD_len ds k
      rw [List.length_append, rowsD_len]; omega
    simp only [go_sem, e59, e60, e61, e7, getD_map hd, b1]
    refine anew_i fun i9 h9 => ?_
    simp only [go_sem, e59, e60, e61, e7]
    refine wputE_n (updH_same _ _ _) (by simp [encDecision_len]) ?_
    have S1 := S.new h9
    generalize hG : updH (updH H i9 _) i9 _ = HG
    replace S1 : RowsS H0 HG j f (B3 ++ rowsD (ds.take k)) := by rw [← hG]; exact S1 _ _
    have R9 : HG i9 = some (⟨158, 4, [encDecision d]⟩ : Row) := by rw [← hG, updH_same]; rfl
    clear hG h9
    simp only [go_sem, e59, e60, e61, e7, R9]
    refine acond_i (fun hb => ?_) (fun hb => ?_)
    · have h3 : d.kind = 3 := by simpa using hb
      rw [show rowD d = some ⟨[], 1, d.n⟩ from if_pos h3] at hs
      simp only [go_sem, e59, e60, e61, e7, R9]
      refine anew_i fun c hc => ?_
      have R := (S1.lin.new hc (some (iRow []))).row
      refine wappE_i R ⟨rfl, rfl⟩ ⟨rfl, trivial⟩ (by simp only [List.length_mapIdx, List.length_cons, List.length_nil]; omega) (fun j' hj' => ?_)
      have S2 := S1.app hc hj' 1 d.n
      have e : B3 ++ rowsD (ds.take (k + 1)) = B3 ++ rowsD (ds.take k) ++ [⟨[], 1, d.n⟩] := by rw [hs, List.append_assoc]; rfl
      rw [← e] at S2
      simp only [go_sem, e59, e60, e61, e7, wrapS (show k ≤ 4611686018427387904 by omega)]
      exact ⟨⟨k + 1, j', _, hlt, rfl, rfl, S2⟩, by simp only [natOf_int]; omega⟩
    have h3 : d.kind ≠ 3 := by simpa using hb
    simp only [go_sem, e59, e60, e61, e7, R9]
    refine acond_i (fun hb => ?_) (fun hb => ?_)
    · have h4 : d.kind = 4 := by simpa using hb
      rw [show rowD d = some ⟨[], 3, d.n⟩ from (if_neg h3).trans (if_pos h4)] at hs
      simp only [go_sem, e59, e60, e61, e7, R9]
      refine anew_i fun c hc => ?_
      have R := (S1.lin.new hc (some (iRow []))).row
      refine wappE_i R ⟨rfl, rfl⟩ ⟨rfl, trivial⟩ (by simp only [List.length_mapIdx, List.length_cons, List.length_nil]; omega) (fun j' hj' => ?_)
      have S2 := S1.app hc hj' 3 d.n
      have e : B3 ++ rowsD (ds.take (k + 1)) = B3 ++ rowsD (ds.take k) ++ [⟨[], 3, d.n⟩] := by rw [hs, List.append_assoc]; rfl
      rw [← e] at S2
      simp only [go_sem, e59, e60, e61, e7, wrapS (show k ≤ 4611686018427387904 by omega)]
      exact ⟨⟨k + 1, j', _, hlt, rfl, rfl, S2⟩, by simp only [natOf_int]; omega⟩
    have h4 : d.kind ≠ 4 := by simpa using hb
    rw [show rowD d = none from (if_neg h3).trans (if_neg h4)] at hs
    simp only [go_sem, e59, e60, e61, e7, wrapS (show k ≤ 4611686018427387904 by omega)]
    refine ⟨⟨k + 1, j, f, hlt, rfl, rfl, ?_⟩, by simp only [natOf_int]; omega⟩
    rw [hs]
    simpa using S1
  have hge := geB hk (by simpa using hge)
  subst hge
  rw [List.take_length] at S
  simp only [go_sem, e59, e60, e61, e7]
  refine hK j f _ ?_
  unfold rowsM
  rw [hB, hB2, hB3]
  exact S
end Go.Proofs.YtbcfajfngdmgnaaGreatDoor.Nu
end

section
set_option linter.unusedSimpArgs false
set_option linter.unusedVariables false
namespace Go.Proofs.YtbcfajfngdmgnaaGreatDoor.Nu
open Go.Aw Go.Aw.D Go.Proofs Ty Go.Nu
set_option maxRecDepth 100000
theorem mRows_c (x : Instance) (cuts : List Cut) (ds : List Decision) (h : MIn x cuts ds) : PC Tryz.prog 38 [.agg (encInstance x), .sl (cuts.map encCut), .sl (ds.map encDecision)] (int (rowsN x cuts ds : Nat)) := by
  refine PC.body (c := Tryz.f38.body.getD .skip) (fun _ => false) mixed Tryz.func38 rfl (by kernel_rfl) ?_
  unfold Tryz.f38
  simp only [Option.getD_some]
  simp only [go_sem]
  refine mrows_c x cuts ds h _ _ fun j f Hn S => ?_
  simp only [go_sem, S.lin.row, List.length_mapIdx, rowsM_len]
  exact .refl _
abbrev pRow (jc jr : Nat) : Row := ⟨77, 2, [[.os jc, .os jr]]⟩
def addR1 (r : PRow) (n : Int) : PRow := ⟨r.coef ++ [n], r.kind, r.right⟩
def addTo (rows : List PRow) (col : List Int) : Nat → List PRow
  | 0 => rows
  | k + 1 => (addTo rows col k).set k (addR1 (rows.getD k ⟨[], 0, 0⟩) (col.getD k 0))
theorem addTo_len (rows : List PRow) (col : List Int) : ∀ k, (addTo rows col k).length = rows.length
  | 0 => rfl
  | k + 1 => by rw [addTo, List.length_set, addTo_len rows col k]
theorem addTo_get (rows : List PRow) (col : List Int) : ∀ k i, (addTo rows col k)[i]? = if i < k then (rows[i]?).map (fun r => addR1 r (col.getD i 0)) else rows[i]?
  | 0, i => by rw [if_neg (by omega)]; rfl
  | k + 1, i => by
    rw [addTo, List.getElem?_set, addTo_len]
    by_cases e : k = i
    · subst e
      rw [if_pos rfl, if_pos (show k < k + 1 by omega)]
      by_cases hk : k < rows.length
      · rw [if_pos hk, List.getD, List.getElem?_eq_getElem hk]; rfl
      · rw [if_neg hk, List.getElem?_eq_none (show rows.length ≤ k by omega)]; rfl
    · rw [if_neg e, addTo_get rows col k i]
      by_cases hi : i < k
      · rw [if_pos hi, if_pos (by omega)]
      · rw [if_neg hi, if_neg (by omega)]
structure AddS (H0 H : Heap) (jp jc jr : Nat) (f : Nat → Nat) (n : Nat) (jc' : Nat) (f' : Nat → Nat) (cost : List Int) (rows : List PRow) (k : Nat) : Prop where
  p : H jp = some (pRow jc' jr)
  c : H jc' = some (iRow cost)
  lin : LinH H jr f' rows
  fc : ∀ i, i < rows.length → f' i ≠ jc'
  rest : ∀ i, k ≤ i → f' i = f i
  keep : ∀ q row, q ≠ jp → q ≠ jc → q ≠ jr → (∀ i, i < n → q ≠ f i) → H0 q = some row → H q = some row
theorem AddS.step {H0 H : Heap} {jp jc jr : Nat} {f : Nat → Nat} {n jc' : Nat} {f' : Nat → Nat} {cost : List Int} {rows : List PRow} {k : Nat} (S : AddS H0 H jp jc jr f n jc' f' cost rows k) (hn : n = rows.length) {r : PRow} (hr : rows[k]? = some r) {j' : Nat}
    (hj' : H j' = none) (m : Int) : AddS H0 (updH (updH (updH H (f' k) none) j' (some (iRow (r.coef ++ [m])))) jr (some ⟨144, 3, (rows.mapIdx (cellF f')).set k [.os j', int r.kind, int r.right]⟩)) jp jc jr f n jc' (updF f' k j') cost (rows.set k (addR1 r m)) (k + 1) := by
  have hlt := (List.getElem?_eq_some_iff.1 hr).1
  have hfk := S.lin.coef k r hr
  have hp_r : jp ≠ jr := fun e => by
    have h1 := S.p
    rw [e, S.lin.row] at h1
    have h2 : (linRow f' rows).e = (pRow jc' jr).e := congrArg Row.e (Option.some.inj h1)
    exact absurd (show (144 : Nat) = 77 from h2) (by decide)
  have hp_f : jp ≠ f' k := fun e => by
    have h1 := S.p
    rw [e, hfk] at h1
    have h2 : (iRow r.coef).e = (pRow jc' jr).e := congrArg Row.e (Option.some.inj h1)
    exact absurd (show (3 : Nat) = 77 from h2) (by decide)
  have hc_r : jc' ≠ jr := fun e => by
    have h1 := S.c
    rw [e, S.lin.row] at h1
    have h2 : (linRow f' rows).e = (iRow cost).e := congrArg Row.e (Option.some.inj h1)
    exact absurd (show (144 : Nat) = 3 from h2) (by decide)
  have hp_j : jp ≠ j' := fun e => by rw [← e, S.p] at hj'; cases hj'
  have hc_j : jc' ≠ j' := fun e => by rw [← e, S.c] at hj'; cases hj'
  have hr_j : jr ≠ j' := fun e => by rw [← e, S.lin.row] at hj'; cases hj'
  refine ⟨?_, ?_, ⟨?_, fun i r2 hr2 => ?_, fun i l hi hl hil => ?_⟩, fun i hi => ?_, fun i hi => ?_, fun q row q1 q2 q3 q4 hq => ?_⟩
  · rw [updH_ne _ _ _ _ hp_r, updH_ne _ _ _ _ hp_j, updH_ne _ _ _ _ hp_f]; exact S.p
  · rw [updH_ne _ _ _ _ hc_r, updH_ne _ _ _ _ hc_j, updH_ne _ _ _ _ (S.fc k hlt).symm]; exact S.c
  · rw [updH_same]
    exact congrArg (fun l => some (⟨144, 3, l⟩ : Row)) (cells_set f' rows k j' r (r.coef ++ [m]) hr)
  · rw [List.getElem?_set] at hr2
    unfold updF
    by_cases e : k = i
    · subst e
      rw [if_pos rfl, if_pos hlt] at hr2
      rw [if_pos rfl, updH_ne _ _ _ _ hr_j.symm, updH_same]
      have : r2 = addR1 r m := (Option.some.inj hr2).symm
      rw [this]; rfl
    · rw [if_neg e] at hr2
      have hh := S.lin.coef i r2 hr2
      have hilt := (List.getElem?_eq_some_iff.1 hr2).1
      rw [if_neg (fun h => e h.symm), updH_ne _ _ _ _ (S.lin.ne hilt), updH_ne _ _ _ _ (fun h => by rw [h, hj'] at hh; cases hh), updH_ne _ _ _ _ (fun h => e (S.lin.inj k i hlt hilt h.symm))]
      exact hh
  · rw [List.length_set] at hi hl
    have hsome : ∀ i, i < rows.length → f' i ≠ j' := fun i hi e => by
      obtain ⟨r, hr⟩ := getIn hi
      have := S.lin.coef i r hr
      rw [e, hj'] at this; cases this
    unfold updF at hil
    by_cases e1 : i = k
    · by_cases e2 : l = k
      · omega
      · rw [if_pos e1, if_neg e2] at hil
        exact absurd hil.symm (hsome l hl)
    · by_cases e2 : l = k
      · rw [if_neg e1, if_pos e2] at hil
        exact absurd hil (hsome i hi)
      · rw [if_neg e1, if_neg e2] at hil
        exact S.lin.inj i l hi hl hil
  · rw [List.length_set] at hi
    unfold updF
    by_cases e : i = k
    · rw [if_pos e]; exact hc_j.symm
    · rw [if_neg e]; exact S.fc i hi
  · unfold updF
    rw [if_neg (by omega)]
    exact S.rest i (by omega)
  · have hh := S.keep q row q1 q2 q3 q4 hq
    rw [updH_ne _ _ _ _ q3, updH_ne _ _ _ _ (fun h => by rw [h, hj'] at hh; cases hh), updH_ne _ _ _ _ (fun h => q4 k (by omega) (h.trans (S.rest k (Nat.le_refl _))))]
    exact hh
theorem cell_get (f : Nat → Nat) (rows : List PRow) {k : Nat} {r : PRow} (h : rows[k]? = some r) : (rows.mapIdx (cellF f)).getD k [] = cellF f k r := by
  rw [List.getD, List.getElem?_mapIdx, h]; rfl
theorem add_c (n : Int) (col : List Int) (jp jc jr : Nat) (f : Nat → Nat) (cost : List Int) (rows : List PRow) (H0 : Heap) (K : AV → Heap → Prop) (Hp : H0 jp = some (pRow jc jr)) (Hc : H0 jc = some (iRow cost)) (L : LinH H0 jr f rows) (hfc : ∀ i, i < rows.length → f i ≠ jc)
    (hlen : col.length = rows.length) (hl : col.length ≤ 1048576) (hcl : cost.length ≤ 1048576) (hrl : ∀ r ∈ rows, r.coef.length ≤ 1048576)
    (hK : ∀ a jc' f' Hn, AddS H0 Hn jp jc jr f rows.length jc' f' (cost ++ [n]) (addTo rows col col.length) col.length → K a Hn) :
    FCalls Tryz.prog 97 [int n, .sl (col.map encInt), .op jp 0 0] H0 K := by
  refine FCalls.body (c := Tryz.f97.body.getD .skip) (fun _ => false) mixed Tryz.func97 rfl (by kernel_rfl) ?_
  unfold Tryz.f97
  simp only [Option.getD_some]
  simp only [go_sem]
  simp only [Hp, go_sem]
  refine wappE_i Hc ⟨rfl, rfl⟩ ⟨rfl, trivial⟩ (by simp only [List.length_map, List.length_cons, List.length_nil]; omega) (fun j' hj' => ?_)
  have hpc : jp ≠ jc := fun e => by
    have h1 := Hp
    rw [e, Hc] at h1
    have h2 : (iRow cost).e = (pRow jc jr).e := congrArg Row.e (Option.some.inj h1)
    exact absurd (show (3 : Nat) = 77 from h2) (by decide)
  have hrc : jr ≠ jc := fun e => by
    have h1 := L.row
    rw [e, Hc] at h1
    have h2 : (iRow cost).e = (linRow f rows).e := congrArg Row.e (Option.some.inj h1)
    exact absurd (show (3 : Nat) = 144 from h2) (by decide)
  have hrp : jr ≠ jp := fun e => by
    have h1 := L.row
    rw [e, Hp] at h1
    have h2 : (pRow jc jr).e = (linRow f rows).e := congrArg Row.e (Option.some.inj h1)
    exact absurd (show (77 : Nat) = 144 from h2) (by decide)
  have Hp2 := keep_app (r' := (⟨3, 1, (iRow cost).es ++ [[int n]]⟩ : Row)) Hp hpc.symm hj'
  simp only [go_sem]
  refine wputE_1 so51 Hp2 ⟨by simp, rfl, by simp⟩ ?_
  have S : AddS H0 (updH (updH (updH H0 jc none) j' (some (⟨3, 1, (iRow cost).es ++ [[int n]]⟩ : Row))) jp (some (pRow j' jr))) jp jc jr f rows.length j' f (cost ++ [n]) rows 0 := by
    have hpj : jp ≠ j' := ne_new Hp hj'
    have hrj : jr ≠ j' := ne_new L.row hj'
    have hfj : ∀ i, i < rows.length → f i ≠ j' := fun i hi e => by
      obtain ⟨r, hr⟩ := getIn hi
      have := L.coef i r hr
      rw [e, hj'] at this; cases this
    have hfp : ∀ i, i < rows.length → f i ≠ jp := fun i hi e => by
      obtain ⟨r, hr⟩ := getIn hi
      have h1 := L.coef i r hr
      rw [e, Hp] at h1
      have h2 : (pRow jc jr).e = (iRow r.coef).e := congrArg Row.e (Option.some.inj h1)
      exact absurd (show (77 : Nat) = 3 from h2) (by decide)
    refine ⟨updH_same _ _ _, ?_, ⟨?_, fun i r hr => ?_, L.inj⟩, hfj, fun _ _ => rfl, fun q row q1 q2 q3 q4 hq => ?_⟩
    · rw [updH_ne _ _ _ _ hpj.symm, updH_same]
      exact congrArg (fun l => some (⟨3, 1, l⟩ : Row)) (List.map_append (f := encInt) (l₁ := cost) (l₂ := [n])).symm
    · rw [updH_ne _ _ _ _ hrp, updH_ne _ _ _ _ hrj, updH_ne _ _ _ _ hrc]; exact L.row
    · have hi := (List.getElem?_eq_some_iff.1 hr).1
      rw [updH_ne _ _ _ _ (hfp i hi), updH_ne _ _ _ _ (hfj i hi), updH_ne _ _ _ _ (hfc i hi)]; exact L.coef i r hr
    · rw [updH_ne _ _ _ _ q1, updH_ne _ _ _ _ (ne_new hq hj'), updH_ne _ _ _ _ q2]; exact hq
  generalize hG : updH (updH (updH H0 jc none) j' _) jp _ = HG
  replace S : AddS H0 HG jp jc jr f rows.length j' f (cost ++ [n]) rows 0 := by rw [← hG]; exact S
  clear hG Hp2 hj'
  simp only [go_sem, List.length_map]
  refine ⟨fun ρ H => ∃ (k : Nat) (jc' : Nat) (f':Nat → Nat), k ≤ col.length ∧ ρ 2 = .op jp 0 0 ∧ ρ 13 = .sl (col.map encInt) ∧ ρ 14 = int (col.length : Nat) ∧ ρ 15 = int k ∧ AddS H0 H jp jc jr f rows.length jc' f' (cost ++ [n]) (addTo rows col k) k, fun ρ _ => col.length - natOf (ρ 15), ⟨0, j', f, Nat.zero_le _, by simp only [go_sem], by simp only [go_sem], by simp only [go_sem, List.length_map], (by simp only [go_sem]; rfl), S⟩, ?_⟩
  rintro ρ H ⟨k, jc', f', hk, e2, e13, e14, e15, S⟩
  simp only [go_sem, e2, e13, e14, e15]
  refine acond_i (fun hlt => ?_) (fun hge => ?_)
  · have hlt := ltB (by simpa using hlt)
    obtain ⟨m, hm⟩ := getIn hlt
    have b1 := inB hlt
    obtain ⟨r, hr⟩ := getIn (l := addTo rows col k) (k := k) (by rw [addTo_len]; omega)
    have b2 : (0 : Int) ≤ (k : Int) ∧ (k : Int) < ((addTo rows col k).length : Int) := by rw [addTo_len]; omega
    have hrr : rows[k]? = some r := by rw [addTo_get, if_neg (by omega)] at hr; exact hr
    have hrl2 := hrl r (List.mem_of_getElem? hrr)
    have hnext : addTo rows col (k + 1) = (addTo rows col k).set k (addR1 r m) := by
      rw [addTo, List.getD, hrr, List.getD, hm]; rfl
    have hlK := addTo_len rows col k
    generalize addTo rows col k = rowsK at *
    have hcg := cell_get f' rowsK hr
    simp only [go_sem, e2, e13, e14, e15, getD_map hm, b1]
    refine adraw_t [jp] (.q 0 (.q 1 (.q 2 (.q 3 (.q 4 (.q 5 (.q 9 (.a2 6 (.q 7 (.a2 8 (.a1 10 (.a1 11 (.a1 12 (.a1 13 (.a1 14 .nil))))) 10 (.a1 8 (.a1 11 (.a1 12 (.a1 13 (.a1 14 .nil))))))) 10 (.a1 6 (.q 7 (.a1 8 (.a1 11 (.a1 12 (.a1 13 (.a1 14 .nil))))))))))))))) (by simp [S.p]) (by kernel_rfl) fun Hp Hr hp hq hp0 hr0 => ?_
    have Pp := (hp jp (by simp)).trans S.p
    simp only [go_sem, e2, e13, e14, e15, Pp]
    have hkf : f' k ≠ jp := fun e => by
      have h1 := S.lin.coef k r hr
      rw [e, S.p] at h1
      have h2 : (pRow jc' jr).e = (iRow r.coef).e := congrArg Row.e (Option.some.inj h1)
      exact absurd (show (77 : Nat) = 3 from h2) (by decide)
    have Rr : Hr jr = some (linRow f' rowsK) := (hq jr (by simpa using hrp)).trans S.lin.row
    have Rk : Hr (f' k) = some (iRow r.coef) := (hq (f' k) (by simpa using hkf)).trans (S.lin.coef k r hr)
    have hkr : f' k ≠ jr := S.lin.ne (by omega)
    have fin : ∀ (j'' : Nat) (G : Heap), Hr j'' = none → G = updH (updH (updH Hr (f' k) none) j'' (some (iRow (r.coef ++ [m])))) jr (some ⟨144, 3, (rowsK.mapIdx (cellF f')).set k [.os j'', int r.kind, int r.right]⟩) → (∀ q, q ∈ [jp] → G q = none) → ∀ Hm : Heap, (∀ q, q ∈ [jp] → Hm q = H q) → (∀ q, ¬ q ∈ [jp] → Hm q = G q) → AddS H0 Hm jp jc jr f rows.length jc' (updF f' k j'') (cost ++ [n]) (addTo rows col (k + 1)) (k + 1) := by
      intro j'' G hj2 hG hd Hm hm1 hm2
      have hpj : jp ≠ j'' := fun e => by
        have := hd jp (by simp)
        rw [hG, updH_ne _ _ _ _ hrp.symm, e, updH_same] at this; cases this
      have hHj : H j'' = none := by rw [← hq j'' (by simpa using hpj.symm)]; exact hj2
      have S2 := S.step hlK.symm hr hHj m
      rw [hnext]
      have eM : Hm = updH (updH (updH H (f' k) none) j'' (some (iRow (r.coef ++ [m])))) jr (some ⟨144, 3, (rowsK.mapIdx (cellF f')).set k [.os j'', int r.kind, int r.right]⟩) := by
        funext q
        by_cases hqp : q = jp
        · subst hqp
          rw [hm1 q (by simp), updH_ne _ _ _ _ hrp.symm, updH_ne _ _ _ _ hpj, updH_ne _ _ _ _ hkf.symm]
        · rw [hm2 q (by simpa using hqp), hG]
          simp only [updH]
          rw [hq q (by simpa using hqp)]
      rw [eM]
      exact S2
    repeat' (first | (refine amixt_2i ?_ ?_) | (simp only [go_sem, e2, e13, e14, e15, Rr, List.length_mapIdx, b2, hcg]))
    all_goals
      refine ⟨by omega, wappE_i Rk ⟨rfl, rfl⟩ ⟨rfl, trivial⟩ (by simp only [List.length_map, List.length_cons, List.length_nil]; omega) (fun j'' hj'' => ?_)⟩
      have hjj : Hr j'' = none := hj''
      have Rr2 := keep_app (r' := (⟨3, 1, (iRow r.coef).es ++ [[int m]]⟩ : Row)) Rr hkr hj''
      simp only [go_sem, e2, e13, e14, e15, Rr2, List.length_mapIdx, b2]
      refine wputE_1 so51 Rr2 ⟨by rw [List.length_mapIdx]; omega, rfl, by simp⟩ ?_
      rw [hcg]
      simp only [go_sem]
      refine pinEnd_i fun hd Hm hm1 hm2 => ?_
      have S3 := fin j'' _ hjj (by rw [show (iRow (r.coef ++ [m])) = (⟨3, 1, (iRow r.coef).es ++ [[int m]]⟩ : Row) from congrArg (fun l => (⟨3, 1, l⟩ : Row)) (List.map_append (f := encInt) (l₁ := r.coef) (l₂ := [m]))]) hd Hm hm1 hm2
      simp only [go_sem, e2, e13, e14, e15, wrapS (show k ≤ 4611686018427387904 by omega)]
      exact ⟨⟨k + 1, jc', _, hlt, rfl, S3⟩, by simp only [natOf_int]; omega⟩
  have hge := geB hk (by simpa using hge)
  subst hge
  simp only [go_sem, e2, e13, e14, e15]
  exact hK _ jc' f' _ S
end Go.Proofs.YtbcfajfngdmgnaaGreatDoor.Nu
end
