/- Texts joined by a program: MaK, MaN, MaO, MaP, MaQ, MaL, MaM, MaR, MaV, MaS, MaT, MaU. -/
import Derived.Test.YtbcfajfngdmgnaaGreatDoorZn36

section
set_option linter.unusedSimpArgs false
set_option linter.unusedVariables false
namespace Go.Proofs.YtbcfajfngdmgnaaGreatDoor.Nu
open Go.Aw Go.Aw.D Go.Proofs Ty Go.Nu
open Dec (chkR knownR allowsR forbidsR decB hasN)
set_option maxRecDepth 100000
def is0 (s : ByteArray) : Bool := bl s == [48]
def is1 (s : ByteArray) : Bool := bl s == [49]
def pickTo {α : Type} (l : List α) (v : List ByteArray) (off k : Nat) : List α := (List.range k).filterMap fun i => match l[i]?, v[off + i]? with
  | some a, some s => if is1 s = true then some a else none
  | _, _ => none
theorem pickTo_succ {α : Type} {l : List α} {v : List ByteArray} {off k : Nat} {a : α} {s : ByteArray} (h : l[k]? = some a) (hv : v[off + k]? = some s) : pickTo l v off (k + 1) = pickTo l v off k ++ (if is1 s = true then [a] else []) := by
  unfold pickTo
  rw [List.range_succ, List.filterMap_append]
  congr 1
  rw [List.filterMap_cons, List.filterMap_nil, h, hv]
  by_cases hs : is1 s = true
  · simp [hs]
  · simp [hs]
theorem pickTo_len {α : Type} (l : List α) (v : List ByteArray) (off k : Nat) : (pickTo l v off k).length ≤ k := by
  unfold pickTo
  exact Nat.le_trans (List.length_filterMap_le _ _) (by rw [List.length_range]; exact Nat.le_refl _)
def badB (s : ByteArray) : Bool := !is0 s && !is1 s
def planM (x : Instance) (d : Nat) (cols : List Column) (cuts : List Cut) (ds : List Decision) (v : List ByteArray) : Plan × Int :=
  if (buildM x d cols cuts ds).2 ≠ 0 then (⟨[], []⟩, (buildM x d cols cuts ds).2)
  else if v.length ≠ (buildM x d cols cuts ds).1.cost.length then (⟨[], []⟩, 2)
  else if v.any badB = true then (⟨[], []⟩, 2)
  else if fitsM (buildM x d cols cuts ds).1 v = false then (⟨[], []⟩, 24)
  else (⟨(pickTo (inM cols ds) v 0 (inM cols ds).length).map (·.route), pickTo (skipsM x ds) v (inM cols ds).length (skipsM x ds).length⟩, 0)
def RowsOk (rows : List PRow) : Prop := ∀ r ∈ rows, (∀ n ∈ r.coef, n = 0 ∨ n = 1) ∧ i64I r.right
theorem addTo_ok {rows : List PRow} {col : List Int} (h : RowsOk rows) (hc : ∀ n ∈ col, n = 0 ∨ n = 1) : RowsOk (addTo rows col col.length) := by
  intro r hr
  obtain ⟨i, hi, rfl⟩ := List.getElem_of_mem hr
  have hg := List.getElem?_eq_getElem hi
  rw [addTo_get] at hg
  rw [addTo_len] at hi
  have hm := h _ (List.getElem_mem hi)
  by_cases hlt : i < col.length
  · rw [if_pos hlt, List.getElem?_eq_getElem hi] at hg
    have e : (addTo rows col col.length)[i]'(by rw [addTo_len]; exact hi) = addR1 (rows[i]) (col.getD i 0) := (Option.some.inj hg).symm
    rw [e]
    unfold addR1
    refine ⟨fun n hn => ?_, hm.2⟩
    rcases List.mem_append.1 hn with hn | hn
    · exact hm.1 n hn
    · have e2 : n = col.getD i 0 := by simpa using hn
      rw [e2, List.getD, List.getElem?_eq_getElem hlt]
      exact hc _ (List.getElem_mem hlt)
  · rw [if_neg hlt, List.getElem?_eq_getElem hi] at hg
    have e : (addTo rows col col.length)[i]'(by rw [addTo_len]; exact hi) = rows[i] := (Option.some.inj hg).symm
    rw [e]; exact hm
structure RightB (x : Instance) (cuts : List Cut) (ds : List Decision) : Prop where
  types : ∀ t ∈ x.types, i64I t.count
  cuts : ∀ q ∈ cuts, i64I q.n
  ds : ∀ d ∈ ds, i64I d.n
theorem rowsM_ok {x : Instance} {cuts : List Cut} {ds : List Decision} (h : RightB x cuts ds) : RowsOk (rowsM x cuts ds) := by
  intro r hr
  have h1 : i64I 1 := by unfold i64I; omega
  unfold rowsM rowsO rowsT rowsC rowsD at hr
  simp only [List.mem_append, List.mem_map, List.mem_filterMap] at hr
  rcases hr with ((hr | ⟨t, ht, rfl⟩) | ⟨q, hq, rfl⟩) | ⟨d, hd, hr⟩
  · rw [List.eq_of_mem_replicate hr]; exact ⟨fun n hn => (by cases hn), h1⟩
  · exact ⟨fun n hn => (by cases hn), h.types t ht⟩
  · refine ⟨fun n hn => (by cases hn), ?_⟩
    show i64I (rowC q).2
    unfold rowC
    split
    · exact h1
    · split
      · exact h.cuts q hq
      · unfold i64I; omega
  · unfold rowD at hr
    split at hr
    · cases hr; exact ⟨fun n hn => (by cases hn), h.ds d hd⟩
    · split at hr
      · cases hr; exact ⟨fun n hn => (by cases hn), h.ds d hd⟩
      · cases hr
theorem bldA_ok {x : Instance} {cuts : List Cut} {ds : List Decision} (h : RightB x cuts ds) (l : List Column) : ∀ k, k ≤ l.length → RowsOk (bldA x cuts ds (l.take k)).2
  | 0, _ => rowsM_ok h
  | k + 1, hk => by
    obtain ⟨c, hc⟩ := getIn (show k < l.length by omega)
    rw [bldA_succ hc]
    exact addTo_ok (bldA_ok h l k (by omega)) fun n hn => coefsM_in hn
theorem skipCol_in {x : Instance} {o : Int} {n : Nat} {m : Int} (h : m ∈ skipCol x o n) : m = 0 ∨ m = 1 := by
  unfold skipCol at h
  rcases List.mem_append.1 h with h | h
  · obtain ⟨i, _, rfl⟩ := List.mem_map.1 h; exact bitI_in _
  · exact .inl (List.eq_of_mem_replicate h)
theorem bldB_ok {x : Instance} {n : Nat} {s0 : List Int × List PRow} (h : RowsOk s0.2) (l : List Int) : ∀ k, k ≤ l.length → RowsOk (bldB x n s0 (l.take k)).2
  | 0, _ => h
  | k + 1, hk => by
    obtain ⟨c, hc⟩ := getIn (show k < l.length by omega)
    rw [bldB_succ hc]
    exact addTo_ok (bldB_ok h l k (by omega)) fun n hn => skipCol_in hn
theorem build_ok {x : Instance} {d : Nat} {cols : List Column} {cuts : List Cut} {ds : List Decision} (h : (buildM x d cols cuts ds).2 = 0) (hr : RightB x cuts ds) :
    wrongM x d cols cuts ds = 0 ∧ (buildM x d cols cuts ds).1.cost.length = (inM cols ds).length + (skipsM x ds).length ∧ (inM cols ds).length + (skipsM x ds).length ≤ 8192 ∧ (buildM x d cols cuts ds).1.rows.length = rowsN x cuts ds ∧ rowsN x cuts ds ≤ 64 ∧
      (∀ r ∈ (buildM x d cols cuts ds).1.rows, r.coef.length = (inM cols ds).length + (skipsM x ds).length) ∧ RowsOk (buildM x d cols cuts ds).1.rows := by
  unfold buildM at h ⊢
  split at h
  · next h1 => exact absurd h h1
  next h1 =>
  split at h
  · cases h
  next h2 =>
  rw [if_neg h1, if_neg h2]
  have hA := bldA_sz x cuts ds (inM cols ds) _ (Nat.le_refl _)
  have hA2 := bldA_ok hr (inM cols ds) _ (Nat.le_refl _)
  rw [List.take_length] at hA hA2
  have hno : (ordI x).length ≤ rowsN x cuts ds := by unfold rowsN; omega
  have hB := bldB_sz x hno hA (skipsM x ds) _ (Nat.le_refl _)
  have hB2 := bldB_ok (x := x) (n := rowsN x cuts ds) hA2 (skipsM x ds) _ (Nat.le_refl _)
  rw [List.take_length] at hB hB2
  exact ⟨by simpa using h1, hB.1, by omega, hB.2.1, by omega, hB.2.2, hB2⟩
theorem build_lin {x : Instance} {d : Nat} {cols : List Column} {cuts : List Cut} {ds : List Decision} (h : (buildM x d cols cuts ds).2 = 0) (hr : RightB x cuts ds) : LinB (buildM x d cols cuts ds).1 := by
  obtain ⟨_, h1, h2, h3, h4, _, h6⟩ := build_ok h hr
  exact ⟨by omega, by omega, fun r hr n hn => by rcases (h6 r hr).1 n hn with e | e <;> unfold i64I <;> omega, fun r hr => (h6 r hr).2⟩
abbrev zPlan : Row := ⟨53, 2, [[.sl [], .sl []]]⟩
abbrev plRow (ja jb : Nat) : Row := ⟨53, 2, [[.os ja, .os jb]]⟩
abbrev rtRow (l : List Route) : Row := ⟨57, 4, l.map encRoute⟩
structure PlS (H : Heap) (i10 i16 ja jb : Nat) (rs : List Route) (us : List Int) : Prop where
  r10 : H i10 = some zPlan
  r16 : H i16 = some (plRow ja jb)
  ra : H ja = some (rtRow rs)
  rb : H jb = some (iRow us)
  ne : i10 ≠ i16
theorem PlS.mono {H H' : Heap} {i10 i16 ja jb : Nat} {rs : List Route} {us : List Int} (h : PlS H i10 i16 ja jb rs us) (hm : ∀ k row, H k = some row → H' k = some row) : PlS H' i10 i16 ja jb rs us :=
  ⟨hm _ _ h.r10, hm _ _ h.r16, hm _ _ h.ra, hm _ _ h.rb, h.ne⟩
theorem row_ne' {H : Heap} {i j : Nat} {a b : Row} (hi : H i = some a) (hj : H j = some b) (he : (a.e == b.e) = false) : i ≠ j := fun e => by
  subst e; rw [hi] at hj; rw [congrArg Row.e (Option.some.inj hj)] at he; simp at he
theorem PlS.appA {H : Heap} {i10 i16 ja jb : Nat} {rs : List Route} {us : List Int} (h : PlS H i10 i16 ja jb rs us) {ja' : Nat} (hj : H ja' = none) (r : Route) :
    PlS (updH (updH (updH H ja none) ja' (some ⟨57, 4, rs.map encRoute ++ [encRoute r]⟩)) i16 (some (plRow ja' jb))) i10 i16 ja' jb (rs ++ [r]) us := by
  have n1 : i10 ≠ ja := row_ne' h.r10 h.ra rfl
  have n2 : i16 ≠ ja := row_ne' h.r16 h.ra rfl
  have n3 : jb ≠ ja := row_ne' h.rb h.ra rfl
  have n4 : jb ≠ i16 := row_ne' h.rb h.r16 rfl
  have m1 : i10 ≠ ja' := ne_new h.r10 hj
  have m2 : i16 ≠ ja' := ne_new h.r16 hj
  have m3 : jb ≠ ja' := ne_new h.rb hj
  refine ⟨?_, updH_same _ _ _, ?_, ?_, h.ne⟩
  · rw [updH_ne _ _ _ _ h.ne, updH_ne _ _ _ _ m1, updH_ne _ _ _ _ n1]; exact h.r10
  · rw [updH_ne _ _ _ _ m2.symm, updH_same]
    exact congrArg (fun l => some (⟨57, 4, l⟩ : Row)) (List.map_append (f := encRoute) (l₁ := rs) (l₂ := [r])).symm
  · rw [updH_ne _ _ _ _ n4, updH_ne _ _ _ _ m3, updH_ne _ _ _ _ n3]; exact h.rb
theorem PlS.appB {H : Heap} {i10 i16 ja jb : Nat} {rs : List Route} {us : List Int} (h : PlS H i10 i16 ja jb rs us) {jb' : Nat} (hj : H jb' = none) (o : Int) :
    PlS (updH (updH (updH H jb none) jb' (some ⟨3, 1, us.map encInt ++ [[int o]]⟩)) i16 (some (plRow ja jb'))) i10 i16 ja jb' rs (us ++ [o]) := by
  have n1 : i10 ≠ jb := row_ne' h.r10 h.rb rfl
  have n2 : i16 ≠ jb := row_ne' h.r16 h.rb rfl
  have n3 : ja ≠ jb := row_ne' h.ra h.rb rfl
  have n4 : ja ≠ i16 := row_ne' h.ra h.r16 rfl
  have m1 : i10 ≠ jb' := ne_new h.r10 hj
  have m2 : i16 ≠ jb' := ne_new h.r16 hj
  have m3 : ja ≠ jb' := ne_new h.ra hj
  refine ⟨?_, updH_same _ _ _, ?_, ?_, h.ne⟩
  · rw [updH_ne _ _ _ _ h.ne, updH_ne _ _ _ _ m1, updH_ne _ _ _ _ n1]; exact h.r10
  · rw [updH_ne _ _ _ _ n4, updH_ne _ _ _ _ m3, updH_ne _ _ _ _ n3]; exact h.ra
  · rw [updH_ne _ _ _ _ m2.symm, updH_same]
    exact congrArg (fun l => some (⟨3, 1, l⟩ : Row)) (List.map_append (f := encInt) (l₁ := us) (l₂ := [o])).symm
theorem plan_c (x : Instance) (d : Nat) (cols : List Column) (cuts : List Cut) (ds : List Decision) (v : List ByteArray) (hlo : LoadsOk x d) (hne : x.types ≠ []) (h : MIn x cuts ds) (hl : cols.length ≤ 1048576) (hs : ∀ c ∈ cols, c.set ≤ 9223372036854775807) (hq : ∀ q ∈ cuts, q.set ≤ 9223372036854775807)
    (hR : RightB x cuts ds) (hv : VarB v) : PC Tryz.prog 46 [.agg (encInstance x), .sl (cols.map encColumn), .sl (cuts.map encCut), .sl (ds.map encDecision), .sl (v.map Go.Aw.D.encStr)] (.tup [.agg (encPlan (planM x d cols cuts ds v).1), int (planM x d cols cuts ds v).2]) := by
  have h1 := h.orders
  have h4 := h.dl
  have hv1 := hv.len
  refine PC.body (c := Tryz.f46.body.getD .skip) (fun t => t == 16) mixed Tryz.func46 rfl (by kernel_rfl) ?_
  unfold Tryz.f46
  simp only [Option.getD_some]
  simp only [go_sem]
  refine anew_i fun i10 h10 => ?_
  have R10 := updH_same noRows i10 (some zPlan)
  generalize updH noRows i10 _ = H0 at R10 ⊢
  clear h10
  simp only [go_sem]
  refine PC.use (build_c x d cols cuts ds hlo hne h hl hs hq) ?_
  have hok := build_ok (x := x) (d := d) (cols := cols) (cuts := cuts) (ds := ds)
  have hlin := build_lin (x := x) (d := d) (cols := cols) (cuts := cuts) (ds := ds)
  unfold planM
  generalize buildM x d cols cuts ds = B at *
  obtain ⟨p, e⟩ := B
  simp only at hok hlin
  simp only [go_sem]
  refine anew_i fun i12 hi120 => ?_
  have ne_i10_i12 : i10 ≠ i12 := ne_new R10 hi120
  simp only [go_sem, R10]
  refine wputE_n (updH_same _ _ _) (by simp [encPLin_len]) ?_
  generalize hGi12 : updH (updH _ i12 _) i12 _ = HGi12
  replace R10 := (congrFun hGi12.symm i10).trans ((updH_ne _ _ _ _ ne_i10_i12).trans ((updH_ne _ _ _ _ ne_i10_i12).trans R10))
  have R12 : HGi12 i12 = some (⟨77, 2, [encPLin p]⟩) := by rw [← hGi12, updH_same]; rfl
  clear hGi12 hi120
  simp only [go_sem, R12, R10]
  refine acond_i (fun hb => ?_) (fun hb => ?_)
  · rw [if_pos (by simpa using hb)]
    simp only [go_sem]
    refine wputE_n R10 (by simp) ?_
    simp only [go_sem]
    exact .refl _
  have he : e = 0 := by simpa using hb
  obtain ⟨_, k1, k2, k3, k4, k5, k6⟩ := hok he hR
  have hp := hlin he hR
  rw [if_neg (by simpa using he)]
  simp only [go_sem, R12, List.length_map]
  refine acond_i (fun hb => ?_) (fun hb => ?_)
  · rw [if_pos (by simp at hb ⊢; omega)]
    simp only [go_sem]
    refine wputE_n R10 (by simp) ?_
    simp only [go_sem]
    exact .refl _
  have hvl : v.length = p.cost.length := by simp at hb; omega
  rw [if_neg (by simp; omega)]
  simp only [go_sem, List.length_map]
  refine ⟨fun ρ H => ∃ (k : Nat), k ≤ v.length ∧ ρ 1 = .sl (cols.map encColumn) ∧ ρ 3 = .sl (ds.map encDecision) ∧ ρ 4 = .sl (v.map Go.Aw.D.encStr) ∧ ρ 5 = .rp (encInstance x) 0 ∧ ρ 10 = .op i10 0 0 ∧ ρ 12 = .op i12 0 0 ∧ ρ 40 = .sl (v.map Go.Aw.D.encStr) ∧ ρ 41 = int (v.length : Nat) ∧ ρ 42 = int k ∧ H i10 = some zPlan ∧ H i12 = some (⟨77, 2, [encPLin p]⟩ : Row) ∧ ∀ s ∈ v.take k, badB s = false, fun ρ _ => v.length - natOf (ρ 42), ⟨0, Nat.zero_le _, by simp only [go_sem], by simp only [go_sem], by simp only [go_sem], by simp only [go_sem], by simp only [go_sem], by simp only [go_sem], by simp only [go_sem], by simp only [go_sem, List.length_map], (by simp only [go_sem]; rfl), R10, R12, by simp⟩, ?_⟩
  rintro ρ H ⟨k, hk, e1, e3, e4, e5, e10, e12, e40, e41, e42, R10, R12, hz⟩
  simp only [go_sem, e1, e3, e4, e5, e10, e12, e40, e41, e42]
  refine acond_i (fun hlt => ?_) (fun hge => ?_)
  · have hlt := ltB (by simpa using hlt)
    obtain ⟨s, hs1⟩ := getIn hlt
    have b1 := inB hlt
    simp only [go_sem, e1, e3, e4, e5, e10, e12, e40, e41, e42, getD_map hs1, b1]
    refine acond_i (fun hb => ?_) (fun hb => ?_)
    · rw [if_pos (List.any_eq_true.2 ⟨s, List.mem_of_getElem? hs1, hb⟩)]
      simp only [go_sem, e1, e3, e4, e5, e10, e12, e40, e41, e42]
      refine wputE_n R10 (by simp) ?_
      simp only [go_sem, e1, e3, e4, e5, e10, e12, e40, e41, e42]
      exact .refl _
    · simp only [go_sem, e1, e3, e4, e5, e10, e12, e40, e41, e42, wrapS (show k ≤ 4611686018427387904 by omega)]
      exact ⟨⟨k + 1, hlt, rfl, R10, R12, take_all' (p := fun s => badB s = false) hs1 hb hz⟩, by simp only [natOf_int]; omega⟩
  have hge := geB hk (by simpa using hge)
  subst hge
  rw [List.take_length] at hz
  rw [if_neg (fun hc => by obtain ⟨s, hs1, hs2⟩ := List.any_eq_true.1 hc; rw [hz s hs1] at hs2; cases hs2)]
  simp only [go_sem, e1, e3, e4, e5, e10, e12, e40, e41, e42, R12]
  refine PC.use (fits_c p v hp hv) ?_
  simp only [go_sem, e1, e3, e4, e5, e10, e12, e40, e41, e42]
  refine acond_i (fun hb => ?_) (fun hb => ?_)
  · rw [if_pos (by simpa using hb)]
    simp only [go_sem, e1, e3, e4, e5, e10, e12, e40, e41, e42]
    refine wputE_n R10 (by simp) ?_
    simp only [go_sem, e1, e3, e4, e5, e10, e12, e40, e41, e42]
    exact .refl _
  rw [if_neg (by simpa using hb)]
  simp only [go_sem, e1, e3, e4, e5, e10, e12, e40, e41, e42]
  refine anew_i fun ja h1a => ?_
  refine anew_i fun jb h2a => ?_
  refine anew_i fun i16 h3a => ?_
  have S : PlS (updH (updH (updH H ja (some ⟨57, 4, []⟩)) jb (some ⟨3, 1, []⟩)) i16 (some (plRow ja jb))) i10 i16 ja jb [] [] := by
    have m1 := mono_new h1a (some (⟨57, 4, []⟩ : Row))
    have m2 := mono_new h2a (some (⟨3, 1, []⟩ : Row))
    have m3 := mono_new h3a (some (plRow ja jb))
    exact ⟨m3 _ _ (m2 _ _ (m1 _ _ R10)), updH_same _ _ _, m3 _ _ (m2 _ _ (updH_same _ _ _)), m3 _ _ (updH_same _ _ _), ne_new (m2 _ _ (m1 _ _ R10)) h3a⟩
  generalize hG : updH (updH (updH H ja _) jb _) i16 _ = G
  replace S : PlS G i10 i16 ja jb [] [] := by rw [← hG]; exact S
  clear hG h1a h2a h3a R10 R12
  simp only [go_sem, e1, e3, e4, e5, e10, e12, e40, e41, e42]
  refine PC.use (allowed_c cols ds hl h4) ?_
  generalize inM cols ds = L at *
  simp only [go_sem, e1, e3, e4, e5, e10, e12, e40, e41, e42, List.length_map]
  refine ⟨fun ρ H => ∃ (k : Nat) (ja : Nat), k ≤ L.length ∧ ρ 1 = .sl (L.map encColumn) ∧ ρ 3 = .sl (ds.map encDecision) ∧ ρ 4 = .sl (v.map Go.Aw.D.encStr) ∧ ρ 5 = .rp (encInstance x) 0 ∧ ρ 10 = .op i10 0 0 ∧ ρ 16 = .op i16 0 0 ∧ ρ 62 = .sl (L.map encColumn) ∧ ρ 63 = int (L.length : Nat) ∧ ρ 64 = int k ∧ PlS H i10 i16 ja jb ((pickTo L v 0 k).map fun c => c.route) [], fun ρ _ => L.length - natOf (ρ 64), ⟨0, ja, Nat.zero_le _, by simp only [go_sem, e3, e4, e5, e10], by simp only [go_sem, e3, e4, e5, e10], by simp only [go_sem, e3, e4, e5, e10], by simp only [go_sem, e3, e4, e5, e10], by simp only [go_sem, e3, e4, e5, e10], by simp only [go_sem, e3, e4, e5, e10], by simp only [go_sem, e3, e4, e5, e10], by simp only [go_sem, List.length_map, e3, e4, e5, e10], (by simp only [go_sem, e3, e4, e5, e10]; rfl), S⟩, ?_⟩
  rintro ρ H ⟨k, ja, hk, e1, e3, e4, e5, e10, e16, e62, e63, e64, S⟩
  simp only [go_sem, e1, e3, e4, e5, e10, e16, e62, e63, e64]
  refine acond_i (fun hlt => ?_) (fun hge => ?_)
  · have hlt := ltB (by simpa using hlt)
    obtain ⟨c, hc⟩ := getIn hlt
    have b1 := inB hlt
    obtain ⟨s, hs1⟩ := getIn (show k < v.length by omega)
    have b2 := inB (show k < v.length by omega)
    have hpk := pickTo_succ (off := 0) hc (by rw [Nat.zero_add]; exact hs1)
    have hpl := pickTo_len L v 0 k
    simp only [go_sem, e1, e3, e4, e5, e10, e16, e62, e63, e64, getD_map hc, b1]
    refine anew_i fun i18 h18 => ?_
    simp only [go_sem, e1, e3, e4, e5, e10, e16, e62, e63, e64]
    refine wputE_n (updH_same _ _ _) (by simp [encColumn_len]) ?_
    have S1 := S.mono (mono_new2 h18 (some (⟨63, 7, [[int 0, int 0, int 0, int 0, int 0, .sl [], .sl []]]⟩ : Row)) (some (⟨63, 7, [encColumn c]⟩ : Row)))
    generalize hG : updH (updH H i18 _) i18 _ = HG
    replace S1 : PlS HG i10 i16 ja jb ((pickTo L v 0 k).map fun c => c.route) [] := by rw [← hG]; exact S1
    have R18 : HG i18 = some (⟨63, 7, [encColumn c]⟩ : Row) := by rw [← hG, updH_same]; rfl
    clear hG h18
    simp only [go_sem, e1, e3, e4, e5, e10, e16, e62, e63, e64, getD_map hs1, b2]
    refine acond_i (fun hb => ?_) (fun hb => ?_)
    · have hb : is1 s = true := hb
      rw [if_pos hb] at hpk
      simp only [go_sem, e1, e3, e4, e5, e10, e16, e62, e63, e64, S1.r16, R18]
      refine wappE_i S1.ra ⟨rfl, rfl⟩ ⟨rfl, trivial⟩ (by simp only [List.length_map, List.length_cons, List.length_nil]; omega) (fun ja' hj => ?_)
      have S2 := S1.appA hj c.route
      have R16' := keep_app (r' := (⟨57, 4, ((pickTo L v 0 k).map fun c => c.route).map encRoute ++ [encRoute c.route]⟩ : Row)) S1.r16 (row_ne' S1.r16 S1.ra rfl).symm hj
      simp only [go_sem, e1, e3, e4, e5, e10, e16, e62, e63, e64]
      refine wputE_1 so50 R16' ⟨by simp, rfl, by simp⟩ ?_
      simp only [go_sem, e1, e3, e4, e5, e10, e16, e62, e63, e64, wrapS (show k ≤ 4611686018427387904 by omega)]
      refine ⟨⟨k + 1, ja', hlt, rfl, ?_⟩, by simp only [natOf_int]; omega⟩
      rw [hpk, List.map_append]
      exact S2
    · have hb : is1 s = false := hb
      rw [if_neg (by rw [hb]; simp), List.append_nil] at hpk
      simp only [go_sem, e1, e3, e4, e5, e10, e16, e62, e63, e64, wrapS (show k ≤ 4611686018427387904 by omega)]
      exact ⟨⟨k + 1, ja, hlt, rfl, by rw [hpk]; exact S1⟩, by simp only [natOf_int]; omega⟩
  have hge := geB hk (by simpa using hge)
  subst hge
  simp only [go_sem, e1, e3, e4, e5, e10, e16, e62, e63, e64]
  refine PC.use (skips_c x ds h1 h4) ?_
  generalize skipsM x ds = K at *
  generalize (pickTo L v 0 L.length).map (fun c => c.route) = rs at *
  simp only [go_sem, e1, e3, e4, e5, e10, e16, e62, e63, e64, List.length_map]
  refine ⟨fun ρ H => ∃ (k : Nat) (jb : Nat), k ≤ K.length ∧ ρ 1 = .sl (L.map encColumn) ∧ ρ 4 = .sl (v.map Go.Aw.D.encStr) ∧ ρ 10 = .op i10 0 0 ∧ ρ 16 = .op i16 0 0 ∧ ρ 84 = .sl (K.map encInt) ∧ ρ 85 = int (K.length : Nat) ∧ ρ 86 = int k ∧ PlS H i10 i16 ja jb rs (pickTo K v L.length k), fun ρ _ => K.length - natOf (ρ 86), ⟨0, jb, Nat.zero_le _, by simp only [go_sem, e1, e4, e10, e16], by simp only [go_sem, e1, e4, e10, e16], by simp only [go_sem, e1, e4, e10, e16], by simp only [go_sem, e1, e4, e10, e16], by simp only [go_sem, e1, e4, e10, e16], by simp only [go_sem, List.length_map, e1, e4, e10, e16], (by simp only [go_sem, e1, e4, e10, e16]; rfl), S⟩, ?_⟩
  rintro ρ H ⟨k, jb, hk, e1, e4, e10, e16, e84, e85, e86, S⟩
  simp only [go_sem, e1, e4, e10, e16, e84, e85, e86]
  refine acond_i (fun hlt => ?_) (fun hge => ?_)
  · have hlt := ltB (by simpa using hlt)
    obtain ⟨o, ho⟩ := getIn hlt
    have b1 := inB hlt
    obtain ⟨s, hs1⟩ := getIn (show L.length + k < v.length by omega)
    have b2 := inB (show L.length + k < v.length by omega)
    have hpk := pickTo_succ (off := L.length) ho hs1
    have hpl := pickTo_len K v L.length k
    have w : IntKind.i64.wrap ((L.length : Int) + (k : Int)) = ((L.length + k : Nat) : Int) := by rw [wrap_in (by omega)]; omega
    simp only [go_sem, e1, e4, e10, e16, e84, e85, e86, getD_map ho, b1, List.length_map, w, getD_map hs1, b2]
    refine acond_i (fun hb => ?_) (fun hb => ?_)
    · have hb : is1 s = true := hb
      rw [if_pos hb] at hpk
      simp only [go_sem, e1, e4, e10, e16, e84, e85, e86, S.r16]
      refine wappE_i S.rb ⟨rfl, rfl⟩ ⟨rfl, trivial⟩ (by simp only [List.length_map, List.length_cons, List.length_nil]; omega) (fun jb' hj => ?_)
      have S2 := S.appB hj o
      have R16' := keep_app (r' := (⟨3, 1, (pickTo K v L.length k).map encInt ++ [[int o]]⟩ : Row)) S.r16 (row_ne' S.r16 S.rb rfl).symm hj
      simp only [go_sem, e1, e4, e10, e16, e84, e85, e86]
      refine wputE_1 so51 R16' ⟨by simp, rfl, by simp⟩ ?_
      simp only [go_sem, e1, e4, e10, e16, e84, e85, e86, wrapS (show k ≤ 4611686018427387904 by omega)]
      refine ⟨⟨k + 1, jb', hlt, rfl, ?_⟩, by simp only [natOf_int]; omega⟩
      rw [hpk]
      exact S2
    · have hb : is1 s = false := hb
      rw [if_neg (by rw [hb]; simp), List.append_nil] at hpk
      simp only [go_sem, e1, e4, e10, e16, e84, e85, e86, wrapS (show k ≤ 4611686018427387904 by omega)]
      exact ⟨⟨k + 1, jb, hlt, rfl, by rw [hpk]; exact S⟩, by simp only [natOf_int]; omega⟩
  have hge := geB hk (by simpa using hge)
  subst hge
  simp only [go_sem, e1, e4, e10, e16, S.r16]
  refine wputE_n S.r10 (by simp) ?_
  have n1 : ja ≠ i10 := row_ne' S.ra S.r10 rfl
  have n2 : jb ≠ i10 := row_ne' S.rb S.r10 rfl
  simp only [go_sem, e1, e4, e10, e16]
  refine .tup _ _ (.cons _ _ _ _ (.agg _ _ (.cons _ _ _ _ (.row _ _ _ ((updH_ne _ _ _ _ n1).trans S.ra) (ConvE.refl _)) (.cons _ _ _ _ (.row _ _ _ ((updH_ne _ _ _ _ n2).trans S.rb) (ConvE.refl _)) .nil))) (.cons _ _ _ _ (.refl _) .nil))
end Go.Proofs.YtbcfajfngdmgnaaGreatDoor.Nu
end

section
set_option linter.unusedSimpArgs false
set_option linter.unusedVariables false
namespace Go.Proofs.YtbcfajfngdmgnaaGreatDoor.Nu
open Go.Aw Go.Aw.D Go.Proofs Ty Go.Nu
open Dec (chkR knownR allowsR forbidsR decB hasN)
set_option maxRecDepth 100000
theorem allows_eq {x : Instance} {d : Decision} (h : Dec.knownR x d = 0) (hx : x.orders.length ≤ 62) (s : Int) : allowsR d s = !forbidsR d s := by
  have hin : ∀ i : Int, Dec.orderR x i = true → Dec.hasR s i = hasN s i := by
    intro i hi
    unfold Dec.orderR at hi
    simp only [Bool.and_eq_true, decide_eq_true_eq] at hi
    unfold Dec.hasR hasN
    rw [decide_eq_true hi.1, decide_eq_true (show i ≤ 62 by omega)]; rfl
  unfold Dec.knownR at h
  unfold allowsR forbidsR
  by_cases h1 : d.kind = 1
  · rw [if_pos (.inl h1)] at h
    rw [if_pos h1, if_pos h1]
    split at h
    · next hc =>
      simp only [Bool.and_eq_true] at hc
      rw [hin d.a hc.1.1, hin d.b hc.1.2]
      cases hasN s d.a <;> cases hasN s d.b <;> rfl
    · cases h
  · by_cases h2 : d.kind = 2
    · rw [if_pos (.inr h2)] at h
      rw [if_neg h1, if_pos h2, if_neg h1, if_pos h2]
      split at h
      · next hc =>
        simp only [Bool.and_eq_true] at hc
        rw [hin d.a hc.1.1, hin d.b hc.1.2]
        cases hasN s d.a <;> cases hasN s d.b <;> rfl
      · cases h
    · by_cases h6 : d.kind = 6
      · rw [if_neg (by omega), if_pos (.inr h6)] at h
        rw [if_neg h1, if_neg h2, if_pos h6, if_neg h1, if_neg h2, if_pos h6]
        split at h
        · next hc => rw [hin d.a hc]
        · cases h
      · rw [if_neg h1, if_neg h2, if_neg h6, if_neg h1, if_neg h2, if_neg h6]; rfl
theorem chk_all {x : Instance} {ds : List Decision} (h : chkR x ds = 0) : ∀ d ∈ ds, Dec.knownR x d = 0 := by
  unfold chkR at h
  split at h
  · cases h
  · exact fun d hd => Dec.firstErr_zero h _ (List.mem_map.2 ⟨d, hd, rfl⟩)
theorem inside30_c (x : Instance) (cols : List Column) (ds : List Decision) (hck : chkR x ds = 0) (hx : x.orders.length ≤ 62) (hl : cols.length ≤ 1048576) (hd : ds.length ≤ 1048576) (hdb : ∀ d ∈ ds, decB d) (hs : ∀ c ∈ cols, 0 ≤ c.set ∧ c.set ≤ 9223372036854775807) :
    PC Tryz.prog 49 [.sl (cols.map encColumn), .sl (ds.map encDecision)] (.sl ((inM cols ds).map encColumn)) := by
  refine PC.body (c := Tryz.f49.body.getD .skip) (fun t => t == 5) mixed Tryz.func49 rfl (by kernel_rfl) ?_
  unfold Tryz.f49
  simp only [Option.getD_some]
  simp only [go_sem]
  refine anew_i fun j hj0 => ?_
  generalize hGj : updH _ j _ = HGj
  have R : HGj j = some (colRow' []) := by rw [← hGj, updH_same]; rfl
  clear hGj hj0
  simp only [go_sem, R]
  refine ⟨fun ρ H => ∃ (k : Nat) (j : Nat), k ≤ cols.length ∧ ρ 0 = .sl (cols.map encColumn) ∧ ρ 1 = .sl (ds.map encDecision) ∧ ρ 6 = int k ∧ ρ 5 = .os j ∧ H j = some (colRow' (inM (cols.take k) ds)), fun ρ _ => cols.length - natOf (ρ 6), ⟨0, j, Nat.zero_le _, by simp only [go_sem], by simp only [go_sem], (by simp only [go_sem]; rfl), by simp only [go_sem], R⟩, ?_⟩
  rintro ρ H ⟨k, j, hk, e0, e1, e6, e5, R⟩
  simp only [go_sem, e0, e1, e6, e5]
  refine acond_i (fun hlt => ?_) (fun hge => ?_)
  · have hlt := ltB (by simpa using hlt)
    obtain ⟨c, hc⟩ := getIn hlt
    have b1 := inB hlt
    have hsc := hs c (List.mem_of_getElem? hc)
    have hfs : inM (cols.take (k + 1)) ds = inM (cols.take k) ds ++ (if (ds.all fun d => allowsR d c.set) = true then [c] else []) := filter_take (p := fun c : Column => ds.all fun d => allowsR d c.set) hc
    have hln : (inM (cols.take k) ds).length ≤ k := filter_tl _ _ _
    have hal : (ds.all fun d => !forbidsR d c.set) = ds.all fun d => allowsR d c.set := by
      rw [Bool.eq_iff_iff, List.all_eq_true, List.all_eq_true]
      exact forall_congr' fun d => forall_congr' fun hdm => by rw [allows_eq (chk_all hck d hdm) hx]
    simp only [go_sem, e0, e1, e6, e5, getD_map hc, b1]
    refine PC.use (Dec.Allows29_c ds c hd hdb hsc.1 hsc.2) ?_
    rw [hal]
    simp only [go_sem, e0, e1, e6, e5]
    refine acond_i (fun hb => ?_) (fun hb => ?_)
    · rw [if_pos hb] at hfs
      simp only [go_sem, e0, e1, e6, e5, getD_map hc, b1]
      refine wappE_i R ⟨rfl, rfl⟩ ⟨rfl, trivial⟩ (by simp only [List.length_map, List.length_cons, List.length_nil]; omega) (fun j' hj' => ?_)
      simp only [go_sem, e0, e1, e6, e5, wrapS (show k ≤ 4611686018427387904 by omega)]
      refine ⟨⟨k + 1, j', hlt, rfl, rfl, ?_⟩, by simp only [natOf_int]; omega⟩
      rw [hfs]
      exact row_appG rfl
    · rw [if_neg (by rw [hb]; simp), List.append_nil] at hfs
      simp only [go_sem, e0, e1, e6, e5, wrapS (show k ≤ 4611686018427387904 by omega)]
      exact ⟨⟨k + 1, j, hlt, rfl, rfl, by rw [hfs]; exact R⟩, by simp only [natOf_int]; omega⟩
  have hge := geB (by omega) (by simpa using hge)
  subst hge
  rw [List.take_length] at R
  simp only [go_sem, e0, e1, e6, e5]
  exact .row _ _ _ R (ConvE.refl _)
end Go.Proofs.YtbcfajfngdmgnaaGreatDoor.Nu
end

section
set_option linter.unusedSimpArgs false
set_option linter.unusedVariables false
namespace Go.Proofs.YtbcfajfngdmgnaaGreatDoor.Nu
open Go.Aw Go.Aw.D Go.Proofs Ty Go.Nu
open Dec (chkR allowsR forbidsR decB hasN)
set_option maxRecDepth 100000
end Go.Proofs.YtbcfajfngdmgnaaGreatDoor.Nu
end

section
set_option linter.unusedSimpArgs false
set_option linter.unusedVariables false
namespace Go.Proofs.YtbcfajfngdmgnaaGreatDoor.Nu
open Go.Aw Go.Aw.D Go.Proofs Ty Go.Nu
open Dec (chkR allowsR forbidsR decB hasN)
set_option maxRecDepth 100000
end Go.Proofs.YtbcfajfngdmgnaaGreatDoor.Nu
end

section
set_option linter.unusedSimpArgs false
set_option linter.unusedVariables false
namespace Go.Proofs.YtbcfajfngdmgnaaGreatDoor.Nu
open Go.Aw Go.Aw.D Go.Proofs Ty Go.Nu
open Dec (chkR allowsR forbidsR decB hasN)
set_option maxRecDepth 100000
abbrev spRow (jc : Nat) (rows : List PRow) : Row := ⟨77, 2, [[.os jc, .sl (rows.map encPRow)]]⟩
structure SpS (H : Heap) (i8 i11 jc : Nat) (cost : List Int) (rows : List PRow) : Prop where
  r8 : H i8 = some zLin
  p : H i11 = some (spRow jc rows)
  c : H jc = some (iRow cost)
  ne : i8 ≠ i11
theorem SpS.mono {H H' : Heap} {i8 i11 jc : Nat} {cost : List Int} {rows : List PRow} (h : SpS H i8 i11 jc cost rows) (hm : ∀ k row, H k = some row → H' k = some row) : SpS H' i8 i11 jc cost rows :=
  ⟨hm _ _ h.r8, hm _ _ h.p, hm _ _ h.c, h.ne⟩
theorem SpS.app {H : Heap} {i8 i11 jc : Nat} {cost : List Int} {rows : List PRow} (h : SpS H i8 i11 jc cost rows) {j' : Nat} (hj : H j' = none) (n : Int) :
    SpS (updH (updH (updH H jc none) j' (some ⟨3, 1, cost.map encInt ++ [[int n]]⟩)) i11 (some (spRow j' rows))) i8 i11 j' (cost ++ [n]) rows := by
  have n1 : i8 ≠ jc := row_ne' h.r8 h.c rfl
  have n2 : i11 ≠ jc := row_ne' h.p h.c rfl
  have m1 : i8 ≠ j' := ne_new h.r8 hj
  have m2 : i11 ≠ j' := ne_new h.p hj
  refine ⟨?_, updH_same _ _ _, ?_, h.ne⟩
  · rw [updH_ne _ _ _ _ h.ne, updH_ne _ _ _ _ m1, updH_ne _ _ _ _ n1]; exact h.r8
  · rw [updH_ne _ _ _ _ m2.symm, updH_same]
    exact congrArg (fun l => some (⟨3, 1, l⟩ : Row)) (List.map_append (f := encInt) (l₁ := cost) (l₂ := [n])).symm
theorem SpS.put {H : Heap} {i8 i11 jc : Nat} {cost : List Int} {rows : List PRow} (h : SpS H i8 i11 jc cost rows) (rows' : List PRow) : SpS (updH H i11 (some (spRow jc rows'))) i8 i11 jc cost rows' :=
  ⟨by rw [updH_ne _ _ _ _ h.ne]; exact h.r8, updH_same _ _ _, by rw [updH_ne _ _ _ _ (row_ne' h.p h.c rfl).symm]; exact h.c, h.ne⟩
end Go.Proofs.YtbcfajfngdmgnaaGreatDoor.Nu
end

section
set_option linter.unusedSimpArgs false
set_option linter.unusedVariables false
namespace Go.Proofs.YtbcfajfngdmgnaaGreatDoor.Nu
open Go.Aw Go.Aw.D Go.Proofs Ty Go.Nu
open Dec (chkR knownR allowsR forbidsR decB hasN)
set_option maxRecDepth 100000
def smO : Order := ⟨⟨#[111, 97]⟩, [1], ⟨-1, 0, 0, 0⟩, ⟨0, 0, 50, 0⟩, 0, 50, 1, -1, -1, false⟩
def smT : VType := ⟨⟨#[118, 97, 110]⟩, 2, 0, 0, [5], 0, 0, 0, 100, 50, 0, 0, 0, 0⟩
def smX : Instance := ⟨⟨[⟨#[104, 117, 98]⟩], []⟩, [smT], [smO], [], []⟩
def smC : Column := ⟨0, 1, 7, ⟨0, 0, [], [⟨0, true⟩]⟩⟩
def smA : Go.Aw.D.Ask := ⟨smX, [smC], [], []⟩
abbrev ordR (o : Order) : Row := ⟨96, 16, [encOrder o]⟩
abbrev typR (t : VType) : Row := ⟨105, 14, [encVType t]⟩
abbrev insR (x : Instance) : Row := ⟨42, 6, [encInstance x]⟩
abbrev askR (a : Go.Aw.D.Ask) : Row := ⟨73, 9, [encAsk a]⟩
def zA : Go.Aw.D.Ask := ⟨⟨⟨[], []⟩, [], [], [], []⟩, [], [], []⟩
theorem simple_c : PC Tryz.prog 93 [] (.agg (encAsk smA)) := by
  refine PC.body (c := Tryz.f93.body.getD .skip) (fun _ => false) mixed Tryz.func93 rfl (by kernel_rfl) ?_
  unfold Tryz.f93
  simp only [Option.getD_some]
  simp only [go_sem]
  refine anew_i fun i0 hi00 => ?_
  generalize hGi0 : updH _ i0 _ = HGi0
  have R0 : HGi0 i0 = some (askR zA) := by rw [← hGi0, updH_same]; rfl
  clear hGi0 hi00
  simp only [go_sem, R0]
  refine anew_i fun i1 hi10 => ?_
  have ne_i0_i1 : i0 ≠ i1 := ne_new R0 hi10
  simp only [go_sem, R0]
  refine wputE_n (updH_same _ _ _) (by simp) ?_
  generalize hGi1 : updH (updH _ i1 _) i1 _ = HGi1
  replace R0 := (congrFun hGi1.symm i0).trans ((updH_ne _ _ _ _ ne_i0_i1).trans ((updH_ne _ _ _ _ ne_i0_i1).trans R0))
  have R1 : HGi1 i1 = some (ordR smO) := by rw [← hGi1, updH_same]; rfl
  clear hGi1 hi10
  simp only [go_sem, R1, R0]
  refine anew_i fun i2 hi20 => ?_
  have ne_i0_i2 : i0 ≠ i2 := ne_new R0 hi20
  have ne_i1_i2 : i1 ≠ i2 := ne_new R1 hi20
  simp only [go_sem, R0, R1]
  refine wputE_n (updH_same _ _ _) (by simp) ?_
  generalize hGi2 : updH (updH _ i2 _) i2 _ = HGi2
  replace R0 := (congrFun hGi2.symm i0).trans ((updH_ne _ _ _ _ ne_i0_i2).trans ((updH_ne _ _ _ _ ne_i0_i2).trans R0))
  replace R1 := (congrFun hGi2.symm i1).trans ((updH_ne _ _ _ _ ne_i1_i2).trans ((updH_ne _ _ _ _ ne_i1_i2).trans R1))
  have R2 : HGi2 i2 = some (typR smT) := by rw [← hGi2, updH_same]; rfl
  clear hGi2 hi20
  simp only [go_sem, R2, R0, R1]
  refine anew_i fun i3 hi30 => ?_
  have ne_i0_i3 : i0 ≠ i3 := ne_new R0 hi30
  simp only [go_sem, R0]
  refine wputE_n (updH_same _ _ _) (by simp) ?_
  generalize hGi3 : updH (updH _ i3 _) i3 _ = HGi3
  replace R0 := (congrFun hGi3.symm i0).trans ((updH_ne _ _ _ _ ne_i0_i3).trans ((updH_ne _ _ _ _ ne_i0_i3).trans R0))
  have R3 : HGi3 i3 = some (insR smX) := by rw [← hGi3, updH_same]; rfl
  clear hGi3 hi30
  simp only [go_sem, R3, R0]
  refine wputE_n R0 (by simp; decide) ?_
  simp only [go_sem]
  exact .refl _
theorem sm_loads : LoadsOk smX 1 where
  dims := by decide
  orders := by decide
  types := by decide
  load := by
    intro o ho
    simp [smX, smO] at ho
    subst ho
    simp
  cap := by
    intro t ht
    simp [smX, smT] at ht
    subst ht
    simp
theorem sm_build : buildM smX 1 [smC] [] [] = (⟨[7, 838860800], [⟨[1, 1], 2, 1⟩, ⟨[1, 0], 1, 2⟩]⟩, 0) := by decide +kernel
theorem sm_reduced : reducedM smX smC [] [] [⟨#[51]⟩, ⟨#[45, 49]⟩] = (⟨#[53]⟩, 0) := by decide +kernel
theorem sm_plan : planM smX 1 [smC] [] [] [⟨#[48]⟩, ⟨#[49]⟩] = (⟨[], [0]⟩, 0) := by decide +kernel
theorem sm_rows : rowsN smX [] [] = 2 := by decide +kernel
theorem awake30_c : PC Tryz.prog 33 [] (boo true) := by
  have hM : MIn smX [] [] := ⟨by decide, by decide, by decide, by decide⟩
  have hR : RightB smX [] [] := ⟨fun t ht => (by simp [smX, smT] at ht; subst ht; unfold i64I; decide), fun q hq => (by cases hq), fun q hq => (by cases hq)⟩
  have hb := build_c smX 1 [smC] [] [] sm_loads (by simp [smX]) hM (by decide) (by simp [smC]) (by simp)
  rw [sm_build] at hb
  have hr := mReduced_c smX smC [] [] [⟨#[51]⟩, ⟨#[45, 49]⟩] hM ⟨by decide⟩ ⟨fun q hq => by cases hq⟩ (by decide) (by decide) (by simp; decide)
  rw [sm_reduced] at hr
  have hp := plan_c smX 1 [smC] [] [] [⟨#[48]⟩, ⟨#[49]⟩] sm_loads (by simp [smX]) hM (by decide) (by simp [smC]) (by simp) hR ⟨by decide, by simp; decide⟩
  rw [sm_plan] at hp
  have hp0 := hp
  clear hp
  have hw := mRows_c smX [] [] hM
  rw [sm_rows] at hw
  refine PC.body (c := Tryz.f33.body.getD .skip) (fun _ => false) mixed Tryz.func33 rfl (by kernel_rfl) ?_
  unfold Tryz.f33
  simp only [Option.getD_some]
  simp only [go_sem]
  refine PC.use simple_c ?_
  simp only [go_sem]
  refine anew_i fun i1 hi10 => ?_
  simp only [go_sem]
  refine wputE_n (updH_same _ _ _) (by simp [encAsk_len]) ?_
  generalize hGi1 : updH (updH _ i1 _) i1 _ = HGi1
  have R1 : HGi1 i1 = some (askR smA) := by rw [← hGi1, updH_same]; rfl
  clear hGi1 hi10
  simp only [go_sem, R1]
  refine PC.use hb ?_
  simp only [go_sem]
  refine anew_i fun i2 hi20 => ?_
  have ne_i1_i2 : i1 ≠ i2 := ne_new R1 hi20
  simp only [go_sem, R1]
  refine wputE_n (updH_same _ _ _) (by simp [encPLin_len]) ?_
  generalize hGi2 : updH (updH _ i2 _) i2 _ = HGi2
  replace R1 := (congrFun hGi2.symm i1).trans ((updH_ne _ _ _ _ ne_i1_i2).trans ((updH_ne _ _ _ _ ne_i1_i2).trans R1))
  have R2 : HGi2 i2 = some (⟨77, 2, [encPLin ⟨[7, 838860800], [⟨[1, 1], 2, 1⟩, ⟨[1, 0], 1, 2⟩]⟩]⟩) := by rw [← hGi2, updH_same]; rfl
  clear hGi2 hi20
  simp only [go_sem, R2, R1]
  refine adraw_p [i1] [(0, true), (1, true), (2, true), (3, true), (4, true), (5, true), (6, false), (7, false), (8, false), (9, true), (10, true), (11, false), (12, false)] (by simp [R1]) (by kernel_rfl) fun Hp Hr hp hq _ hr0 => ?_
  have P1 := (hp i1 (by simp)).trans R1
  have m2 : i2 ∉ [i1] := by simpa using ne_i1_i2.symm
  have S2 := (hq i2 m2).trans R2
  simp only [go_sem, P1]
  refine ⟨⟨by decide, rfl⟩, by decide, ?_⟩
  refine PC.use hr ?_
  simp only [go_sem]
  refine pinEnd_i fun _ Hm hm1 hm2 => ?_
  have R1 : Hm i1 = some (askR smA) := (hm1 i1 (by simp)).trans R1
  have R2 := (hm2 i2 m2).trans S2
  clear hm1 hm2 S2 P1 hp hq hr0
  simp only [go_sem, R1]
  refine PC.use hp0 ?_
  simp only [go_sem]
  refine anew_i fun i6 hi60 => ?_
  have ne_i1_i6 : i1 ≠ i6 := ne_new R1 hi60
  have ne_i2_i6 : i2 ≠ i6 := ne_new R2 hi60
  simp only [go_sem, R1, R2]
  refine wputE_n (updH_same _ _ _) (by simp [encPlan_len]) ?_
  generalize hGi6 : updH (updH _ i6 _) i6 _ = HGi6
  replace R1 := (congrFun hGi6.symm i1).trans ((updH_ne _ _ _ _ ne_i1_i6).trans ((updH_ne _ _ _ _ ne_i1_i6).trans R1))
  replace R2 := (congrFun hGi6.symm i2).trans ((updH_ne _ _ _ _ ne_i2_i6).trans ((updH_ne _ _ _ _ ne_i2_i6).trans R2))
  have R6 : HGi6 i6 = some (⟨53, 2, [encPlan ⟨[], [0]⟩]⟩) := by rw [← hGi6, updH_same]; rfl
  clear hGi6 hi60
  simp only [go_sem, R6, R1, R2]
  refine ⟨fun _ => by decide, fun _ => by decide, fun _ => by decide, int 2, fun _ => hw.q rfl, ?_⟩
  simp only [go_sem]
  exact cB (a := true) (by decide)
def shortP (l : List ByteArray) : Bool := decide (l.length ≤ 60) && !(l.take 61).any fun s => decide ((s.size : Int) > 60)
theorem short_c (l : List ByteArray) (hl : l.length ≤ 1048576) : PC Tryz.prog 43 [.sl (l.map Go.Aw.D.encStr)] (boo (shortP l)) := by
  refine PC.body (c := Tryz.f43.body.getD .skip) (fun _ => false) mixed Tryz.func43 rfl (by kernel_rfl) ?_
  unfold Tryz.f43
  simp only [Option.getD_some]
  simp only [go_sem]
  refine ⟨fun ρ H => ∃ k : Nat, k ≤ 61 ∧ k ≤ l.length ∧ ρ 0 = .sl (l.map Go.Aw.D.encStr) ∧ ρ 3 = int k ∧ ∀ s ∈ l.take k, decide ((s.size : Int) > 60) = false, fun ρ _ => 61 - natOf (ρ 3), ⟨0, by omega, by omega, by simp only [go_sem], by simp only [go_sem]; rfl, by simp⟩, ?_⟩
  rintro ρ H ⟨k, hk, hkl, e0, e3, hz⟩
  simp only [go_sem, e0, e3, List.length_map]
  refine acond_i (fun hlt => ?_) (fun hge => ?_)
  · have hlt : k < l.length ∧ k < 61 := by simp at hlt; omega
    obtain ⟨s, hs⟩ := getIn hlt.1
    have b1 := inB hlt.1
    simp only [go_sem, e0, e3, getD_map hs, b1]
    refine acond_i (fun hb => ?_) (fun hb => ?_)
    · simp only [go_sem]
      refine cB ?_
      unfold shortP
      rw [List.any_eq_true.2 ⟨s, List.mem_of_getElem? (by rw [List.getElem?_take_of_lt hlt.2]; exact hs), hb⟩]
      simp
    · simp only [go_sem, e0, e3, wrapS (show k ≤ 4611686018427387904 by omega)]
      exact ⟨⟨k + 1, by omega, by omega, rfl, take_all' (p := fun s : ByteArray => decide ((s.size : Int) > 60) = false) hs hb hz⟩, by simp only [natOf_int]; omega⟩
  · have hge : ¬ (k < l.length ∧ k < 61) := by simp at hge; omega
    simp only [go_sem, e0, e3, List.length_map]
    refine cB ?_
    unfold shortP
    have ht : l.take 61 = l.take k := by
      by_cases h : k = 61
      · rw [h]
      · rw [List.take_of_length_le (by omega), List.take_of_length_le (by omega)]
    have ha : ((l.take 61).any fun s => decide ((s.size : Int) > 60)) = false := by
      rw [ht, List.any_eq_false]
      intro s hs
      rw [hz s hs]; simp
    rw [ha]
    simp
    try omega
def smallP (a : Go.Aw.D.Ask) : Bool := !(decide ((a.l.length : Int) > 40) || decide ((a.cuts.length : Int) > 12) || decide ((a.d.length : Int) > 12) || decide ((a.x.orders.length : Int) > 5) || decide (((checkR a.x).length : Int) > 0)) && !a.l.any fun c => decide ((c.route.visits.length : Int) > 12)
theorem small_c (a : Go.Aw.D.Ask) (hx : InB a.x) (hl : a.l.length ≤ 1048576) : PC Tryz.prog 32 [.agg (encAsk a)] (boo (smallP a)) := by
  refine PC.body (c := Tryz.f32.body.getD .skip) (fun _ => false) mixed Tryz.func32 rfl (by kernel_rfl) ?_
  unfold Tryz.f32
  simp only [Option.getD_some]
  simp only [go_sem]
  refine ⟨_, fun _ => (NC.pc (check_c a.x hx)).qn, ?_⟩
  simp only [go_sem, List.length_map]
  refine acond_i (fun hb => ?_) (fun hb => ?_)
  · simp only [go_sem]
    refine cB ?_
    unfold smallP
    rw [hb]; rfl
  unfold smallP
  rw [hb]
  simp only [go_sem]
  refine ⟨fun ρ H => ∃ (k : Nat), k ≤ a.l.length ∧ ρ 1 = .rp (encAsk a) 0 ∧ ρ 3 = int k ∧ ∀ c ∈ a.l.take k, decide ((c.route.visits.length : Int) > 12) = false, fun ρ _ => a.l.length - natOf (ρ 3), ⟨0, Nat.zero_le _, by simp only [go_sem], (by simp only [go_sem]; rfl), by simp⟩, ?_⟩
  rintro ρ H ⟨k, hk, e1, e3, hz⟩
  simp only [go_sem, e1, e3]
  refine acond_i (fun hlt => ?_) (fun hge => ?_)
  · have hlt := ltB (by simpa using hlt)
    obtain ⟨c, hc⟩ := getIn hlt
    have b1 := inB hlt
    simp only [go_sem, e1, e3, getD_map hc, b1]
    refine acond_i (fun hd => ?_) (fun hd => ?_)
    · simp only [go_sem]
      refine cB ?_
      rw [List.any_eq_true.2 ⟨c, List.mem_of_getElem? hc, hd⟩]
      rfl
    · simp only [go_sem, e1, e3, wrapS (show k ≤ 4611686018427387904 by omega)]
      exact ⟨⟨k + 1, hlt, rfl, take_all' (p := fun c : Column => decide ((c.route.visits.length : Int) > 12) = false) hc hd hz⟩, by simp only [natOf_int]; omega⟩
  have hge := geB hk (by simpa using hge)
  subst hge
  rw [List.take_length] at hz
  simp only [go_sem, e1, e3]
  refine cB ?_
  have : (a.l.any fun c => decide ((c.route.visits.length : Int) > 12)) = false := by
    rw [List.any_eq_false]
    intro c hc
    rw [hz c hc]; simp
  rw [this]; rfl
theorem small_acc {a : Go.Aw.D.Ask} (h : smallP a = true) : Acc a.x ∧ a.l.length ≤ 40 ∧ a.cuts.length ≤ 12 ∧ a.d.length ≤ 12 ∧ a.x.orders.length ≤ 5 := by
  unfold smallP at h
  simp only [Bool.and_eq_true, Bool.not_eq_true', Bool.or_eq_false_iff, decide_eq_false_iff_not] at h
  obtain ⟨⟨⟨⟨⟨h1, h2⟩, h3⟩, h4⟩, h5⟩, _⟩ := h
  exact ⟨acc_of (List.eq_nil_of_length_eq_zero (by omega)), by omega, by omega, by omega, by omega⟩
end Go.Proofs.YtbcfajfngdmgnaaGreatDoor.Nu
end

section
set_option linter.unusedSimpArgs false
set_option linter.unusedVariables false
namespace Go.Proofs.YtbcfajfngdmgnaaGreatDoor.Nu
open Go.Aw Go.Aw.D Go.Proofs Ty Go.Nu
open Dec (chkR knownR allowsR forbidsR decB hasN)
set_option maxRecDepth 100000
end Go.Proofs.YtbcfajfngdmgnaaGreatDoor.Nu
end

section
set_option linter.unusedSimpArgs false
set_option linter.unusedVariables false
namespace Go.Proofs.YtbcfajfngdmgnaaGreatDoor.Nu
open Go.Aw Go.Aw.D Go.Proofs Ty Go.Nu
open Dec (chkR allowsR forbidsR decB hasN)
set_option maxRecDepth 100000
end Go.Proofs.YtbcfajfngdmgnaaGreatDoor.Nu
end

section
set_option linter.unusedSimpArgs false
set_option linter.unusedVariables false
namespace Go.Proofs.YtbcfajfngdmgnaaGreatDoor.Nu
open Go.Aw Go.Aw.D Go.Proofs Ty Go.Nu
open Dec (chkR allowsR forbidsR decB hasN)
set_option maxRecDepth 100000
theorem ratS_int (n : Int) : ratS (n : Rat) = zed n := by unfold ratS; rw [if_pos (Rat.den_intCast n), Rat.num_intCast]
theorem small_int {n : Int} (h : n.natAbs < maxN) : SmallR (n : Rat) := ⟨by rw [Rat.num_intCast]; exact h, by rw [Rat.den_intCast]; exact lt_max (k := 1) (by decide) (by decide)⟩
theorem right_zed {n : Int} (h : n.natAbs < maxN) : rightR (zed n) = true := by rw [← ratS_int]; exact rightR_ratS (small_int h)
theorem val_zed (n : Int) : valR (zed n) = (n : Rat) := by rw [← ratS_int, valR_ratS]
def v01 (s : ByteArray) : Int := if is1 s = true then 1 else 0
def dotI : List Int → List ByteArray → Int
  | n :: l, s :: v => n * v01 s + dotI l v
  | _, _ => 0
theorem max_big {n : Int} (h : n.natAbs ≤ 1000000000000000000000000000000000000000000) : n.natAbs < maxN := lt_max (k := 43) (Nat.lt_of_le_of_lt h (by decide)) (by decide)
end Go.Proofs.YtbcfajfngdmgnaaGreatDoor.Nu
end

section
set_option linter.unusedSimpArgs false
set_option linter.unusedVariables false
namespace Go.Proofs.YtbcfajfngdmgnaaGreatDoor.Nu
open Go.Aw Go.Aw.D Go.Proofs Ty Go.Nu
open Dec (chkR allowsR forbidsR decB hasN)
set_option maxRecDepth 100000
structure AskB (a : Go.Aw.D.Ask) : Prop where
  x : InB a.x
  l : a.l.length ≤ 1048576
  set : ∀ c ∈ a.l, i64I c.set
  cset : ∀ q ∈ a.cuts, q.set ≤ 9223372036854775807
  right : RightB a.x a.cuts a.d
  dec : ∀ d ∈ a.d, decB d
def askD (a : Go.Aw.D.Ask) : Nat := (dimsR a.x.types).toNat
end Go.Proofs.YtbcfajfngdmgnaaGreatDoor.Nu
end

section
set_option linter.unusedSimpArgs false
set_option linter.unusedVariables false
namespace Go.Proofs.YtbcfajfngdmgnaaGreatDoor.Nu
open Go.Aw Go.Aw.D Go.Proofs Ty Go.Nu
open Dec (chkR allowsR forbidsR decB hasN)
set_option maxRecDepth 100000
end Go.Proofs.YtbcfajfngdmgnaaGreatDoor.Nu
end

section
set_option linter.unusedSimpArgs false
set_option linter.unusedVariables false
namespace Go.Proofs.YtbcfajfngdmgnaaGreatDoor.Nu
open Go.Aw Go.Aw.D Go.Proofs Ty Go.Nu
open Dec (chkR allowsR forbidsR decB hasN)
set_option maxRecDepth 100000
end Go.Proofs.YtbcfajfngdmgnaaGreatDoor.Nu
end
