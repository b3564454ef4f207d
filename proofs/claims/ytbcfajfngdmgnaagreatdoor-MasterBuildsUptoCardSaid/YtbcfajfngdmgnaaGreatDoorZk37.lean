/- Texts joined by a program: MaQ, MaL, MaM, MaR, MaS, EndMB. -/
import Derived.Test.YtbcfajfngdmgnaaGreatDoorZk29
import Derived.Test.YtbcfajfngdmgnaaGreatDoorZk35
import Derived.Test.YtbcfajfngdmgnaaGreatDoorZk36

section
set_option linter.unusedSimpArgs false
set_option linter.unusedVariables false
namespace Go.Proofs.YtbcfajfngdmgnaaGreatDoor.Nu
open Go.Aw Go.Aw.D Go.Proofs Ty Go.Nu
open Dec (chkR allowsR forbidsR decB hasN)
set_option maxRecDepth 100000
abbrev spRow (jc : Nat) (rows : List PRow) : Row := ⟨77, 2, [[.os jc, .sl (rows.map encPRow)]]⟩
structure SpS (H : Heap) (i8 i11 jc : Nat) (cost : List Int) (rows : List PRow) : Prop where
  r8 : H i8 = some zLin
  p : H i11 = some (spRow jc rows)
  c : H jc = some (iRow cost)
  ne : i8 ≠ i11
theorem SpS.mono {H H' : Heap} {i8 i11 jc : Nat} {cost : List Int} {rows : List PRow} (h : SpS H i8 i11 jc cost rows) (hm : ∀ k row, H k = some row → H' k = some row) : SpS H' i8 i11 jc cost rows :=
  ⟨hm _ _ h.r8, hm _ _ h.p, hm _ _ h.c, h.ne⟩
theorem SpS.app {H : Heap} {i8 i11 jc : Nat} {cost : List Int} {rows : List PRow} (h : SpS H i8 i11 jc cost rows) {j' : Nat} (hj : H j' = none) (n : Int) :
    SpS (updH (updH (updH H jc none) j' (some ⟨3, 1, cost.map encInt ++ [[int n]]⟩)) i11 (some (spRow j' rows))) i8 i11 j' (cost ++ [n]) rows := by
  have n1 : i8 ≠ jc := row_ne' h.r8 h.c rfl
  have n2 : i11 ≠ jc := row_ne' h.p h.c rfl
  have m1 : i8 ≠ j' := ne_new h.r8 hj
  have m2 : i11 ≠ j' := ne_new h.p hj
  refine ⟨?_, updH_same _ _ _, ?_, h.ne⟩
  · rw [updH_ne _ _ _ _ h.ne, updH_ne _ _ _ _ m1, updH_ne _ _ _ _ n1]; exact h.r8
  · rw [updH_ne _ _ _ _ m2.symm, updH_same]
    exact congrArg (fun l => some (⟨3, 1, l⟩ : Row)) (List.map_append (f := encInt) (l₁ := cost) (l₂ := [n])).symm
theorem SpS.put {H : Heap} {i8 i11 jc : Nat} {cost : List Int} {rows : List PRow} (h : SpS H i8 i11 jc cost rows) (rows' : List PRow) : SpS (updH H i11 (some (spRow jc rows'))) i8 i11 jc cost rows' :=
  ⟨by rw [updH_ne _ _ _ _ h.ne]; exact h.r8, updH_same _ _ _, by rw [updH_ne _ _ _ _ (row_ne' h.p h.c rfl).symm]; exact h.c, h.ne⟩
theorem check30M_eq (x : Instance) (d : Nat) (cols : List Column) (cuts : List Cut) (ds : List Decision) : buildM x d cols cuts ds = if check30M x d cols cuts ds ≠ 0 then (⟨[], []⟩, check30M x d cols cuts ds) else
    (⟨(bldB x (rowsN x cuts ds) (bldA x cuts ds (inM cols ds)) (skipsM x ds)).1, (bldB x (rowsN x cuts ds) (bldA x cuts ds (inM cols ds)) (skipsM x ds)).2⟩, 0) := by
  unfold buildM check30M
  by_cases h1 : wrongM x d cols cuts ds ≠ 0
  · rw [if_pos h1, if_pos h1, if_pos h1]
  · rw [if_neg h1, if_neg h1]
    by_cases h2 : rowsN x cuts ds > 64 ∨ (inM cols ds).length + (skipsM x ds).length > 8192
    · rw [if_pos h2, if_pos h2, if_pos (by decide)]
    · rw [if_neg h2, if_neg h2, if_neg (by decide)]
theorem check30_zero {x : Instance} {d : Nat} {cols : List Column} {cuts : List Cut} {ds : List Decision} (h : check30M x d cols cuts ds = 0) : wrongM x d cols cuts ds = 0 ∧ rowsN x cuts ds ≤ 64 ∧ (inM cols ds).length + (skipsM x ds).length ≤ 8192 := by
  unfold check30M at h
  split at h
  · next h1 => exact absurd h h1
  next h1 =>
  split at h
  · cases h
  next h2 => exact ⟨by simpa using h1, by omega, by omega⟩
theorem addCols_with {p : List Int × List PRow} {cost : Int} {col : List Int} (h : col.length = p.2.length) : withR p.2 col = (addCols p cost col).2 := by
  rw [withR_eq]; unfold addCols; rw [h]
theorem build30_c (x : Instance) (d : Nat) (cols : List Column) (cuts : List Cut) (ds : List Decision) (hlo : LoadsOk x d) (hne : x.types ≠ []) (h : MIn x cuts ds) (hl : cols.length ≤ 1048576) (hs : ∀ c ∈ cols, i64I c.set) (hq : ∀ q ∈ cuts, q.set ≤ 9223372036854775807) (hdb : ∀ d ∈ ds, decB d) :
    PC Tryz.prog 35 [.agg (encInstance x), .sl (cols.map encColumn), .sl (cuts.map encCut), .sl (ds.map encDecision)] (.tup [.agg (encPLin (buildM x d cols cuts ds).1), int (buildM x d cols cuts ds).2]) := by
  have h1 := h.orders
  have h2 := h.types
  have h3 := h.cl
  have h4 := h.dl
  have hol := ordI_len x
  refine PC.body (c := Tryz.f35.body.getD .skip) (fun t => t == 33) mixed Tryz.func35 rfl (by kernel_rfl) ?_
  unfold Tryz.f35
  simp only [Option.getD_some]
  simp only [go_sem]
  refine anew_i fun i8 h8 => ?_
  have R8 := updH_same noRows i8 (some zLin)
  generalize updH noRows i8 _ = HGi8 at R8 ⊢
  clear h8
  simp only [go_sem]
  refine PC.use (check30_c x d cols cuts ds hlo hne h hl hs hq hdb) ?_
  rw [check30M_eq]
  simp only [go_sem]
  refine acond_i (fun hb => ?_) (fun hb => ?_)
  · rw [if_pos (by simpa using hb)]
    simp only [go_sem]
    refine wputE_n R8 (by simp) ?_
    simp only [go_sem]
    exact .refl _
  rw [if_neg (by simpa using hb)]
  obtain ⟨hw0, hz1, hz2⟩ := check30_zero (show check30M x d cols cuts ds = 0 by simpa using hb)
  obtain ⟨hck, hw2, hw3⟩ := wrong_zero hw0
  have hcb : CutsB cuts := ⟨fun q hqm => ⟨rightC_set (hw2 q hqm), hq q hqm⟩⟩
  have hsb : ∀ c ∈ cols, 0 ≤ c.set ∧ c.set ≤ 9223372036854775807 := fun c hc => ⟨by have := badC_set (hw3 c hc); omega, (hs c hc).2⟩
  have hno : (ordI x).length ≤ rowsN x cuts ds := by unfold rowsN; omega
  simp only [go_sem]
  refine PC.use (bare30_c x cuts ds h) ?_
  simp only [go_sem]
  refine anew_i fun ia ha => ?_
  refine anew_i fun ib hb2 => ?_
  refine anew_i fun i11 h11 => ?_
  simp only [go_sem]
  refine wputE_n (updH_same _ _ _) (by simp) ?_
  have S : SpS (updH (updH (updH (updH HGi8 ia (some (⟨3, 1, []⟩ : Row))) ib (some ⟨144, 3, []⟩)) i11 (some zLin)) i11 (some (spRow ia (rowsM x cuts ds)))) i8 i11 ia [] (rowsM x cuts ds) := by
    have m1 := mono_new ha (some (⟨3, 1, []⟩ : Row))
    have m2 := mono_new hb2 (some (⟨144, 3, []⟩ : Row))
    have m3 := mono_new2 h11 (some zLin) (some (spRow ia (rowsM x cuts ds)))
    refine ⟨m3 _ _ (m2 _ _ (m1 _ _ R8)), updH_same _ _ _, m3 _ _ (m2 _ _ (updH_same _ _ _)), fun e => ?_⟩
    have := m2 _ _ (m1 _ _ R8)
    rw [e, h11] at this; cases this
  generalize hG : updH (updH (updH (updH HGi8 ia _) ib _) i11 _) i11 _ = G
  replace S : SpS G i8 i11 ia [] (rowsM x cuts ds) := by rw [← hG]; exact S
  clear hG h11 hb2 ha R8
  simp only [go_sem]
  refine PC.use (inside30_c x cols ds hck h1 hl h4 hdb hsb) ?_
  simp only [go_sem]
  have hLl : (inM cols ds).length ≤ cols.length := List.length_filter_le _ _
  have hSl : (skipsM x ds).length ≤ (ordI x).length := List.length_filter_le _ _
  have hLm : ∀ c ∈ inM cols ds, c ∈ cols := fun c hc => (List.mem_filter.1 hc).1
  have hskip := skips30_c x ds h1 h4
  generalize inM cols ds = L at *
  generalize skipsM x ds = K at *
  refine ⟨fun ρ H => ∃ (k : Nat) (jc : Nat), k ≤ L.length ∧ ρ 2 = .sl (cuts.map encCut) ∧ ρ 3 = .sl (ds.map encDecision) ∧ ρ 4 = .rp (encInstance x) 0 ∧ ρ 8 = .op i8 0 0 ∧ ρ 11 = .op i11 0 0 ∧ ρ 12 = .sl (L.map encColumn) ∧ ρ 13 = int k ∧ SpS H i8 i11 jc (bldA x cuts ds (L.take k)).1 (bldA x cuts ds (L.take k)).2, fun ρ _ => L.length - natOf (ρ 13), ⟨0, ia, Nat.zero_le _, by simp only [go_sem], by simp only [go_sem], by simp only [go_sem], by simp only [go_sem], by simp only [go_sem], by simp only [go_sem], (by simp only [go_sem]; rfl), S⟩, ?_⟩
  rintro ρ H ⟨k, jc, hk, e2, e3, e4, e8, e11, e12, e13, S⟩
  simp only [go_sem, e2, e3, e4, e8, e11, e12, e13]
  refine acond_i (fun hlt => ?_) (fun hge => ?_)
  · have hlt := ltB (by simpa using hlt)
    obtain ⟨c, hc⟩ := getIn hlt
    have b1 := inB hlt
    have hcm := hLm c (List.mem_of_getElem? hc)
    have hz := bldA_sz x cuts ds L k (by omega)
    have hsu := bldA_succ (x := x) (cuts := cuts) (ds := ds) hc
    generalize bldA x cuts ds (L.take k) = p at *
    have hcl := coefsM_len x c cuts ds
    have hco := coefs30_c x c cuts ds h ⟨(hsb c hcm).1, (hsb c hcm).2⟩ hcb
    generalize coefsM x c cuts ds = C at *
    have hw := addCols_with (p := p) (cost := c.price) (show C.length = p.2.length by rw [hcl, hz.2.1])
    simp only [go_sem, e2, e3, e4, e8, e11, e12, e13]
    refine adraw_join (fun ρ' H' => ρ' 2 = .sl (cuts.map encCut) ∧ ρ' 3 = .sl (ds.map encDecision) ∧ ρ' 4 = .rp (encInstance x) 0 ∧ ρ' 8 = .op i8 0 0 ∧ ρ' 11 = .op i11 0 0 ∧ ρ' 12 = .sl (L.map encColumn) ∧ ρ' 13 = int k ∧ ∃ jc', SpS H' i8 i11 jc' (p.1 ++ [c.price]) p.2) ?_ fun K hK => ?_
    rotate_left
    · refine adraw_t [] (.q 0 (.q 2 (.q 3 (.q 4 (.q 5 (.q 6 (.a2 1 (.a1 7 (.a1 8 (.a1 9 (.a1 10 .nil)))) 7 (.a1 1 (.a1 8 (.a1 9 (.a1 10 .nil))))))))))) (by simp) (by kernel_rfl) fun Hp Hr _ hq _ _ => ?_
      replace S := S.mono fun q row h => (hq q (by simp)).trans h
      simp only [go_sem, e2, e3, e4, e8, e11, e12, e13, getD_map hc, b1, S.p]
      repeat' (first | (refine amixt_2i ?_ ?_) | (simp only [go_sem, e2, e3, e4, e8, e11, e12, e13, getD_map hc, b1, S.p]))
      all_goals
        refine wappE_i S.c ⟨rfl, rfl⟩ ⟨rfl, trivial⟩ (by simp only [List.length_map, List.length_cons, List.length_nil]; rw [hz.1]; omega) (fun j' hj' => ?_)
        have S2 := S.app hj' c.price
        have P2 := keep_app (r' := (⟨3, 1, p.1.map encInt ++ [[int c.price]]⟩ : Row)) S.p (row_ne' S.p S.c rfl).symm hj'
        simp only [go_sem, e2, e3, e4, e8, e11, e12, e13]
        refine wputE_1 so51 P2 ⟨by simp, rfl, by simp⟩ ?_
        exact pinEnd_i fun _ Hm _ hm2 => hK _ _ ⟨by simp only [go_sem, e2, e3, e4, e8, e11, e12, e13], by simp only [go_sem, e2, e3, e4, e8, e11, e12, e13], by simp only [go_sem, e2, e3, e4, e8, e11, e12, e13], by simp only [go_sem, e2, e3, e4, e8, e11, e12, e13], by simp only [go_sem, e2, e3, e4, e8, e11, e12, e13], by simp only [go_sem, e2, e3, e4, e8, e11, e12, e13], by simp only [go_sem, e2, e3, e4, e8, e11, e12, e13], j', S2.mono fun q row h => (hm2 q (by simp)).trans h⟩
    clear S e2 e3 e4 e8 e11 e12 e13
    rintro ρ H ⟨e2, e3, e4, e8, e11, e12, e13, jc', S⟩
    simp only [go_sem, e2, e3, e4, e8, e11, e12, e13]
    refine adraw_t [] (.q 0 (.q 2 (.q 3 (.q 4 (.q 5 (.q 6 (.q 7 (.q 8 (.a2 1 (.a1 9 (.a1 10 (.a1 11 (.a1 12 .nil)))) 9 (.a1 1 (.a1 10 (.a1 11 (.a1 12 .nil))))))))))))) (by simp) (by kernel_rfl) fun Hp Hr _ hq _ _ => ?_
    replace S := S.mono fun q row h => (hq q (by simp)).trans h
    simp only [go_sem, e2, e3, e4, e8, e11, e12, e13, getD_map hc, b1, S.p]
    repeat' (first | (refine amixt_2i ?_ ?_) | (refine PC.use hco ?_) | (refine PC.use (with30_c p.2 C (by rw [hz.2.1]; omega) (by rw [hcl, hz.2.1]; exact Nat.le_refl _) (fun r hr => by rw [hz.2.2 r hr]; omega)) ?_) | (simp only [go_sem, e2, e3, e4, e8, e11, e12, e13, getD_map hc, b1, S.p]))
    all_goals
      refine wputE_1 so75 S.p ⟨by simp, rfl, by simp⟩ ?_
      have S2 := S.put (withR p.2 C)
      refine pinEnd_i fun _ Hm _ hm2 => ?_
      replace S2 := S2.mono fun q row h => (hm2 q (by simp)).trans h
      simp only [go_sem, e2, e3, e4, e8, e11, e12, e13, wrapS (show k ≤ 4611686018427387904 by omega)]
      refine ⟨⟨k + 1, jc', hlt, rfl, ?_⟩, by simp only [natOf_int]; omega⟩
      rw [hsu, ← hw]
      exact S2
  have hge := geB hk (by simpa using hge)
  subst hge
  rw [List.take_length] at S
  have hz := bldA_sz x cuts ds L L.length (Nat.le_refl _)
  rw [List.take_length] at hz
  simp only [go_sem, e2, e3, e4, e8, e11, e12, e13]
  refine PC.use hskip ?_
  simp only [go_sem, e2, e3, e4, e8, e11, e12, e13]
  generalize bldA x cuts ds L = s1 at *
  refine ⟨fun ρ H => ∃ (k : Nat) (jc : Nat), k ≤ K.length ∧ ρ 4 = .rp (encInstance x) 0 ∧ ρ 8 = .op i8 0 0 ∧ ρ 11 = .op i11 0 0 ∧ ρ 14 = .sl (K.map encInt) ∧ ρ 15 = int k ∧ SpS H i8 i11 jc (bldB x (rowsN x cuts ds) s1 (K.take k)).1 (bldB x (rowsN x cuts ds) s1 (K.take k)).2, fun ρ _ => K.length - natOf (ρ 15), ⟨0, jc, Nat.zero_le _, by simp only [go_sem, e4, e8, e11], by simp only [go_sem, e4, e8, e11], by simp only [go_sem, e4, e8, e11], by simp only [go_sem, e4, e8, e11], (by simp only [go_sem, e4, e8, e11]; rfl), S⟩, ?_⟩
  rintro ρ H ⟨k, jc, hk, e4, e8, e11, e14, e15, S⟩
  simp only [go_sem, e4, e8, e11, e14, e15]
  refine acond_i (fun hlt => ?_) (fun hge => ?_)
  · have hlt := ltB (by simpa using hlt)
    obtain ⟨o, ho⟩ := getIn hlt
    have b1 := inB hlt
    have hz2 := bldB_sz x hno hz K k (by omega)
    have hsu := bldB_succ (x := x) (n := rowsN x cuts ds) (s0 := s1) ho
    generalize bldB x (rowsN x cuts ds) s1 (K.take k) = p at *
    have hcl := skipCol_len x o hno
    have hsk := skip30_c x o (rowsN x cuts ds) h1 hno (by omega)
    generalize skipCol x o (rowsN x cuts ds) = C at *
    generalize rowsN x cuts ds = N at *
    have hw := addCols_with (p := p) (cost := weightM x o) (show C.length = p.2.length by rw [hcl, hz2.2.1])
    have hwm : weightM x o = (weightP (unserved20 x o).1).1 := rfl
    have hun := unserved20_c x o
    have hwe := weight20_c (unserved20 x o).1
    rw [← hwm] at hwe
    generalize weightM x o = W at *
    generalize unserved20 x o = U at *
    simp only [go_sem, e4, e8, e11, e14, e15]
    refine adraw_m [(0, true), (1, true), (2, true), (3, true), (4, true), (5, true), (6, true), (7, true), (8, true), (9, false), (10, false), (11, false)] (by kernel_rfl) ?_
    simp only [go_sem, e4, e8, e11, e14, e15, getD_map ho, b1]
    refine ⟨_, hun.q rfl, ?_⟩
    simp only [go_sem, e4, e8, e11, e14, e15]
    refine anew_i fun i16 h16 => ?_
    simp only [go_sem, e4, e8, e11, e14, e15]
    refine wputE_n (updH_same _ _ _) (by simp [encScore_len]) ?_
    replace S := S.mono (mono_new2 h16 (some (⟨99, 4, [[int 0, int 0, int 0, int 0]]⟩ : Row)) (some (⟨99, 4, [encScore U.1]⟩ : Row)))
    generalize hG : updH (updH H i16 _) i16 _ = HG
    replace S : SpS HG i8 i11 jc p.1 p.2 := by rw [← hG]; exact S
    have R16 : HG i16 = some (⟨99, 4, [encScore U.1]⟩ : Row) := by rw [← hG, updH_same]; rfl
    clear hG h16
    simp only [go_sem, e4, e8, e11, e14, e15, R16]
    refine PC.use hwe ?_
    simp only [go_sem, e4, e8, e11, e14, e15, S.p]
    refine wappE_i S.c ⟨rfl, rfl⟩ ⟨rfl, trivial⟩ (by simp only [List.length_map, List.length_cons, List.length_nil]; rw [hz2.1]; omega) (fun j' hj' => ?_)
    have S2 := S.app hj' W
    have P2 := keep_app (r' := (⟨3, 1, p.1.map encInt ++ [[int W]]⟩ : Row)) S.p (row_ne' S.p S.c rfl).symm hj'
    simp only [go_sem, e4, e8, e11, e14, e15]
    refine wputE_1 so51 P2 ⟨by simp, rfl, by simp⟩ ?_
    replace S2 : SpS _ i8 i11 j' (p.1 ++ [W]) p.2 := S2
    generalize hG : updH _ i11 _ = HG2
    replace S2 : SpS HG2 i8 i11 j' (p.1 ++ [W]) p.2 := by rw [← hG]; exact S2
    clear hG P2 S R16
    simp only [go_sem, e4, e8, e11, e14, e15]
    refine adraw_t [] (.q 0 (.q 2 (.q 3 (.q 4 (.q 5 (.q 6 (.q 7 (.a2 1 (.a1 8 (.q 9 (.a1 10 (.a1 11 (.a1 12 (.a1 13 .nil)))))) 8 (.q 9 (.a2 1 (.a1 10 (.a1 11 (.a1 12 (.a1 13 .nil)))) 10 (.a1 1 (.a1 11 (.a1 12 (.a1 13 .nil)))))))))))))) (by simp) (by kernel_rfl) fun Hp Hr _ hq _ _ => ?_
    replace S2 := S2.mono fun q row h => (hq q (by simp)).trans h
    have hpl : p.2.length = N := hz2.2.1
    simp only [go_sem, e4, e8, e11, e14, e15, getD_map ho, b1, S2.p, List.length_map, hpl]
    repeat' (first | (refine amixt_2i ?_ ?_) | (refine PC.use hsk ?_) | (refine PC.use (with30_c p.2 C (by omega) (by omega) (fun r hr => by rw [hz2.2.2 r hr]; omega)) ?_) | (simp only [go_sem, e4, e8, e11, e14, e15, getD_map ho, b1, S2.p, List.length_map, hpl]))
    all_goals
      refine wputE_1 so75 S2.p ⟨by simp, rfl, by simp⟩ ?_
      have S3 := S2.put (withR p.2 C)
      refine pinEnd_i fun _ Hm _ hm2 => ?_
      replace S3 := S3.mono fun q row h => (hm2 q (by simp)).trans h
      simp only [go_sem, e4, e8, e11, e14, e15, wrapS (show k ≤ 4611686018427387904 by omega)]
      refine ⟨⟨k + 1, j', hlt, rfl, ?_⟩, by simp only [natOf_int]; omega⟩
      rw [hsu, ← hw]
      exact S3
  have hge := geB hk (by simpa using hge)
  subst hge
  rw [List.take_length] at S
  generalize bldB x (rowsN x cuts ds) s1 K = s2 at *
  simp only [go_sem, e4, e8, e11, S.p]
  refine wputE_n S.r8 (by simp) ?_
  have hjc : jc ≠ i8 := row_ne' S.c S.r8 rfl
  simp only [go_sem, e4, e8, e11]
  refine .tup _ _ (.cons _ _ _ _ (.agg _ _ (.cons _ _ _ _ (.row _ _ _ (by rw [updH_ne _ _ _ _ hjc]; exact S.c) (ConvE.refl _)) (.cons _ _ _ _ (.refl _) .nil))) (.cons _ _ _ _ (.refl _) .nil))
end Go.Proofs.YtbcfajfngdmgnaaGreatDoor.Nu
end

section
set_option linter.unusedSimpArgs false
set_option linter.unusedVariables false
namespace Go.Proofs.YtbcfajfngdmgnaaGreatDoor.Nu
open Go.Aw Go.Aw.D Go.Proofs Ty Go.Nu
open Dec (chkR knownR allowsR forbidsR decB hasN)
set_option maxRecDepth 100000
def smO : Order := ⟨⟨#[111, 97]⟩, [1], ⟨-1, 0, 0, 0⟩, ⟨0, 0, 50, 0⟩, 0, 50, 1, -1, -1, false⟩
def smT : VType := ⟨⟨#[118, 97, 110]⟩, 2, 0, 0, [5], 0, 0, 0, 100, 50, 0, 0, 0, 0⟩
def smX : Instance := ⟨⟨[⟨#[104, 117, 98]⟩], []⟩, [smT], [smO], [], []⟩
def smC : Column := ⟨0, 1, 7, ⟨0, 0, [], [⟨0, true⟩]⟩⟩
def smA : Go.Aw.D.Ask := ⟨smX, [smC], [], []⟩
abbrev ordR (o : Order) : Row := ⟨96, 16, [encOrder o]⟩
abbrev typR (t : VType) : Row := ⟨105, 14, [encVType t]⟩
abbrev insR (x : Instance) : Row := ⟨42, 6, [encInstance x]⟩
abbrev askR (a : Go.Aw.D.Ask) : Row := ⟨73, 9, [encAsk a]⟩
def zA : Go.Aw.D.Ask := ⟨⟨⟨[], []⟩, [], [], [], []⟩, [], [], []⟩
theorem simple_c : PC Tryz.prog 93 [] (.agg (encAsk smA)) := by
  refine PC.body (c := Tryz.f93.body.getD .skip) (fun _ => false) mixed Tryz.func93 rfl (by kernel_rfl) ?_
  unfold Tryz.f93
  simp only [Option.getD_some]
  simp only [go_sem]
  refine anew_i fun i0 hi00 => ?_
  generalize hGi0 : updH _ i0 _ = HGi0
  have R0 : HGi0 i0 = some (askR zA) := by rw [← hGi0, updH_same]; rfl
  clear hGi0 hi00
  simp only [go_sem, R0]
  refine anew_i fun i1 hi10 => ?_
  have ne_i0_i1 : i0 ≠ i1 := ne_new R0 hi10
  simp only [go_sem, R0]
  refine wputE_n (updH_same _ _ _) (by simp) ?_
  generalize hGi1 : updH (updH _ i1 _) i1 _ = HGi1
  replace R0 := (congrFun hGi1.symm i0).trans ((updH_ne _ _ _ _ ne_i0_i1).trans ((updH_ne _ _ _ _ ne_i0_i1).trans R0))
  have R1 : HGi1 i1 = some (ordR smO) := by rw [← hGi1, updH_same]; rfl
  clear hGi1 hi10
  simp only [go_sem, R1, R0]
  refine anew_i fun i2 hi20 => ?_
  have ne_i0_i2 : i0 ≠ i2 := ne_new R0 hi20
  have ne_i1_i2 : i1 ≠ i2 := ne_new R1 hi20
  simp only [go_sem, R0, R1]
  refine wputE_n (updH_same _ _ _) (by simp) ?_
  generalize hGi2 : updH (updH _ i2 _) i2 _ = HGi2
  replace R0 := (congrFun hGi2.symm i0).trans ((updH_ne _ _ _ _ ne_i0_i2).trans ((updH_ne _ _ _ _ ne_i0_i2).trans R0))
  replace R1 := (congrFun hGi2.symm i1).trans ((updH_ne _ _ _ _ ne_i1_i2).trans ((updH_ne _ _ _ _ ne_i1_i2).trans R1))
  have R2 : HGi2 i2 = some (typR smT) := by rw [← hGi2, updH_same]; rfl
  clear hGi2 hi20
  simp only [go_sem, R2, R0, R1]
  refine anew_i fun i3 hi30 => ?_
  have ne_i0_i3 : i0 ≠ i3 := ne_new R0 hi30
  simp only [go_sem, R0]
  refine wputE_n (updH_same _ _ _) (by simp) ?_
  generalize hGi3 : updH (updH _ i3 _) i3 _ = HGi3
  replace R0 := (congrFun hGi3.symm i0).trans ((updH_ne _ _ _ _ ne_i0_i3).trans ((updH_ne _ _ _ _ ne_i0_i3).trans R0))
  have R3 : HGi3 i3 = some (insR smX) := by rw [← hGi3, updH_same]; rfl
  clear hGi3 hi30
  simp only [go_sem, R3, R0]
  refine wputE_n R0 (by simp; decide) ?_
  simp only [go_sem]
  exact .refl _
theorem sm_loads : LoadsOk smX 1 where
  dims := by decide
  orders := by decide
  types := by decide
  load := by
    intro o ho
    simp [smX, smO] at ho
    subst ho
    simp
  cap := by
    intro t ht
    simp [smX, smT] at ht
    subst ht
    simp
theorem sm_build : buildM smX 1 [smC] [] [] = (⟨[7, 838860800], [⟨[1, 1], 2, 1⟩, ⟨[1, 0], 1, 2⟩]⟩, 0) := by decide +kernel
theorem sm_reduced : reducedM smX smC [] [] [⟨#[51]⟩, ⟨#[45, 49]⟩] = (⟨#[53]⟩, 0) := by decide +kernel
theorem sm_plan : planM smX 1 [smC] [] [] [⟨#[48]⟩, ⟨#[49]⟩] = (⟨[], [0]⟩, 0) := by decide +kernel
theorem sm_rows : rowsN smX [] [] = 2 := by decide +kernel
theorem awake30_c : PC Tryz.prog 33 [] (boo true) := by
  have hM : MIn smX [] [] := ⟨by decide, by decide, by decide, by decide⟩
  have hR : RightB smX [] [] := ⟨fun t ht => (by simp [smX, smT] at ht; subst ht; unfold i64I; decide), fun q hq => (by cases hq), fun q hq => (by cases hq)⟩
  have hb := build_c smX 1 [smC] [] [] sm_loads (by simp [smX]) hM (by decide) (by simp [smC]) (by simp)
  rw [sm_build] at hb
  have hr := mReduced_c smX smC [] [] [⟨#[51]⟩, ⟨#[45, 49]⟩] hM ⟨by decide⟩ ⟨fun q hq => by cases hq⟩ (by decide) (by decide) (by simp; decide)
  rw [sm_reduced] at hr
  have hp := plan_c smX 1 [smC] [] [] [⟨#[48]⟩, ⟨#[49]⟩] sm_loads (by simp [smX]) hM (by decide) (by simp [smC]) (by simp) hR ⟨by decide, by simp; decide⟩
  rw [sm_plan] at hp
  have hp0 := hp
  clear hp
  have hw := mRows_c smX [] [] hM
  rw [sm_rows] at hw
  refine PC.body (c := Tryz.f33.body.getD .skip) (fun _ => false) mixed Tryz.func33 rfl (by kernel_rfl) ?_
  unfold Tryz.f33
  simp only [Option.getD_some]
  simp only [go_sem]
  refine PC.use simple_c ?_
  simp only [go_sem]
  refine anew_i fun i1 hi10 => ?_
  simp only [go_sem]
  refine wputE_n (updH_same _ _ _) (by simp [encAsk_len]) ?_
  generalize hGi1 : updH (updH _ i1 _) i1 _ = HGi1
  have R1 : HGi1 i1 = some (askR smA) := by rw [← hGi1, updH_same]; rfl
  clear hGi1 hi10
  simp only [go_sem, R1]
  refine PC.use hb ?_
  simp only [go_sem]
  refine anew_i fun i2 hi20 => ?_
  have ne_i1_i2 : i1 ≠ i2 := ne_new R1 hi20
  simp only [go_sem, R1]
  refine wputE_n (updH_same _ _ _) (by simp [encPLin_len]) ?_
  generalize hGi2 : updH (updH _ i2 _) i2 _ = HGi2
  replace R1 := (congrFun hGi2.symm i1).trans ((updH_ne _ _ _ _ ne_i1_i2).trans ((updH_ne _ _ _ _ ne_i1_i2).trans R1))
  have R2 : HGi2 i2 = some (⟨77, 2, [encPLin ⟨[7, 838860800], [⟨[1, 1], 2, 1⟩, ⟨[1, 0], 1, 2⟩]⟩]⟩) := by rw [← hGi2, updH_same]; rfl
  clear hGi2 hi20
  simp only [go_sem, R2, R1]
  refine adraw_p [i1] [(0, true), (1, true), (2, true), (3, true), (4, true), (5, true), (6, false), (7, false), (8, false), (9, true), (10, true), (11, false), (12, false)] (by simp [R1]) (by kernel_rfl) fun Hp Hr hp hq _ hr0 => ?_
  have P1 := (hp i1 (by simp)).trans R1
  have m2 : i2 ∉ [i1] := by simpa using ne_i1_i2.symm
  have S2 := (hq i2 m2).trans R2
  simp only [go_sem, P1]
  refine ⟨⟨by decide, rfl⟩, by decide, ?_⟩
  refine PC.use hr ?_
  simp only [go_sem]
  refine pinEnd_i fun _ Hm hm1 hm2 => ?_
  have R1 : Hm i1 = some (askR smA) := (hm1 i1 (by simp)).trans R1
  have R2 := (hm2 i2 m2).trans S2
  clear hm1 hm2 S2 P1 hp hq hr0
  simp only [go_sem, R1]
  refine PC.use hp0 ?_
  simp only [go_sem]
  refine anew_i fun i6 hi60 => ?_
  have ne_i1_i6 : i1 ≠ i6 := ne_new R1 hi60
  have ne_i2_i6 : i2 ≠ i6 := ne_new R2 hi60
  simp only [go_sem, R1, R2]
  refine wputE_n (updH_same _ _ _) (by simp [encPlan_len]) ?_
  generalize hGi6 : updH (updH _ i6 _) i6 _ = HGi6
  replace R1 := (congrFun hGi6.symm i1).trans ((updH_ne _ _ _ _ ne_i1_i6).trans ((updH_ne _ _ _ _ ne_i1_i6).trans R1))
  replace R2 := (congrFun hGi6.symm i2).trans ((updH_ne _ _ _ _ ne_i2_i6).trans ((updH_ne _ _ _ _ ne_i2_i6).trans R2))
  have R6 : HGi6 i6 = some (⟨53, 2, [encPlan ⟨[], [0]⟩]⟩) := by rw [← hGi6, updH_same]; rfl
  clear hGi6 hi60
  simp only [go_sem, R6, R1, R2]
  refine ⟨fun _ => by decide, fun _ => by decide, fun _ => by decide, int 2, fun _ => hw.q rfl, ?_⟩
  simp only [go_sem]
  exact cB (a := true) (by decide)
theorem numbers_c (a b : List Int) (ha : a.length ≤ 1048576) (hb : b.length ≤ 1048576) : PC Tryz.prog 40 [.sl (a.map encInt), .sl (b.map encInt)] (boo (a == b)) := by
  refine PC.body (c := Tryz.f40.body.getD .skip) (fun _ => false) mixed Tryz.func40 rfl (by kernel_rfl) ?_
  unfold Tryz.f40
  simp only [Option.getD_some]
  simp only [go_sem]
  refine acond_i (fun h1 => ?_) (fun h1 => ?_)
  · simp only [go_sem]
    refine cB ?_
    symm
    rw [beq_eq_false_iff_ne]
    intro e
    rw [e] at h1
    simp at h1
  have hl : a.length = b.length := by simp at h1; omega
  simp only [go_sem]
  refine ⟨fun ρ H => ∃ (k : Nat), k ≤ a.length ∧ ρ 0 = .sl (a.map encInt) ∧ ρ 1 = .sl (b.map encInt) ∧ ρ 5 = int k ∧ ∀ i, i < k → a[i]? = b[i]?, fun ρ _ => a.length - natOf (ρ 5), ⟨0, Nat.zero_le _, by simp only [go_sem], by simp only [go_sem], (by simp only [go_sem]; rfl), fun i hi => absurd hi (by omega)⟩, ?_⟩
  rintro ρ H ⟨k, hk, e0, e1, e5, hz⟩
  simp only [go_sem, e0, e1, e5]
  refine acond_i (fun hlt => ?_) (fun hge => ?_)
  · have hlt := ltB (by simpa using hlt)
    obtain ⟨m, hm⟩ := getIn hlt
    obtain ⟨n, hn⟩ := getIn (show k < b.length by omega)
    have b1 := inB hlt
    have b2 := inB (show k < b.length by omega)
    simp only [go_sem, e0, e1, e5]
    refine adraw_q (by rfl) (by kernel_rfl) ?_
    simp only [go_sem, e0, e1, e5, getD_map hm, b1, getD_map hn, b2]
    refine acond_i (fun hb => ?_) (fun hb => ?_)
    · simp only [go_sem]
      refine cB ?_
      symm
      rw [beq_eq_false_iff_ne]
      intro e
      rw [e, hn] at hm
      have : n = m := Option.some.inj hm
      simp [this] at hb
    · simp only [go_sem, e0, e1, e5, wrapS (show k ≤ 4611686018427387904 by omega)]
      refine ⟨⟨k + 1, hlt, rfl, fun i hi => ?_⟩, by simp only [natOf_int]; omega⟩
      by_cases e : i = k
      · subst e
        rw [hm, hn]
        exact congrArg some (by simpa using hb)
      · exact hz i (by omega)
  have hge := geB hk (by simpa using hge)
  subst hge
  simp only [go_sem, e0, e1, e5]
  refine cB ?_
  symm
  rw [beq_iff_eq]
  refine List.ext_getElem? fun i => ?_
  by_cases hi : i < a.length
  · exact hz i hi
  · rw [List.getElem?_eq_none (by omega), List.getElem?_eq_none (by omega)]
def smallP (a : Go.Aw.D.Ask) : Bool := !(decide ((a.l.length : Int) > 40) || decide ((a.cuts.length : Int) > 12) || decide ((a.d.length : Int) > 12) || decide ((a.x.orders.length : Int) > 5) || decide (((checkR a.x).length : Int) > 0)) && !a.l.any fun c => decide ((c.route.visits.length : Int) > 12)
theorem small_c (a : Go.Aw.D.Ask) (hx : InB a.x) (hl : a.l.length ≤ 1048576) : PC Tryz.prog 32 [.agg (encAsk a)] (boo (smallP a)) := by
  refine PC.body (c := Tryz.f32.body.getD .skip) (fun _ => false) mixed Tryz.func32 rfl (by kernel_rfl) ?_
  unfold Tryz.f32
  simp only [Option.getD_some]
  simp only [go_sem]
  refine ⟨_, fun _ => (NC.pc (check_c a.x hx)).qn, ?_⟩
  simp only [go_sem, List.length_map]
  refine acond_i (fun hb => ?_) (fun hb => ?_)
  · simp only [go_sem]
    refine cB ?_
    unfold smallP
    rw [hb]; rfl
  unfold smallP
  rw [hb]
  simp only [go_sem]
  refine ⟨fun ρ H => ∃ (k : Nat), k ≤ a.l.length ∧ ρ 1 = .rp (encAsk a) 0 ∧ ρ 3 = int k ∧ ∀ c ∈ a.l.take k, decide ((c.route.visits.length : Int) > 12) = false, fun ρ _ => a.l.length - natOf (ρ 3), ⟨0, Nat.zero_le _, by simp only [go_sem], (by simp only [go_sem]; rfl), by simp⟩, ?_⟩
  rintro ρ H ⟨k, hk, e1, e3, hz⟩
  simp only [go_sem, e1, e3]
  refine acond_i (fun hlt => ?_) (fun hge => ?_)
  · have hlt := ltB (by simpa using hlt)
    obtain ⟨c, hc⟩ := getIn hlt
    have b1 := inB hlt
    simp only [go_sem, e1, e3, getD_map hc, b1]
    refine acond_i (fun hd => ?_) (fun hd => ?_)
    · simp only [go_sem]
      refine cB ?_
      rw [List.any_eq_true.2 ⟨c, List.mem_of_getElem? hc, hd⟩]
      rfl
    · simp only [go_sem, e1, e3, wrapS (show k ≤ 4611686018427387904 by omega)]
      exact ⟨⟨k + 1, hlt, rfl, take_all' (p := fun c : Column => decide ((c.route.visits.length : Int) > 12) = false) hc hd hz⟩, by simp only [natOf_int]; omega⟩
  have hge := geB hk (by simpa using hge)
  subst hge
  rw [List.take_length] at hz
  simp only [go_sem, e1, e3]
  refine cB ?_
  have : (a.l.any fun c => decide ((c.route.visits.length : Int) > 12)) = false := by
    rw [List.any_eq_false]
    intro c hc
    rw [hz c hc]; simp
  rw [this]; rfl
theorem small_acc {a : Go.Aw.D.Ask} (h : smallP a = true) : Acc a.x ∧ a.l.length ≤ 40 ∧ a.cuts.length ≤ 12 ∧ a.d.length ≤ 12 ∧ a.x.orders.length ≤ 5 := by
  unfold smallP at h
  simp only [Bool.and_eq_true, Bool.not_eq_true', Bool.or_eq_false_iff, decide_eq_false_iff_not] at h
  obtain ⟨⟨⟨⟨⟨h1, h2⟩, h3⟩, h4⟩, h5⟩, _⟩ := h
  exact ⟨acc_of (List.eq_nil_of_length_eq_zero (by omega)), by omega, by omega, by omega, by omega⟩
end Go.Proofs.YtbcfajfngdmgnaaGreatDoor.Nu
end

section
set_option linter.unusedSimpArgs false
set_option linter.unusedVariables false
namespace Go.Proofs.YtbcfajfngdmgnaaGreatDoor.Nu
open Go.Aw Go.Aw.D Go.Proofs Ty Go.Nu
open Dec (chkR knownR allowsR forbidsR decB hasN)
set_option maxRecDepth 100000
end Go.Proofs.YtbcfajfngdmgnaaGreatDoor.Nu
end

section
set_option linter.unusedSimpArgs false
set_option linter.unusedVariables false
namespace Go.Proofs.YtbcfajfngdmgnaaGreatDoor.Nu
open Go.Aw Go.Aw.D Go.Proofs Ty Go.Nu
open Dec (chkR allowsR forbidsR decB hasN)
set_option maxRecDepth 100000
def KindsOk (rows : List PRow) : Prop := ∀ r ∈ rows, 1 ≤ r.kind ∧ r.kind ≤ 3
theorem kinds_add {rows : List PRow} (h : KindsOk rows) (col : List Int) (k : Nat) : KindsOk (addTo rows col k) := by
  intro r hr
  obtain ⟨i, hi, rfl⟩ := List.getElem_of_mem hr
  have hg := List.getElem?_eq_getElem hi
  rw [addTo_get] at hg
  rw [addTo_len] at hi
  rw [List.getElem?_eq_getElem hi] at hg
  split at hg
  · rw [← Option.some.inj hg]
    exact h rows[i] (List.getElem_mem hi)
  · rw [← Option.some.inj hg]; exact h _ (List.getElem_mem hi)
theorem rowsM_kinds {x : Instance} {d : Nat} {cuts : List Cut} {ds : List Decision} (h : ∀ q ∈ cuts, rightC x d q = 0) : KindsOk (rowsM x cuts ds) := by
  intro r hr
  unfold rowsM rowsO rowsT rowsC rowsD at hr
  simp only [List.mem_append, List.mem_map, List.mem_filterMap] at hr
  rcases hr with ((hr | ⟨t, _, rfl⟩) | ⟨q, hq, rfl⟩) | ⟨d, _, hr⟩
  · rw [List.eq_of_mem_replicate hr]; decide
  · exact ⟨by show (1 : Int) ≤ 1; decide, by show (1 : Int) ≤ 3; decide⟩
  · have := h q hq
    unfold rightC at this
    unfold rowC
    by_cases k1 : q.kind = 1
    · rw [if_pos k1]; decide
    · rw [if_neg k1] at this ⊢
      by_cases k2 : q.kind = 2
      · rw [if_pos k2]; exact ⟨by show (1 : Int) ≤ 3; decide, by show (3 : Int) ≤ 3; decide⟩
      · rw [if_neg k2] at this; cases this
  · unfold rowD at hr
    split at hr
    · cases hr; exact ⟨by show (1 : Int) ≤ 1; decide, by show (1 : Int) ≤ 3; decide⟩
    · split at hr
      · cases hr; exact ⟨by show (1 : Int) ≤ 3; decide, by show (3 : Int) ≤ 3; decide⟩
      · cases hr
theorem bldA_kinds {x : Instance} {cuts : List Cut} {ds : List Decision} (h : KindsOk (rowsM x cuts ds)) (l : List Column) : ∀ k, k ≤ l.length → KindsOk (bldA x cuts ds (l.take k)).2
  | 0, _ => h
  | k + 1, hk => by
    obtain ⟨c, hc⟩ := getIn (show k < l.length by omega)
    rw [bldA_succ hc]
    exact kinds_add (bldA_kinds h l k (by omega)) _ _
theorem bldB_kinds {x : Instance} {n : Nat} {s0 : List Int × List PRow} (h : KindsOk s0.2) (l : List Int) : ∀ k, k ≤ l.length → KindsOk (bldB x n s0 (l.take k)).2
  | 0, _ => h
  | k + 1, hk => by
    obtain ⟨c, hc⟩ := getIn (show k < l.length by omega)
    rw [bldB_succ hc]
    exact kinds_add (bldB_kinds h l k (by omega)) _ _
theorem build_kinds {x : Instance} {d : Nat} {cols : List Column} {cuts : List Cut} {ds : List Decision} (h : (buildM x d cols cuts ds).2 = 0) : KindsOk (buildM x d cols cuts ds).1.rows := by
  unfold buildM at h ⊢
  split at h
  · next h1 => exact absurd h h1
  next h1 =>
  split at h
  · cases h
  next h2 =>
  rw [if_neg h1, if_neg h2]
  obtain ⟨_, hw2, _⟩ := wrong_zero (show wrongM x d cols cuts ds = 0 by simpa using h1)
  have hA := bldA_kinds (rowsM_kinds (ds := ds) hw2) (inM cols ds) _ (Nat.le_refl _)
  rw [List.take_length] at hA
  have hB := bldB_kinds (x := x) (n := rowsN x cuts ds) hA (skipsM x ds) _ (Nat.le_refl _)
  rw [List.take_length] at hB
  exact hB
theorem build_err {x : Instance} {d : Nat} {cols : List Column} {cuts : List Cut} {ds : List Decision} (h : (buildM x d cols cuts ds).2 ≠ 0) : (buildM x d cols cuts ds).1 = ⟨[], []⟩ := by
  unfold buildM at h ⊢
  split
  · rfl
  · split
    · rfl
    · next h1 h2 => rw [if_neg h1, if_neg h2] at h; exact absurd rfl h
theorem check25_c (p : PLin) (h1 : p.cost.length ≤ 8192) (h2 : p.rows.length ≤ 64) (h3 : ∀ r ∈ p.rows, r.coef.length = p.cost.length) (h4 : KindsOk p.rows) : PC Tryz.prog 37 [.agg (encPLin p)] (.sl []) := by
  refine PC.body (c := Tryz.f37.body.getD .skip) (fun _ => false) mixed Tryz.func37 rfl (by kernel_rfl) ?_
  unfold Tryz.f37
  simp only [Option.getD_some]
  simp only [go_sem]
  refine acond_i (fun hb => ?_) (fun hb => ?_)
  · simp only [List.length_map, decide_eq_true_eq] at hb; omega
  simp only [go_sem]
  refine acond_i (fun hb => ?_) (fun hb => ?_)
  · simp only [List.length_map, decide_eq_true_eq] at hb; omega
  simp only [go_sem]
  refine ⟨fun ρ H => ∃ (k : Nat), k ≤ p.rows.length ∧ ρ 1 = .rp (encPLin p) 0 ∧ ρ 3 = .sl [] ∧ ρ 4 = int k, fun ρ _ => p.rows.length - natOf (ρ 4), ⟨0, Nat.zero_le _, by simp only [go_sem], by simp only [go_sem], (by simp only [go_sem]; rfl)⟩, ?_⟩
  rintro ρ H ⟨k, hk, e1, e3, e4⟩
  simp only [go_sem, e1, e3, e4]
  refine acond_i (fun hlt => ?_) (fun hge => ?_)
  · have hlt := ltB (by simpa using hlt)
    obtain ⟨r, hr⟩ := getIn hlt
    have b1 := inB hlt
    have hl := h3 r (List.mem_of_getElem? hr)
    have hk := h4 r (List.mem_of_getElem? hr)
    simp only [go_sem, e1, e3, e4]
    refine adraw_m [(0, true), (1, true), (2, true), (3, true), (4, true), (5, true), (6, true), (7, true), (8, true), (9, true), (10, true)] (by kernel_rfl) ?_
    simp only [go_sem, e1, e3, e4, getD_map hr, b1, List.length_map, hl]
    refine acond_i (fun hb => ?_) (fun hb => ?_)
    · simp at hb
    simp only [go_sem, e1, e3, e4, getD_map hr, b1]
    refine acond_i (fun hb => ?_) (fun hb => ?_)
    · simp at hb; omega
    simp only [go_sem, e1, e3, e4, wrapS (show k ≤ 4611686018427387904 by omega)]
    exact ⟨⟨k + 1, hlt, rfl⟩, by simp only [natOf_int]; omega⟩
  have hge := geB hk (by simpa using hge)
  subst hge
  simp only [go_sem, e1, e3, e4]
  exact .refl _
theorem programs_c (p : PLin) (h1 : p.cost.length ≤ 1048576) (h2 : p.rows.length ≤ 1048576) (h3 : ∀ r ∈ p.rows, r.coef.length ≤ 1048576) : PC Tryz.prog 36 [.agg (encPLin p), .agg (encPLin p)] (boo true) := by
  refine PC.body (c := Tryz.f36.body.getD .skip) (fun _ => false) mixed Tryz.func36 rfl (by kernel_rfl) ?_
  unfold Tryz.f36
  simp only [Option.getD_some]
  simp only [go_sem]
  refine PC.use (numbers_c _ _ h1 h1) ?_
  simp only [go_sem, List.length_map]
  refine acond_i (fun hb => ?_) (fun hb => ?_)
  · simp at hb
  simp only [go_sem]
  refine ⟨fun ρ H => ∃ (k : Nat), k ≤ p.rows.length ∧ ρ 2 = .rp (encPLin p) 0 ∧ ρ 3 = .rp (encPLin p) 0 ∧ ρ 5 = int k, fun ρ _ => p.rows.length - natOf (ρ 5), ⟨0, Nat.zero_le _, by simp only [go_sem], by simp only [go_sem], (by simp only [go_sem]; rfl)⟩, ?_⟩
  rintro ρ H ⟨k, hk, e2, e3, e5⟩
  simp only [go_sem, e2, e3, e5]
  refine acond_i (fun hlt => ?_) (fun hge => ?_)
  · have hlt := ltB (by simpa using hlt)
    obtain ⟨r, hr⟩ := getIn hlt
    have b1 := inB hlt
    have hl := h3 r (List.mem_of_getElem? hr)
    simp only [go_sem, e2, e3, e5]
    refine adraw_m [(0, true), (1, true), (2, true), (3, true), (4, true), (5, true), (6, true), (7, true), (8, true), (9, true), (10, true), (11, true), (12, true), (13, true), (14, true), (15, true), (16, true), (17, true), (18, true), (19, true), (20, true), (21, true), (22, true), (23, true), (24, true), (25, true), (26, true), (27, true), (28, true), (29, true), (30, true), (31, true), (32, true), (33, true), (34, true), (35, true), (36, true), (37, true), (38, true), (39, true), (40, true), (41, true), (42, true), (43, true)] (by kernel_rfl) ?_
    simp only [go_sem, e2, e3, e5, getD_map hr, b1]
    refine ⟨_, (numbers_c _ _ hl hl).q rfl, ?_⟩
    simp only [go_sem, e2, e3, e5, getD_map hr, b1]
    refine acond_i (fun hd => ?_) (fun hd => ?_)
    · simp at hd
    simp only [go_sem, e2, e3, e5, wrapS (show k ≤ 4611686018427387904 by omega)]
    exact ⟨⟨k + 1, hlt, rfl⟩, by simp only [natOf_int]; omega⟩
  have hge := geB hk (by simpa using hge)
  subst hge
  simp only [go_sem, e2, e3, e5]
  exact .refl _
end Go.Proofs.YtbcfajfngdmgnaaGreatDoor.Nu
end

section
set_option linter.unusedSimpArgs false
set_option linter.unusedVariables false
namespace Go.Proofs.YtbcfajfngdmgnaaGreatDoor.Nu
open Go.Aw Go.Aw.D Go.Proofs Ty Go.Nu
open Dec (chkR allowsR forbidsR decB hasN)
set_option maxRecDepth 100000
structure AskB (a : Go.Aw.D.Ask) : Prop where
  x : InB a.x
  l : a.l.length ≤ 1048576
  set : ∀ c ∈ a.l, i64I c.set
  cset : ∀ q ∈ a.cuts, q.set ≤ 9223372036854775807
  right : RightB a.x a.cuts a.d
  dec : ∀ d ∈ a.d, decB d
def askD (a : Go.Aw.D.Ask) : Nat := (dimsR a.x.types).toNat
theorem masterBuilds_c (a : Go.Aw.D.Ask) (hA : AskB a) : PC Tryz.prog 7 [.agg (encAsk a)] (boo true) := by
  refine PC.body (c := Tryz.f7.body.getD .skip) (fun _ => false) mixed Tryz.func7 rfl (by kernel_rfl) ?_
  unfold Tryz.f7
  simp only [Option.getD_some]
  simp only [go_sem]
  refine PC.use (small_c a hA.x hA.l) ?_
  simp only [go_sem]
  refine acond_i (fun hb => ?_) (fun hb => ?_)
  · simp only [go_sem]
    refine PC.use awake30_c ?_
    simp only [go_sem]
    exact .refl _
  obtain ⟨hacc, h1, h2, h3, h4⟩ := small_acc (a := a) (by simpa using hb)
  have hty := hacc.types
  have hM : MIn a.x a.cuts a.d := ⟨by omega, by omega, by omega, by omega⟩
  obtain ⟨hlo, hne⟩ := loadsOk_of hacc
  have hB := build_c a.x (askD a) a.l a.cuts a.d hlo hne hM (by omega) (fun c hc => (hA.set c hc).2) hA.cset
  have hB2 := build30_c a.x (askD a) a.l a.cuts a.d hlo hne hM (by omega) hA.set hA.cset hA.dec
  have hok := fun e => build_ok (x := a.x) (d := askD a) (cols := a.l) (cuts := a.cuts) (ds := a.d) e hA.right
  have hkd := build_kinds (x := a.x) (d := askD a) (cols := a.l) (cuts := a.cuts) (ds := a.d)
  have her := build_err (x := a.x) (d := askD a) (cols := a.l) (cuts := a.cuts) (ds := a.d)
  have hrw := mRows_c a.x a.cuts a.d hM
  generalize buildM a.x (askD a) a.l a.cuts a.d = B at *
  obtain ⟨p, e⟩ := B
  simp only at hok hkd her hB hB2
  have hp : p.cost.length ≤ 1048576 ∧ p.rows.length ≤ 1048576 ∧ ∀ r ∈ p.rows, r.coef.length ≤ 1048576 := by
    by_cases he : e = 0
    · obtain ⟨_, k1, k2, k3, k4, k5, _⟩ := hok he
      exact ⟨by omega, by omega, fun r hr => by rw [k5 r hr]; omega⟩
    · rw [her he]
      exact ⟨by simp, by simp, fun r hr => by cases hr⟩
  have hpc := programs_c p hp.1 hp.2.1 hp.2.2
  simp only [go_sem]
  refine PC.use hB ?_
  simp only [go_sem]
  refine anew_i fun i3 hi30 => ?_
  simp only [go_sem]
  refine wputE_n (updH_same _ _ _) (by simp [encPLin_len]) ?_
  generalize hGi3 : updH (updH _ i3 _) i3 _ = HGi3
  have R3 : HGi3 i3 = some (⟨77, 2, [encPLin p]⟩) := by rw [← hGi3, updH_same]; rfl
  clear hGi3 hi30
  simp only [go_sem, R3]
  refine PC.use hB2 ?_
  simp only [go_sem]
  refine anew_i fun i5 hi50 => ?_
  have ne_i3_i5 : i3 ≠ i5 := ne_new R3 hi50
  simp only [go_sem, R3]
  refine wputE_n (updH_same _ _ _) (by simp [encPLin_len]) ?_
  generalize hGi5 : updH (updH _ i5 _) i5 _ = HGi5
  replace R3 := (congrFun hGi5.symm i3).trans ((updH_ne _ _ _ _ ne_i3_i5).trans ((updH_ne _ _ _ _ ne_i3_i5).trans R3))
  have R5 : HGi5 i5 = some (⟨77, 2, [encPLin p]⟩) := by rw [← hGi5, updH_same]; rfl
  clear hGi5 hi50
  simp only [go_sem, R5, R3]
  refine adraw_p [i3, i5] [(0, true), (1, true), (2, true), (3, true), (4, true), (5, true), (6, true), (7, true), (8, true), (9, true), (10, true), (11, true), (12, true), (13, false), (14, false), (15, false), (16, false), (17, true), (18, true), (19, true), (20, true), (21, true), (22, true), (23, true), (24, false), (25, false), (26, false), (27, false), (28, false), (29, false), (30, false), (31, false), (32, false), (33, false), (34, false)] (by simp [R3, R5]) (by kernel_rfl) fun Hp Hr hp1 hr1 hp2 hr2 => ?_
  have P3 := (hp1 i3 (by simp)).trans R3
  have P5 := (hp1 i5 (by simp)).trans R5
  simp only [go_sem, P3, P5]
  refine ⟨_, hpc.q rfl, ?_⟩
  simp only [go_sem, P3, P5]
  by_cases he : e = 0
  · subst he
    obtain ⟨_, k1, k2, k3, k4, k5, _⟩ := hok rfl
    have hc := check25_c p (by omega) (by omega) (fun r hr => by rw [k5 r hr, k1]) (hkd rfl)
    refine ⟨_, fun _ => hc.qn, ?_⟩
    simp only [go_sem, P3, P5]
    refine ⟨_, fun _ => hrw.q rfl, ?_⟩
    simp only [go_sem, P3, P5]
    refine ⟨_, fun _ => awake30_c.q rfl, ?_⟩
    simp only [go_sem]
    refine pinEnd_i fun _ Hm _ _ => ?_
    simp only [go_sem]
    refine cB ?_
    simp [k3]
  · have hne : (e != 0) = true := by simpa using he
    simp only [go_sem, P3, P5, hne]
    refine ⟨.nf (.sl []), ?_⟩
    simp only [go_sem, P3, P5, hne]
    refine ⟨int 0, ?_⟩
    simp only [go_sem, P3, P5, hne]
    refine ⟨_, fun _ => awake30_c.q rfl, ?_⟩
    simp only [go_sem]
    refine pinEnd_i fun _ Hm _ _ => ?_
    simp only [go_sem]
    refine cB ?_
    simp [he]
end Go.Proofs.YtbcfajfngdmgnaaGreatDoor.Nu
end

section
namespace Go.Proofs.YtbcfajfngdmgnaaGreatDoor
open Go.Aw Go.Aw.D
theorem inB_of {x : Instance} (h : bInstance 1048576 x) : InB x := by
  obtain ⟨⟨hpl, har⟩, hty, hor, hap, hbe⟩ := h
  exact ⟨hpl.1, hpl.2, har.1, fun a ha => ⟨(har.2 a ha).2.2.2.2.1.1, (har.2 a ha).2.2.2.2.2.1⟩, hty.1, fun t ht => ⟨(hty.2 t ht).1, (hty.2 t ht).2.2.2.2.1.1⟩, hor.1, fun t ht => ⟨(hor.2 t ht).1, (hor.2 t ht).2.1.1⟩, hap.1, hbe.1⟩
theorem askB_of {a : Go.Aw.D.Ask} (h : bAsk 1048576 a) : Nu.AskB a := by
  obtain ⟨hx, hl, hc, hd⟩ := h
  exact ⟨inB_of hx, hl.1, fun c h => (hl.2 c h).2.1, fun q h => (hc.2 q h).2.1.2, ⟨fun t h => (hx.2.1.2 t h).2.1, fun q h => (hc.2 q h).2.2, fun d h => (hd.2 d h).2.2.2⟩, fun d h => hd.2 d h⟩
theorem masterBuilds_holds : Rows.MasterBuildsUptoCardSaid := masterBuilds.card fun a ha => Nu.masterBuilds_c a (askB_of ha)
#print axioms masterBuilds_holds
end Go.Proofs.YtbcfajfngdmgnaaGreatDoor
end
