/- Texts joined by a program: SoE, CuR, SaidCH. -/
import Derived.Lib.LaidIn
import Derived.MakeChecks
import Derived.Stop.LaidErr
import Derived.Test.YtbcfajfngdmgnaaGreatDoorCards
import Derived.Test.YtbcfajfngdmgnaaGreatDoorTie
import Derived.Deep.DeepHandedRow
import Derived.Deep.DeepWitnessRowRef
import Derived.SevenTiedAt
import Derived.Test.YtbcfajfngdmgnaaGreatDoorZh24
import Derived.Test.YtbcfajfngdmgnaaGreatDoorZh34

section
set_option linter.unusedSimpArgs false
set_option linter.unusedVariables false
namespace Go.Proofs.YtbcfajfngdmgnaaGreatDoor.Nu
open Go.Aw Go.Aw.D Go.Proofs Ty Go.Nu Go.So
set_option maxRecDepth 100000
theorem tag_up {α : Type} (l : List α) : (tag l).Pairwise fun p q => p.2 < q.2 := by
  rw [List.pairwise_iff_getElem]
  intro i k hi hk hik
  rw [tag_get (List.getElem?_eq_getElem hi), tag_get (List.getElem?_eq_getElem hk)]
  exact hik
theorem flat_app {α : Type} (D : List (List α)) (A : List α) : (D ++ [A]).flatten = D.flatten ++ A := by simp
section
variable {gf : Nat} {lt : Broken → Broken → Bool} {ok : Broken → Prop}
set_option maxHeartbeats 4000000 in
theorem stable_c (hs : SWO lt) (hc : CmpOk gf lt ok) (l : List Broken) (j : Nat) (H0 : Heap) (K : AV → Heap → Prop) (hl : l.length ≤ 1048576) (hok : ∀ x ∈ l, ok x) (hj : H0 j = some (brRow l))
    (hK : ∀ r, K r (updH H0 j (some (brRow (ssort lt l))))) : FCalls Tryz.prog 145 [.os j, int l.length, cmpV gf] H0 K := by
  have hokT : ∀ x ∈ tag l, ok x.1 := fun x hx => hok x.1 (by
    have := List.mem_map_of_mem (f := Prod.fst) hx
    rwa [tag_fst] at this)
  have htl := tag_len l
  refine FCalls.body (c := Tryz.f145.body.getD .skip) (fun _ => false) mixed Tryz.func145 rfl (by kernel_rfl) ?_
  unfold Tryz.f145
  simp only [Option.getD_some]
  simp only [go_sem]
  refine ⟨fun ρ H => ∃ (D : List (List TB)) (P0 X : List TB), P0 ++ X = tag l ∧ D.flatten.Perm P0 ∧ So.Good lt D ∧ (∀ A ∈ D, A.length = 20) ∧ ρ 0 = .os j ∧ ρ 1 = int l.length ∧ ρ 2 = cmpV gf ∧ ρ 6 = int 20 ∧ ρ 7 = int P0.length ∧ ρ 8 = int (P0.length + 20 : Nat) ∧ H = updH H0 j (some (brRow (fs (D.flatten ++ X)))), fun ρ _ => l.length + 1 - natOf (ρ 7),
    ⟨[], [], tag l, rfl, .refl _, ⟨by simp, List.Pairwise.nil⟩, by simp, by simp only [go_sem], by simp only [go_sem], by simp only [go_sem], by simp only [go_sem], by simp only [go_sem]; rfl, by simp only [go_sem]; rfl, by
      have : fs (([] : List (List TB)).flatten ++ tag l) = l := tag_fst l
      rw [this]; exact (updH_self hj).symm⟩, ?_⟩
  rintro ρ H ⟨D, P0, X, hPX, hD, hG, h20, e0, e1, e2, e6, e7, e8, hH⟩
  have hlen : P0.length + X.length = l.length := by rw [← htl, ← hPX, List.length_append]
  have hDl : D.flatten.length = P0.length := hD.length_eq
  have R : H j = some (brRow (fs (D.flatten ++ X))) := by rw [hH]; exact updH_same _ _ _
  have hrX : X.Pairwise fun p q => p.2 < q.2 := (List.pairwise_append.1 (hPX ▸ tag_up l)).2.1
  have hokX : ∀ x ∈ X, ok x.1 := fun x hx => hokT x (by rw [← hPX]; exact List.mem_append_right _ hx)
  have hrk : ∀ M X' : List TB, M.Perm X' → (∀ x ∈ X', x ∈ X) → ∀ B ∈ D, ranks B M := fun M X' hM hX' B hB x hx y hy =>
    tag_ranks hPX x (hD.mem_iff.1 (List.mem_flatten.2 ⟨B, hB, hx⟩)) y (hX' y (hM.mem_iff.1 hy))
  simp only [go_sem, e0, e1, e2, e6, e7, e8]
  refine acond_i (fun hle => ?_) (fun hge => ?_)
  · have hle : P0.length + 20 ≤ l.length := by simp at hle; omega
    obtain ⟨X1, X2, hX, hX1, hX2⟩ := split_at (l := X) (n := 20) (by omega)
    simp only [go_sem, e0, e1, e2, e6, e7, e8]
    refine insertion_c hs hc D.flatten X1 X2 P0.length (P0.length + 20) j H _ hDl.symm (by omega) ((List.pairwise_append.1 (hX ▸ hrX)).1) (fun x hx => hokX x (by rw [hX]; exact List.mem_append_left _ hx)) (by simp only [List.length_append]; omega) (by rw [R, hX, List.append_assoc]) fun M hp hM r => ?_
    have hML : M.length = 20 := by rw [hp.length_eq, hX1]
    have w20 : IntKind.i64.wrap (((P0.length + 20 : Nat) : Int) + 20) = ((P0.length + 20 + 20 : Nat) : Int) := by rw [wrap_in (by omega)]; omega
    simp only [go_sem, e0, e1, e2, e6, e7, e8, w20]
    refine ⟨⟨D ++ [M], P0 ++ X1, X2, by rw [← hPX, hX, List.append_assoc], ?_, good_more hG hM (hrk M X1 hp fun x hx => by rw [hX]; exact List.mem_append_left _ hx), ?_, ?_, ?_, ?_⟩, ?_⟩
    · rw [flat_app]; exact hD.append hp
    · intro A hA
      rcases List.mem_append.1 hA with hA | hA
      · exact h20 A hA
      · rw [List.mem_singleton.1 hA]; exact hML
    · rw [List.length_append, hX1]
    · rw [List.length_append, hX1]
    · rw [hH, updH_twice, flat_app]
    · simp only [natOf_int]; omega
  · have hge : l.length < P0.length + 20 := by simp at hge; omega
    simp only [go_sem, e0, e1, e2, e6, e7, e8]
    refine insertion_c hs hc D.flatten X [] P0.length l.length j H _ hDl.symm (by omega) hrX hokX (by simp only [List.length_append, List.length_nil]; omega) (by rw [R, List.append_nil]) fun M hp hM r => ?_
    have hML : M.length = X.length := hp.length_eq
    rw [List.append_nil, hH, updH_twice]
    clear R hH
    simp only [go_sem, e0, e1, e2, e6]
    refine ⟨fun ρ H => ∃ (bs : Nat) (R : List (List TB)), 20 ≤ bs ∧ bs ≤ 4194304 ∧ So.Good lt R ∧ So.shape bs R ∧ R.flatten.Perm (tag l) ∧ ρ 0 = .os j ∧ ρ 1 = int l.length ∧ ρ 2 = cmpV gf ∧ ρ 6 = int bs ∧ H = updH H0 j (some (brRow (fs R.flatten))), fun ρ _ => l.length - natOf (ρ 6),
      ⟨20, if X = [] then D else D ++ [M], Nat.le_refl _, by decide, ?_, ?_, ?_, by simp only [go_sem, e0], by simp only [go_sem, e1], by simp only [go_sem, e2], by simp only [go_sem, e6]; rfl, ?_⟩, ?_⟩
    · split
      · exact hG
      · exact good_more hG hM (hrk M X hp fun x hx => hx)
    · split
      · have := shape_app h20 (by decide) (show So.shape 20 ([] : List (List TB)) from trivial)
        rwa [List.append_nil] at this
      · next hx =>
        have := List.length_pos_iff.2 hx
        exact shape_app h20 (by decide) (show So.shape 20 [M] from ⟨by omega, by omega⟩)
    · split
      · next hx => rw [hx, List.append_nil] at hPX; rw [← hPX]; exact hD
      · rw [flat_app, ← hPX]; exact hD.append hp
    · split
      · next hx => subst hx; rw [List.perm_nil.1 hp, List.append_nil]
      · rw [flat_app]
    clear e0 e1 e2 e6 e7 e8
    rintro ρ H ⟨bs, R, hb1, hb2, hGR, hsh, hpR, e0, e1, e2, e6, hH⟩
    have hRl : R.flatten.length = l.length := by rw [hpR.length_eq, htl]
    simp only [go_sem, e0, e1, e2, e6]
    refine acond_i (fun hlt => ?_) (fun hge2 => ?_)
    · have hlt := ltB hlt
      have wd : IntKind.i64.wrap (2 * (bs : Int)) = ((2 * bs : Nat) : Int) := by rw [wrap_in (by omega)]; omega
      simp only [go_sem, e0, e1, e2, e6, wd]
      refine ⟨fun ρ H => ∃ (D R : List (List TB)), So.Good lt (D ++ R) ∧ (∀ A ∈ D, A.length = 2 * bs) ∧ So.shape bs R ∧ (D.flatten ++ R.flatten).Perm (tag l) ∧ ρ 0 = .os j ∧ ρ 1 = int l.length ∧ ρ 2 = cmpV gf ∧ ρ 6 = int bs ∧ ρ 7 = int D.flatten.length ∧ ρ 8 = int (D.flatten.length + 2 * bs : Nat) ∧ H = updH H0 j (some (brRow (fs (D.flatten ++ R.flatten)))), fun ρ _ => l.length + 1 - natOf (ρ 7),
        ⟨[], R, by simpa using hGR, by simp, hsh, by simpa using hpR, by simp only [go_sem, e0], by simp only [go_sem, e1], by simp only [go_sem, e2], by simp only [go_sem, e6], by simp only [go_sem]; rfl, by simp only [go_sem]; simp, by rw [hH]; rfl⟩, ?_⟩
      clear e0 e1 e2 e6 hH hGR hsh hpR hRl R
      rintro ρ H ⟨D', R, hGR, h2b, hsh, hpR, e0, e1, e2, e6, e7, e8, hH⟩
      have hRl : D'.flatten.length + R.flatten.length = l.length := by rw [← htl, ← hpR.length_eq, List.length_append]
      have hokR : ∀ A ∈ R, ∀ x ∈ A, ok x.1 := fun A hA x hx => hokT x (hpR.mem_iff.1 (List.mem_append_right _ (List.mem_flatten.2 ⟨A, hA, hx⟩)))
      simp only [go_sem, e0, e1, e2, e6, e7, e8]
      refine acond_i (fun hle => ?_) (fun hgt => ?_)
      · have hle : D'.flatten.length + 2 * bs ≤ l.length := by have := of_decide_eq_true hle; omega
        obtain ⟨A, B, r, hRe, hA, hB, hr⟩ := shape_two (by omega) hsh (by omega)
        obtain ⟨g1, g2, g3⟩ := good_ranks (hRe ▸ hGR)
        have hfl : R.flatten = A ++ (B ++ r.flatten) := by rw [hRe]; simp
        have hfl2 : R.flatten.length = A.length + B.length + r.flatten.length := by rw [hfl, List.length_append, List.length_append]; omega
        have w1 := wAdd (a := D'.flatten.length) (b := bs) (by omega)
        simp only [go_sem, e0, e1, e2, e6, e7, e8, w1]
        refine symMerge_c hs hc (A.length + B.length) D'.flatten A B r.flatten D'.flatten.length (D'.flatten.length + bs) (D'.flatten.length + 2 * bs) j H _ (Nat.le_refl _) rfl (by omega) (by omega) (fun e => by rw [e] at hA; simp at hA; omega) (fun e => by rw [e] at hB; simp at hB; omega) g2 g3 g1 (fun x hx => hokR A (by rw [hRe]; simp) x hx) (fun x hx => hokR B (by rw [hRe]; simp) x hx) (by omega) (by rw [hH, updH_same, hfl]; simp only [List.append_assoc]) fun M2 hp2 hs2 rr => ?_
        have hM2 : M2.length = 2 * bs := by rw [hp2.length_eq, List.length_append]; omega
        have w2 := wAdd (a := D'.flatten.length + 2 * bs) (b := 2 * bs) (by omega)
        simp only [go_sem, e0, e1, e2, e6, e7, e8, wd, w2]
        refine ⟨⟨D' ++ [M2], r, ?_, ?_, hr, ?_, ?_, ?_, ?_⟩, ?_⟩
        · have := good_merge (hRe ▸ hGR) hp2 hs2
          simpa using this
        · intro A' hA'
          rcases List.mem_append.1 hA' with hA' | hA'
          · exact h2b A' hA'
          · rw [List.mem_singleton.1 hA']; exact hM2
        · refine List.Perm.trans ?_ hpR
          rw [flat_app, hfl, List.append_assoc]
          refine List.Perm.append_left _ ?_
          rw [← List.append_assoc]
          exact hp2.append_right _
        · rw [flat_app, List.length_append, hM2]
        · rw [flat_app, List.length_append, hM2]
        · rw [hH, updH_twice, flat_app]
        · simp only [natOf_int]; omega
      · have hgt : l.length < D'.flatten.length + 2 * bs := by have := of_decide_eq_false hgt; omega
        have w1 := wAdd (a := D'.flatten.length) (b := bs) (by omega)
        have w3 : IntKind.i64.wrap ((bs : Int) * 2) = ((2 * bs : Nat) : Int) := by rw [wrap_in (by omega)]; omega
        simp only [go_sem, e0, e1, e2, e6, e7, e8, w1]
        refine acond_i (fun hm => ?_) (fun hm => ?_)
        · have hm := ltB hm
          obtain ⟨A, B, hRe, hA, hB1, hB2⟩ := shape_last hsh (by omega) (by omega)
          obtain ⟨g1, g2, g3⟩ := good_ranks (hRe ▸ hGR)
          have hfl : R.flatten = A ++ B := by rw [hRe]; simp
          have hfl2 : R.flatten.length = A.length + B.length := by rw [hfl, List.length_append]
          simp only [go_sem, e0, e1, e2, e6, e7, e8]
          refine symMerge_c hs hc (A.length + B.length) D'.flatten A B [] D'.flatten.length (D'.flatten.length + bs) l.length j H _ (Nat.le_refl _) rfl (by omega) (by omega) (fun e => by rw [e] at hA; simp at hA; omega) (fun e => by rw [e] at hB1; simp at hB1) g2 g3 g1 (fun x hx => hokR A (by rw [hRe]; simp) x hx) (fun x hx => hokR B (by rw [hRe]; simp) x hx) (by simp only [List.length_nil]; omega) (by rw [hH, updH_same, hfl]; simp only [List.append_assoc, List.append_nil]) fun M2 hp2 hs2 rr => ?_
          have hM2 : M2.length = A.length + B.length := by rw [hp2.length_eq, List.length_append]
          simp only [go_sem, e0, e1, e2, e6, w3]
          refine ⟨⟨2 * bs, D' ++ [M2], by omega, by omega, ?_, shape_app h2b (by omega) ⟨by omega, by omega⟩, ?_, rfl, ?_⟩, ?_⟩
          · have := good_merge (hRe ▸ hGR) hp2 hs2
            exact this
          · refine List.Perm.trans ?_ hpR
            rw [flat_app, hfl]
            exact List.Perm.append_left _ hp2
          · rw [hH, updH_twice, flat_app]
          · simp only [natOf_int]; omega
        · have hm : l.length ≤ D'.flatten.length + bs := by have := of_decide_eq_false hm; omega
          simp only [go_sem, e0, e1, e2, e6, w3]
          refine ⟨⟨2 * bs, D' ++ R, by omega, by omega, hGR, shape_app h2b (by omega) ?_, by rw [List.flatten_append]; exact hpR, rfl, by rw [hH, List.flatten_append]⟩, ?_⟩
          · rcases shape_one (by omega) hsh (by omega) with rfl | ⟨A, rfl, hA1, hA2⟩
            · trivial
            · exact ⟨hA1, by omega⟩
          · simp only [natOf_int]; omega
    · have hge2 : l.length ≤ bs := by simp at hge2; omega
      simp only [go_sem]
      rw [hH]
      have := sorted_is hs hpR (good_end hGR (by omega) hsh (by omega))
      unfold fs
      rw [this]
      exact hK _
theorem sortStable_c (hs : SWO lt) (hc : CmpOk gf lt ok) (l : List Broken) (j : Nat) (H0 : Heap) (K : AV → Heap → Prop) (hl : l.length ≤ 1048576) (hok : ∀ x ∈ l, ok x) (hj : H0 j = some (brRow l))
    (hK : ∀ r, K r (updH H0 j (some (brRow (ssort lt l))))) : FCalls Tryz.prog 71 [.os j, cmpV gf] H0 K := by
  refine FCalls.body (c := Tryz.f71.body.getD .skip) (fun _ => false) mixed Tryz.func71 rfl (by kernel_rfl) ?_
  unfold Tryz.f71
  simp only [Option.getD_some]
  simp only [go_sem]
  simp only [go_sem, hj, List.length_map]
  refine stable_c hs hc l j H0 _ hl hok hj fun r => ?_
  simp only [go_sem]
  exact hK _
end
end Go.Proofs.YtbcfajfngdmgnaaGreatDoor.Nu
end

section
set_option linter.unusedSimpArgs false
set_option linter.unusedVariables false
namespace Go.Aw.D
open Go.Aw Go.RowKit Go.Proofs Go.Proofs.YtbcfajfngdmgnaaGreatDoor Go.WideShapes Go.ChangeShapes
set_option maxRecDepth 100000
section
variable {H : Type} {e : TypeId × Value → H} {w : World}
end
def rowLaid : List (String × DataW Unit) := [("math/bits.deBruijn32tab", Go.Proofs.YtbcfajfngdmgnaaGreatDoor.Rows.laid_math_bits_deBruijn32tab), ("math/bits.deBruijn64tab", Go.Proofs.YtbcfajfngdmgnaaGreatDoor.Rows.laid_math_bits_deBruijn64tab), ("internal/strconv.uint64pow10", Go.Proofs.YtbcfajfngdmgnaaGreatDoor.Rows.laid_internal_strconv_uint64pow10)]
theorem laid_bru : (Go.Proofs.YtbcfajfngdmgnaaGreatDoor.Rows.laid_math_bits_deBruijn64tab : DataW Unit) = Lib.tabData .u8 (Lib.deBruijn64tab.map fun z : Nat => (z : Int)) := by kernel_rfl
theorem laid_pow : (Go.Proofs.YtbcfajfngdmgnaaGreatDoor.Rows.laid_internal_strconv_uint64pow10 : DataW Unit) = Lib.tabData .u64 Lib.pow10Tab := by kernel_rfl
theorem tabsIn_of {W : World} (h : laidMetH Tryz.prog rowLaid W) : TabsIn W := by
  have h0 : laidMet Tryz.prog rowLaid W := (Go.MakeChecks.laidMetH_plain Tryz.prog rowLaid W (by kernel_rfl)) ▸ h
  have h1 := laidMet.tail h0
  have h2 := laidMet.tail h1
  rw [laid_bru] at h1
  rw [laid_pow] at h2
  have b := Lib.tabIs_of_head (g := 3) (by kernel_rfl) (by kernel_rfl) (t := 352) (e := 5) (n := 64) Tryz.underlying352 Tryz.underlying5 (by kernel_rfl) (by kernel_rfl) h1
  have p := Lib.tabIs_of_head (g := 1) (by kernel_rfl) (by kernel_rfl) (t := 337) (e := 317) (n := 20) Tryz.underlying337 Tryz.underlying317 (by kernel_rfl) (by kernel_rfl) h2
  unfold Lib.TabIs World.var? at b p
  rw [show Tryz.prog.globalNamed "math/bits.deBruijn64tab" = some 3 by kernel_rfl] at b
  rw [show Tryz.prog.globalNamed "internal/strconv.uint64pow10" = some 1 by kernel_rfl] at p
  intro t ht
  simp only [tabL, List.mem_cons, List.not_mem_nil, or_false] at ht
  rcases ht with rfl | rfl
  · exact p
  · have : bruTab = ((Lib.deBruijn64tab.map fun z : Nat => (z : Int)).map fun z => Value.int .u8 z).toArray := by simp [bruTab]
    rw [this]
    exact b
end Go.Aw.D
end

section
set_option linter.unusedSimpArgs false
set_option linter.unusedVariables false
namespace Go.Proofs.YtbcfajfngdmgnaaGreatDoor.cutHolds
open Go.Aw Go.Aw.D Go.Proofs Go.RowKit Go.ChangeShapes Go.WideShapes Go.ChangeAt
set_option maxRecDepth 100000
def Holds : Prop := ∀ (x0 : Instance) (x1 : Plan) (x2 : Cut), bInstance 1048576 x0 → bPlan 1048576 x1 → bCut 1048576 x2 → PC Tryz.prog 5 [.agg (encInstance x0), .agg (encPlan x1), .agg (encCut x2)] (.v (.bool true))
theorem own : ownKnob Tryz.prog.godebug = none := by kernel_rfl
theorem laid : laidOutB Tryz.prog = true := by kernel_rfl
theorem readCut : Tryz.prog.readableRec 23 = true ∧ 23 < Tryz.prog.types.size := ⟨by kernel_rfl, by decide +kernel⟩
theorem readInstance : Tryz.prog.readableRec 42 = true ∧ 42 < Tryz.prog.types.size := ⟨by kernel_rfl, by decide +kernel⟩
theorem readPlan : Tryz.prog.readableRec 53 = true ∧ 53 < Tryz.prog.types.size := ⟨by kernel_rfl, by decide +kernel⟩
theorem contract (hh : Holds) (H : Type) (enc : TypeId × Value → H) (W : World) (base : Nat) (args : Array Value) (ds gs : List (DataW H)) (before : List MemPlace)
    (hval : ∀ (j : Nat) t v, Tryz.f5.params[j]? = some t → args[j]? = some v → Value.okWide Tryz.prog W .any base t v)
    (hW : DataW.Whole enc Tryz.prog Tryz.f5.params.toList Rows.cutHoldsSpec.vars false W args.toList ds gs before) (hk : Rows.uptoSmall H (ds ++ gs) = true) (ht : TabsIn W) :
    Calls Tryz.prog 5 args W fun e W' => ∃ v, e = .returned v ∧ Rows.cutHoldsSpec.post enc Tryz.prog Tryz.f5 false true false false W args v W' := by
  have hW' := hW
  obtain ⟨p, q, hA0, hV, rfl, hfz, hnd⟩ := hW
  have hA : DataW.TrodAll enc Tryz.prog W 0 (fun _ => true) true [42, 53, 23] args.toList ds p := hA0
  obtain ⟨v0, v1, v2, d0, d1, d2, p0, p1, p2, rfl, rfl, rfl, h0, h1, h2⟩ := trodAll_three hA
  obtain ⟨rfl, rfl⟩ := trodVars_none hV
  clear hA0
  simp only [List.append_nil] at hW' hk
  have hb : Rows.uptoBulkAll [d0, d1, d2] ≤ 1048576 := of_decide_eq_true hk
  simp only [Rows.uptoBulkAll] at hb
  obtain ⟨x0, r0, b0⟩ := arg_struct Tryz.underlying42 rd_Instance (hval 0 42 v0 rfl rfl) h0
  obtain ⟨x1, r1, b1⟩ := arg_struct Tryz.underlying53 rd_Plan (hval 1 53 v1 rfl rfl) h1
  obtain ⟨x2, r2, b2⟩ := arg_struct Tryz.underlying23 rd_Cut (hval 2 23 v2 rfl rfl) h2
  refine (calls_of_PC (vals := [v0, v1, v2]) (hh x0 x1 x2 (b0 _ (by simp only [BK]; omega)) (b1 _ (by simp only [BK]; omega)) (b2 _ (by simp only [BK]; omega))) ht (by simp only [repL]; exact ⟨_, _, rfl, r0, ⟨_, _, rfl, r1, ⟨_, _, rfl, r2, rfl⟩⟩⟩)).mono fun e W' ⟨he, hg⟩ => ?_
  subst he
  exact ⟨_, rfl, post_true laid (by
    intro t ht
    have ht : t ∈ [42, 53, 23] := ht
    simp only [List.mem_cons, List.not_mem_nil, or_false] at ht
    rcases ht with rfl | rfl | rfl
    · exact readInstance
    · exact readPlan
    · exact readCut
    ) rfl Tryz.underlying4 rfl (gs := []) (by simpa using hW') rfl rfl rfl hg⟩
def cellsOf : DataW Unit → Array Value
  | .agg l => (l.map fun d => match d with | .lit (.int k n) => Value.int k n | _ => undef).toArray
  | _ => #[]
noncomputable def laidWorld (os : Os) : World :=
  let w0 := World.holding Tryz.prog os ⟨#[], #[], []⟩
  let put (h : Array Obj) (g : Nat) (cs : Array Value) : Array Obj := h.modify g fun
    | .cells _ t frozen => .cells cs t frozen
    | o => o
  let h1 := put w0.heap 2 (cellsOf Rows.laid_math_bits_deBruijn32tab)
  let h2 := put h1 3 (cellsOf Rows.laid_math_bits_deBruijn64tab)
  let h3 := put h2 1 (cellsOf Rows.laid_internal_strconv_uint64pow10)
  { w0 with heap := h3 }
theorem laid_met (os : Os) : laidMet Tryz.prog Rows.cutHoldsUptoRow.laid ((laidWorld os).forCall (fun _ _ => 0) ⟨#[], #[.agg #[.slice none 0 0, .slice none 0 0, .slice none 0 0, .slice none 0 0, .slice none 0 0, .slice none 0 0], .agg #[.slice none 0 0, .slice none 0 0], .agg #[.int .i64 0, .int .i64 0, .int .i64 0]], []⟩).memory :=
  laidMet_of_run' 8 (by kernel_rfl) (by kernel_rfl)
theorem reads (os : Os) {H : Type} (enc : TypeId × Value → H) : ∃ places, DataW.whole enc Tryz.prog ((laidWorld os).forCall (fun _ _ => 0) ⟨#[], #[.agg #[.slice none 0 0, .slice none 0 0, .slice none 0 0, .slice none 0 0, .slice none 0 0, .slice none 0 0], .agg #[.slice none 0 0, .slice none 0 0], .agg #[.int .i64 0, .int .i64 0, .int .i64 0]], []⟩).memory Tryz.f5.params.toList Rows.cutHoldsSpec.vars false (#[.agg #[.slice none 0 0, .slice none 0 0, .slice none 0 0, .slice none 0 0, .slice none 0 0, .slice none 0 0], .agg #[.slice none 0 0, .slice none 0 0], .agg #[.int .i64 0, .int .i64 0, .int .i64 0]] : Array Value).toList 8 = some ([.agg [.agg [.nil, .nil], .nil, .nil, .nil, .nil], .agg [.nil, .nil], .agg [.lit (.int .i64 0), .lit (.int .i64 0), .lit (.int .i64 0)]], [], places) :=
  ⟨[], by kernel_rfl⟩
theorem lifted (hh : Holds) (os : Os) (started : os.Started) (H : Type) (enc : TypeId × Value → H) (F : Stop.Interp) :
    ReturnsInHanded {} Tryz.checked os 5 .any ((Rows.OpenSpec.upto Rows.cutHoldsSpec).preRow enc Tryz.prog Tryz.f5 Rows.cutHoldsUptoRow.domain false Rows.cutHoldsUptoRow.laid) (((Rows.OpenSpec.upto Rows.cutHoldsSpec).at F).post enc Tryz.prog Tryz.f5 false true false false) := by
  obtain ⟨places, hx⟩ := reads os enc
  refine returnsInHanded_of_row (C := Tryz.checked) (s := Rows.OpenSpec.upto Rows.cutHoldsSpec) own started (by kernel_rfl) Tryz.func5
    (witness_row_atRef (enc := enc) (C := Tryz.checked) false (laidWorld os) #[.agg #[.slice none 0 0, .slice none 0 0, .slice none 0 0, .slice none 0 0, .slice none 0 0, .slice none 0 0], .agg #[.slice none 0 0, .slice none 0 0], .agg #[.int .i64 0, .int .i64 0, .int .i64 0]] rfl (by kernel_rfl) (by kernel_rfl) (by kernel_rfl)
      (OpenSpec.preRow_of_cond 8 hx (by kernel_rfl) (fun k hk => by cases hk; kernel_rfl) (by kernel_rfl) (laid_met os))) ?_
  intro W base args ds gs before hval hW _ hk _ hlaid _ _
  exact contract hh H enc W base args ds gs before hval hW (hk _ rfl) (tabsIn_of hlaid)
theorem and_mk {a b : Bool} (h1 : a = true) (h2 : b = true) : (a && b) = true := by rw [h1, h2]; rfl
set_option maxHeartbeats 4000000 in
theorem closed : joinedFacts Tryz.prog 5 Tryz.f5 (Rows.OpenSpec.upto Rows.cutHoldsSpec).bare Rows.cutHoldsUptoRow = true := by
  unfold joinedFacts
  repeat' (first | with_reducible refine and_mk ?_ ?_ | (as_aux_lemma => kernel_rfl))
set_option maxHeartbeats 4000000 in
theorem over (hh : Holds) : Rows.CutHoldsUptoSaid :=
  OpenClaim.holds_of_cond 5 Tryz.f5 rfl rfl rfl rfl rfl rfl rfl ⟨rfl, rfl, rfl, rfl, rfl⟩ rfl rfl rfl rfl rfl (by as_aux_lemma => kernel_rfl) Tryz.func5 closed
    (of_decide_eq_true (by as_aux_lemma => kernel_rfl)) (by unfold Func.isWrapper; first | (rw [if_pos (by decide +kernel)]; kernel_rfl) | (rw [if_neg (by decide +kernel)]; exact ⟨rfl, rfl⟩))
    (fun os started H enc _ F => by rw [OpenClaim.pre_eq_preRow]; exact lifted hh os started H enc F)
set_option maxHeartbeats 4000000 in
theorem card (hh : Holds) : Rows.CutHoldsUptoCardSaid :=
  Claim7.holds_tied_plain_at .later [] _ _ _ _ (over hh) (fun _ h => by cases h) (by as_aux_lemma => kernel_rfl) (fun _ h => by cases h) cutHoldsUpto_row_tie rfl ⟨rfl, rfl⟩ (by as_aux_lemma => kernel_rfl) rfl
    (fun f fn hf hfn => by
      obtain rfl : f = 5 := Option.some.inj ((show Tryz.prog.funcNamed "lorry/lorrylaw28.CutHolds" = some 5 by as_aux_lemma => kernel_rfl).symm.trans hf) |>.symm
      obtain rfl : fn = Tryz.f5 := (Option.some.inj (Tryz.func5.symm.trans hfn)).symm
      refine ⟨by as_aux_lemma => kernel_rfl, fun j t ht => ?_⟩
      have ht : (#[42, 53, 23] : Array TypeId)[j]? = some t := ht
      have hm := Array.mem_of_getElem? ht
      simp only [Array.mem_def, List.mem_cons, List.not_mem_nil, or_false, or_self] at hm
      rcases hm with rfl | rfl | rfl
      · exact (show Tryz.prog.wantsStandIn 42 = false by as_aux_lemma => kernel_rfl)
      · exact (show Tryz.prog.wantsStandIn 53 = false by as_aux_lemma => kernel_rfl)
      · exact (show Tryz.prog.wantsStandIn 23 = false by as_aux_lemma => kernel_rfl)) (by as_aux_lemma => kernel_rfl)
end Go.Proofs.YtbcfajfngdmgnaaGreatDoor.cutHolds
end
