/- Texts joined by a program: SoE, CuJ, CuK. -/
import Derived.Test.YtbcfajfngdmgnaaGreatDoorZg31
import Derived.Test.YtbcfajfngdmgnaaGreatDoorZg33

section
set_option linter.unusedSimpArgs false
set_option linter.unusedVariables false
namespace Go.Proofs.YtbcfajfngdmgnaaGreatDoor.Nu
open Go.Aw Go.Aw.D Go.Proofs Ty Go.Nu Go.So
set_option maxRecDepth 100000
theorem tag_up {α : Type} (l : List α) : (tag l).Pairwise fun p q => p.2 < q.2 := by
  rw [List.pairwise_iff_getElem]
  intro i k hi hk hik
  rw [tag_get (List.getElem?_eq_getElem hi), tag_get (List.getElem?_eq_getElem hk)]
  exact hik
theorem flat_app {α : Type} (D : List (List α)) (A : List α) : (D ++ [A]).flatten = D.flatten ++ A := by simp
section
variable {gf : Nat} {lt : Broken → Broken → Bool} {ok : Broken → Prop}
set_option maxHeartbeats 4000000 in
theorem stable_c (hs : SWO lt) (hc : CmpOk gf lt ok) (l : List Broken) (j : Nat) (H0 : Heap) (K : AV → Heap → Prop) (hl : l.length ≤ 1048576) (hok : ∀ x ∈ l, ok x) (hj : H0 j = some (brRow l))
    (hK : ∀ r, K r (updH H0 j (some (brRow (ssort lt l))))) : FCalls Tryz.prog 145 [.os j, int l.length, cmpV gf] H0 K := by
  have hokT : ∀ x ∈ tag l, ok x.1 := fun x hx => hok x.1 (by
    have := List.mem_map_of_mem (f := Prod.fst) hx
    rwa [tag_fst] at this)
  have htl := tag_len l
  refine FCalls.body (c := Tryz.f145.body.getD .skip) (fun _ => false) mixed Tryz.func145 rfl (by kernel_rfl) ?_
  unfold Tryz.f145
  simp only [Option.getD_some]
  simp only [go_sem]
  refine ⟨fun ρ H => ∃ (D : List (List TB)) (P0 X : List TB), P0 ++ X = tag l ∧ D.flatten.Perm P0 ∧ So.Good lt D ∧ (∀ A ∈ D, A.length = 20) ∧ ρ 0 = .os j ∧ ρ 1 = int l.length ∧ ρ 2 = cmpV gf ∧ ρ 6 = int 20 ∧ ρ 7 = int P0.length ∧ ρ 8 = int (P0.length + 20 : Nat) ∧ H = updH H0 j (some (brRow (fs (D.flatten ++ X)))), fun ρ _ => l.length + 1 - natOf (ρ 7),
    ⟨[], [], tag l, rfl, .refl _, ⟨by simp, List.Pairwise.nil⟩, by simp, by simp only [go_sem], by simp only [go_sem], by simp only [go_sem], by simp only [go_sem], by simp only [go_sem]; rfl, by simp only [go_sem]; rfl, by
      have : fs (([] : List (List TB)).flatten ++ tag l) = l := tag_fst l
      rw [this]; exact (updH_self hj).symm⟩, ?_⟩
  rintro ρ H ⟨D, P0, X, hPX, hD, hG, h20, e0, e1, e2, e6, e7, e8, hH⟩
  have hlen : P0.length + X.length = l.length := by rw [← htl, ← hPX, List.length_append]
  have hDl : D.flatten.length = P0.length := hD.length_eq
  have R : H j = some (brRow (fs (D.flatten ++ X))) := by rw [hH]; exact updH_same _ _ _
  have hrX : X.Pairwise fun p q => p.2 < q.2 := (List.pairwise_append.1 (hPX ▸ tag_up l)).2.1
  have hokX : ∀ x ∈ X, ok x.1 := fun x hx => hokT x (by rw [← hPX]; exact List.mem_append_right _ hx)
  have hrk : ∀ M X' : List TB, M.Perm X' → (∀ x ∈ X', x ∈ X) → ∀ B ∈ D, ranks B M := fun M X' hM hX' B hB x hx y hy =>
    tag_ranks hPX x (hD.mem_iff.1 (List.mem_flatten.2 ⟨B, hB, hx⟩)) y (hX' y (hM.mem_iff.1 hy))
  simp only [go_sem, e0, e1, e2, e6, e7, e8]
  refine acond_i (fun hle => ?_) (fun hge => ?_)
  · have hle : P0.length + 20 ≤ l.length := by simp at hle; omega
    obtain ⟨X1, X2, hX, hX1, hX2⟩ := split_at (l := X) (n := 20) (by omega)
    simp only [go_sem, e0, e1, e2, e6, e7, e8]
    refine insertion_c hs hc D.flatten X1 X2 P0.length (P0.length + 20) j H _ hDl.symm (by omega) ((List.pairwise_append.1 (hX ▸ hrX)).1) (fun x hx => hokX x (by rw [hX]; exact List.mem_append_left _ hx)) (by simp only [List.length_append]; omega) (by rw [R, hX, List.append_assoc]) fun M hp hM r => ?_
    have hML : M.length = 20 := by rw [hp.length_eq, hX1]
    have w20 : IntKind.i64.wrap (((P0.length + 20 : Nat) : Int) + 20) = ((P0.length + 20 + 20 : Nat) : Int) := by rw [wrap_in (by omega)]; omega
    simp only [go_sem, e0, e1, e2, e6, e7, e8, w20]
    refine ⟨⟨D ++ [M], P0 ++ X1, X2, by rw [← hPX, hX, List.append_assoc], ?_, good_more hG hM (hrk M X1 hp fun x hx => by rw [hX]; exact List.mem_append_left _ hx), ?_, ?_, ?_, ?_⟩, ?_⟩
    · rw [flat_app]; exact hD.append hp
    · intro A hA
      rcases List.mem_append.1 hA with hA | hA
      · exact h20 A hA
      · rw [List.mem_singleton.1 hA]; exact hML
    · rw [List.length_append, hX1]
    · rw [List.length_append, hX1]
    · rw [hH, updH_twice, flat_app]
    · simp only [natOf_int]; omega
  · have hge : l.length < P0.length + 20 := by simp at hge; omega
    simp only [go_sem, e0, e1, e2, e6, e7, e8]
    refine insertion_c hs hc D.flatten X [] P0.length l.length j H _ hDl.symm (by omega) hrX hokX (by simp only [List.length_append, List.length_nil]; omega) (by rw [R, List.append_nil]) fun M hp hM r => ?_
    have hML : M.length = X.length := hp.length_eq
    rw [List.append_nil, hH, updH_twice]
    clear R hH
    simp only [go_sem, e0, e1, e2, e6]
    refine ⟨fun ρ H => ∃ (bs : Nat) (R : List (List TB)), 20 ≤ bs ∧ bs ≤ 4194304 ∧ So.Good lt R ∧ So.shape bs R ∧ R.flatten.Perm (tag l) ∧ ρ 0 = .os j ∧ ρ 1 = int l.length ∧ ρ 2 = cmpV gf ∧ ρ 6 = int bs ∧ H = updH H0 j (some (brRow (fs R.flatten))), fun ρ _ => l.length - natOf (ρ 6),
      ⟨20, if X = [] then D else D ++ [M], Nat.le_refl _, by decide, ?_, ?_, ?_, by simp only [go_sem, e0], by simp only [go_sem, e1], by simp only [go_sem, e2], by simp only [go_sem, e6]; rfl, ?_⟩, ?_⟩
    · split
      · exact hG
      · exact good_more hG hM (hrk M X hp fun x hx => hx)
    · split
      · have := shape_app h20 (by decide) (show So.shape 20 ([] : List (List TB)) from trivial)
        rwa [List.append_nil] at this
      · next hx =>
        have := List.length_pos_iff.2 hx
        exact shape_app h20 (by decide) (show So.shape 20 [M] from ⟨by omega, by omega⟩)
    · split
      · next hx => rw [hx, List.append_nil] at hPX; rw [← hPX]; exact hD
      · rw [flat_app, ← hPX]; exact hD.append hp
    · split
      · next hx => subst hx; rw [List.perm_nil.1 hp, List.append_nil]
      · rw [flat_app]
    clear e0 e1 e2 e6 e7 e8
    rintro ρ H ⟨bs, R, hb1, hb2, hGR, hsh, hpR, e0, e1, e2, e6, hH⟩
    have hRl : R.flatten.length = l.length := by rw [hpR.length_eq, htl]
    simp only [go_sem, e0, e1, e2, e6]
    refine acond_i (fun hlt => ?_) (fun hge2 => ?_)
    · have hlt := ltB hlt
      have wd : IntKind.i64.wrap (2 * (bs : Int)) = ((2 * bs : Nat) : Int) := by rw [wrap_in (by omega)]; omega
      simp only [go_sem, e0, e1, e2, e6, wd]
      refine ⟨fun ρ H => ∃ (D R : List (List TB)), So.Good lt (D ++ R) ∧ (∀ A ∈ D, A.length = 2 * bs) ∧ So.shape bs R ∧ (D.flatten ++ R.flatten).Perm (tag l) ∧ ρ 0 = .os j ∧ ρ 1 = int l.length ∧ ρ 2 = cmpV gf ∧ ρ 6 = int bs ∧ ρ 7 = int D.flatten.length ∧ ρ 8 = int (D.flatten.length + 2 * bs : Nat) ∧ H = updH H0 j (some (brRow (fs (D.flatten ++ R.flatten)))), fun ρ _ => l.length + 1 - natOf (ρ 7),
        ⟨[], R, by simpa using hGR, by simp, hsh, by simpa using hpR, by simp only [go_sem, e0], by simp only [go_sem, e1], by simp only [go_sem, e2], by simp only [go_sem, e6], by simp only [go_sem]; rfl, by simp only [go_sem]; simp, by rw [hH]; rfl⟩, ?_⟩
      clear e0 e1 e2 e6 hH hGR hsh hpR hRl R
      rintro ρ H ⟨D', R, hGR, h2b, hsh, hpR, e0, e1, e2, e6, e7, e8, hH⟩
      have hRl : D'.flatten.length + R.flatten.length = l.length := by rw [← htl, ← hpR.length_eq, List.length_append]
      have hokR : ∀ A ∈ R, ∀ x ∈ A, ok x.1 := fun A hA x hx => hokT x (hpR.mem_iff.1 (List.mem_append_right _ (List.mem_flatten.2 ⟨A, hA, hx⟩)))
      simp only [go_sem, e0, e1, e2, e6, e7, e8]
      refine acond_i (fun hle => ?_) (fun hgt => ?_)
      · have hle : D'.flatten.length + 2 * bs ≤ l.length := by have := of_decide_eq_true hle; omega
        obtain ⟨A, B, r, hRe, hA, hB, hr⟩ := shape_two (by omega) hsh (by omega)
        obtain ⟨g1, g2, g3⟩ := good_ranks (hRe ▸ hGR)
        have hfl : R.flatten = A ++ (B ++ r.flatten) := by rw [hRe]; simp
        have hfl2 : R.flatten.length = A.length + B.length + r.flatten.length := by rw [hfl, List.length_append, List.length_append]; omega
        have w1 := wAdd (a := D'.flatten.length) (b := bs) (by omega)
        simp only [go_sem, e0, e1, e2, e6, e7, e8, w1]
        refine symMerge_c hs hc (A.length + B.length) D'.flatten A B r.flatten D'.flatten.length (D'.flatten.length + bs) (D'.flatten.length + 2 * bs) j H _ (Nat.le_refl _) rfl (by omega) (by omega) (fun e => by rw [e] at hA; simp at hA; omega) (fun e => by rw [e] at hB; simp at hB; omega) g2 g3 g1 (fun x hx => hokR A (by rw [hRe]; simp) x hx) (fun x hx => hokR B (by rw [hRe]; simp) x hx) (by omega) (by rw [hH, updH_same, hfl]; simp only [List.append_assoc]) fun M2 hp2 hs2 rr => ?_
        have hM2 : M2.length = 2 * bs := by rw [hp2.length_eq, List.length_append]; omega
        have w2 := wAdd (a := D'.flatten.length + 2 * bs) (b := 2 * bs) (by omega)
        simp only [go_sem, e0, e1, e2, e6, e7, e8, wd, w2]
        refine ⟨⟨D' ++ [M2], r, ?_, ?_, hr, ?_, ?_, ?_, ?_⟩, ?_⟩
        · have := good_merge (hRe ▸ hGR) hp2 hs2
          simpa using this
        · intro A' hA'
          rcases List.mem_append.1 hA' with hA' | hA'
          · exact h2b A' hA'
          · rw [List.mem_singleton.1 hA']; exact hM2
        · refine List.Perm.trans ?_ hpR
          rw [flat_app, hfl, List.append_assoc]
          refine List.Perm.append_left _ ?_
          rw [← List.append_assoc]
          exact hp2.append_right _
        · rw [flat_app, List.length_append, hM2]
        · rw [flat_app, List.length_append, hM2]
        · rw [hH, updH_twice, flat_app]
        · simp only [natOf_int]; omega
      · have hgt : l.length < D'.flatten.length + 2 * bs := by have := of_decide_eq_false hgt; omega
        have w1 := wAdd (a := D'.flatten.length) (b := bs) (by omega)
        have w3 : IntKind.i64.wrap ((bs : Int) * 2) = ((2 * bs : Nat) : Int) := by rw [wrap_in (by omega)]; omega
        simp only [go_sem, e0, e1, e2, e6, e7, e8, w1]
        refine acond_i (fun hm => ?_) (fun hm => ?_)
        · have hm := ltB hm
          obtain ⟨A, B, hRe, hA, hB1, hB2⟩ := shape_last hsh (by omega) (by omega)
          obtain ⟨g1, g2, g3⟩ := good_ranks (hRe ▸ hGR)
          have hfl : R.flatten = A ++ B := by rw [hRe]; simp
          have hfl2 : R.flatten.length = A.length + B.length := by rw [hfl, List.length_append]
          simp only [go_sem, e0, e1, e2, e6, e7, e8]
          refine symMerge_c hs hc (A.length + B.length) D'.flatten A B [] D'.flatten.length (D'.flatten.length + bs) l.length j H _ (Nat.le_refl _) rfl (by omega) (by omega) (fun e => by rw [e] at hA; simp at hA; omega) (fun e => by rw [e] at hB1; simp at hB1) g2 g3 g1 (fun x hx => hokR A (by rw [hRe]; simp) x hx) (fun x hx => hokR B (by rw [hRe]; simp) x hx) (by simp only [List.length_nil]; omega) (by rw [hH, updH_same, hfl]; simp only [List.append_assoc, List.append_nil]) fun M2 hp2 hs2 rr => ?_
          have hM2 : M2.length = A.length + B.length := by rw [hp2.length_eq, List.length_append]
          simp only [go_sem, e0, e1, e2, e6, w3]
          refine ⟨⟨2 * bs, D' ++ [M2], by omega, by omega, ?_, shape_app h2b (by omega) ⟨by omega, by omega⟩, ?_, rfl, ?_⟩, ?_⟩
          · have := good_merge (hRe ▸ hGR) hp2 hs2
            exact this
          · refine List.Perm.trans ?_ hpR
            rw [flat_app, hfl]
            exact List.Perm.append_left _ hp2
          · rw [hH, updH_twice, flat_app]
          · simp only [natOf_int]; omega
        · have hm : l.length ≤ D'.flatten.length + bs := by have := of_decide_eq_false hm; omega
          simp only [go_sem, e0, e1, e2, e6, w3]
          refine ⟨⟨2 * bs, D' ++ R, by omega, by omega, hGR, shape_app h2b (by omega) ?_, by rw [List.flatten_append]; exact hpR, rfl, by rw [hH, List.flatten_append]⟩, ?_⟩
          · rcases shape_one (by omega) hsh (by omega) with rfl | ⟨A, rfl, hA1, hA2⟩
            · trivial
            · exact ⟨hA1, by omega⟩
          · simp only [natOf_int]; omega
    · have hge2 : l.length ≤ bs := by simp at hge2; omega
      simp only [go_sem]
      rw [hH]
      have := sorted_is hs hpR (good_end hGR (by omega) hsh (by omega))
      unfold fs
      rw [this]
      exact hK _
theorem sortStable_c (hs : SWO lt) (hc : CmpOk gf lt ok) (l : List Broken) (j : Nat) (H0 : Heap) (K : AV → Heap → Prop) (hl : l.length ≤ 1048576) (hok : ∀ x ∈ l, ok x) (hj : H0 j = some (brRow l))
    (hK : ∀ r, K r (updH H0 j (some (brRow (ssort lt l))))) : FCalls Tryz.prog 71 [.os j, cmpV gf] H0 K := by
  refine FCalls.body (c := Tryz.f71.body.getD .skip) (fun _ => false) mixed Tryz.func71 rfl (by kernel_rfl) ?_
  unfold Tryz.f71
  simp only [Option.getD_some]
  simp only [go_sem]
  simp only [go_sem, hj, List.length_map]
  refine stable_c hs hc l j H0 _ hl hok hj fun r => ?_
  simp only [go_sem]
  exact hK _
end
end Go.Proofs.YtbcfajfngdmgnaaGreatDoor.Nu
end

section
set_option linter.unusedSimpArgs false
set_option linter.unusedVariables false
namespace Go.Proofs.YtbcfajfngdmgnaaGreatDoor.Nu
open Go.Aw Go.Aw.D Go.Proofs Ty Go.Nu Go.So Go.Sb
set_option maxRecDepth 100000
def threeC (s : Nat) : Cut := ⟨1, s, 1⟩
def coverC (x : Instance) (d : Nat) (s : Nat) : Option Cut := if tripsP x d s > 0 then some ⟨2, s, tripsP x d s⟩ else none
def possP (x : Instance) (d : Nat) : List Cut := (threeL (allO x)).map threeC ++ (subsL (mustO x)).filterMap (coverC x d)
abbrev cutRow (l : List Cut) : Row := ⟨23, 3, l.map encCut⟩
theorem pop_bound {s n : Nat} (hs : s < 2 ^ n) : ∀ w, pop w s ≤ n := by
  intro w
  rcases Nat.lt_or_ge w n with h | h
  · exact Nat.le_trans (pop_le w s) (by omega)
  · have : pop w s = pop n s := by
      induction w with
      | zero => have : n = 0 := by omega
                subst this; rfl
      | succ w ih =>
        rcases (by omega : n ≤ w ∨ n = w + 1) with h2 | h2
        · rw [pop_more (Nat.lt_of_lt_of_le hs (Nat.pow_le_pow_right (by decide) h2)), ih h2]
        · rw [h2]
    rw [this]; exact pop_le n s
theorem allO_lt (x : Instance) : allO x < 2 ^ x.orders.length := suchN_lt _ _
theorem mustO_lt (x : Instance) : mustO x < 2 ^ x.orders.length := suchN_lt _ _
theorem possible_c (x : Instance) (d : Nat) (h : LoadsOk x d) (ht : x.types ≠ []) (hx : x.orders.length ≤ 10) : PC Tryz.prog 70 [.agg (encInstance x)] (.sl ((possP x d).map encCut)) := by
  have hpow : 2 ^ x.orders.length ≤ 2 ^ 10 := Nat.pow_le_pow_right (by decide) hx
  have ha := allO_lt x
  have hm := mustO_lt x
  have hpm : 2 ^ pop 64 (mustO x) ≤ 2 ^ 10 := Nat.pow_le_pow_right (by decide) (Nat.le_trans (pop_bound hm 64) hx)
  have hTl : (threeL (allO x)).length ≤ 1024 := by
    unfold threeL
    rw [List.length_map]
    refine Nat.le_trans (List.length_filter_le _ _) ?_
    rw [List.length_range]
    exact Nat.pow_le_pow_right (by decide) (Nat.le_trans (pop_bound ha 64) hx)
  have hSl : (subsL (mustO x)).length ≤ 1024 := by unfold subsL; rw [List.length_map, List.length_range]; exact hpm
  unfold possP
  refine PC.body (c := Tryz.f70.body.getD .skip) (fun t => t == 3) mixed Tryz.func70 rfl (by kernel_rfl) ?_
  unfold Tryz.f70
  simp only [Option.getD_some]
  simp only [go_sem]
  refine anew_i fun j hj => ?_
  simp only [go_sem]
  refine PC.use (all_c x (by omega)) ?_
  simp only [go_sem]
  refine PC.use (sized_c (allO x) (by omega)) ?_
  simp only [go_sem]
  generalize threeL (allO x) = T at *
  refine ⟨fun ρ H => ∃ (k : Nat) (j : Nat), k ≤ T.length ∧ ρ 1 = .rp (encInstance x) 0 ∧ ρ 19 = .sl (T.map fun x : Nat => encInt (x : Int)) ∧ ρ 20 = int (T.length : Nat) ∧ ρ 21 = int k ∧ ρ 3 = .os j ∧ H j = some (cutRow ((T.take k).map threeC)), fun ρ _ => T.length - natOf (ρ 21), ⟨0, j, Nat.zero_le _, by simp only [go_sem], by simp only [go_sem], by simp only [go_sem, List.length_map], (by simp only [go_sem]; rfl), by simp only [go_sem], updH_same _ _ _⟩, ?_⟩
  rintro ρ H ⟨k, j, hk, e1, e19, e20, e21, e3, R⟩
  simp only [go_sem, e1, e19, e20, e21, e3]
  refine acond_i (fun hlt => ?_) (fun hge => ?_)
  · have hlt := ltB hlt
    obtain ⟨s, hs⟩ := getIn hlt
    have b1 := inB hlt
    simp only [go_sem, e1, e19, e20, e21, e3, getD_map (f := fun x : Nat => encInt (x : Int)) hs, b1]
    refine wappE_i R ⟨rfl, rfl⟩ ⟨rfl, trivial⟩ (by simp; omega) (fun j' hj' => ?_)
    simp only [go_sem, e1, e19, e20, e21, e3, wrapS (show k ≤ 4611686018427387904 by omega)]
    refine ⟨⟨k + 1, j', hlt, rfl, rfl, ?_⟩, by simp only [natOf_int]; omega⟩
    rw [take_succ hs, List.map_append]
    exact row_appG rfl
  have hge := geB hk hge
  subst hge
  rw [List.take_length] at R
  simp only [go_sem, e1, e19, e20, e21, e3]
  refine PC.use (must_c x (by omega)) ?_
  simp only [go_sem, e1, e19, e20, e21, e3]
  refine PC.use (subsets_c (mustO x) (by omega) (by omega)) ?_
  simp only [go_sem, e1, e19, e20, e21, e3]
  generalize subsL (mustO x) = U at *
  refine ⟨fun ρ H => ∃ (k : Nat) (j : Nat), k ≤ U.length ∧ ρ 1 = .rp (encInstance x) 0 ∧ ρ 37 = .sl (U.map fun x : Nat => encInt (x : Int)) ∧ ρ 38 = int (U.length : Nat) ∧ ρ 39 = int k ∧ ρ 3 = .os j ∧ H j = some (cutRow (T.map threeC ++ (U.take k).filterMap (coverC x d))), fun ρ _ => U.length - natOf (ρ 39), ⟨0, j, Nat.zero_le _, by simp only [go_sem, e1, e19, e20, e21, e3], by simp only [go_sem, e1, e19, e20, e21, e3], by simp only [go_sem, List.length_map, e1, e19, e20, e21, e3], (by simp only [go_sem, e1, e19, e20, e21, e3]; rfl), by simp only [go_sem, e3], by simpa using R⟩, ?_⟩
  rintro ρ H ⟨k, j, hk, e1, e37, e38, e39, e3, R⟩
  simp only [go_sem, e1, e37, e38, e39, e3]
  refine acond_i (fun hlt => ?_) (fun hge => ?_)
  · have hlt := ltB hlt
    obtain ⟨s, hs⟩ := getIn hlt
    have b1 := inB hlt
    have hfl : ((U.take k).filterMap (coverC x d)).length ≤ k := Nat.le_trans (List.length_filterMap_le _ _) (by rw [List.length_take]; omega)
    simp only [go_sem, e1, e37, e38, e39, e3, getD_map (f := fun x : Nat => encInt (x : Int)) hs, b1]
    refine PC.use (tripsA_c x d s h ht) ?_
    simp only [go_sem, e1, e37, e38, e39, e3]
    refine acond_i (fun hb => ?_) (fun hb => ?_)
    · have hc : coverC x d s = some ⟨2, s, tripsP x d s⟩ := if_pos (by simpa using hb)
      simp only [go_sem, e1, e37, e38, e39, e3]
      refine wappE_i R ⟨rfl, rfl⟩ ⟨rfl, trivial⟩ (by simp only [List.length_map, List.length_append, List.length_cons, List.length_nil]; omega) (fun j' hj' => ?_)
      simp only [go_sem, e1, e37, e38, e39, e3, wrapS (show k ≤ 4611686018427387904 by omega)]
      refine ⟨⟨k + 1, j', hlt, rfl, rfl, ?_⟩, by simp only [natOf_int]; omega⟩
      have e : (U.take (k + 1)).filterMap (coverC x d) = (U.take k).filterMap (coverC x d) ++ [⟨2, s, tripsP x d s⟩] := by
        rw [take_succ hs, List.filterMap_append]
        simp only [List.filterMap_cons, hc, List.filterMap_nil]
      rw [e, ← List.append_assoc]
      exact row_appG rfl
    · have hc : coverC x d s = none := if_neg (by simpa using hb)
      simp only [go_sem, e1, e37, e38, e39, e3, wrapS (show k ≤ 4611686018427387904 by omega)]
      refine ⟨⟨k + 1, j, hlt, rfl, rfl, ?_⟩, by simp only [natOf_int]; omega⟩
      rw [R, take_succ hs, List.filterMap_append]
      simp only [List.filterMap_cons, hc, List.filterMap_nil, List.append_nil]
  · have hge := geB hk hge
    subst hge
    rw [List.take_length] at R
    simp only [go_sem, e1, e37, e38, e39, e3]
    exact .row _ _ _ R (ConvE.refl _)
def ltBr (a b : Broken) : Bool :=
  if valR b.by_ < valR a.by_ then true else if valR a.by_ < valR b.by_ then false else
  if a.cut.kind < b.cut.kind then true else if b.cut.kind < a.cut.kind then false else decide (a.cut.set < b.cut.set)
theorem rat_tri (x y : Rat) : x < y ∨ x = y ∨ y < x := by
  rcases (Rat.le_total : x ≤ y ∨ y ≤ x) with h | h
  · by_cases e : x = y
    · exact .inr (.inl e)
    · exact .inl (Rat.lt_of_le_of_ne h e)
  · by_cases e : x = y
    · exact .inr (.inl e)
    · exact .inr (.inr (Rat.lt_of_le_of_ne h fun h2 => e h2.symm))
theorem ltBr_iff {a b : Broken} : ltBr a b = true ↔ valR b.by_ < valR a.by_ ∨ (valR a.by_ = valR b.by_ ∧ (a.cut.kind < b.cut.kind ∨ (a.cut.kind = b.cut.kind ∧ a.cut.set < b.cut.set))) := by
  unfold ltBr
  rcases rat_tri (valR a.by_) (valR b.by_) with h | h | h
  · rw [if_neg (fun h2 => absurd (Std.lt_trans h h2) (Rat.lt_irrefl)), if_pos h]
    constructor
    · intro h2; cases h2
    · rintro (h2 | ⟨h2, _⟩)
      · exact absurd (Std.lt_trans h h2) Rat.lt_irrefl
      · rw [h2] at h; exact absurd h Rat.lt_irrefl
  · rw [if_neg (by rw [h]; exact Rat.lt_irrefl), if_neg (by rw [h]; exact Rat.lt_irrefl)]
    constructor
    · intro h2
      refine .inr ⟨h, ?_⟩
      split at h2
      · next h3 => exact .inl h3
      · next h3 =>
        split at h2
        · cases h2
        · next h4 => exact .inr ⟨by omega, of_decide_eq_true h2⟩
    · rintro (h2 | ⟨_, h2⟩)
      · rw [h] at h2; exact absurd h2 Rat.lt_irrefl
      · rcases h2 with h2 | ⟨h2, h3⟩
        · rw [if_pos h2]
        · rw [if_neg (by omega), if_neg (by omega)]; simpa using h3
  · rw [if_pos h]
    exact ⟨fun _ => .inl h, fun _ => rfl⟩
theorem ltBr_swo : SWO ltBr where
  asym a b h := by
    cases hb : ltBr b a with
    | false => rfl
    | true =>
      exfalso
      rw [ltBr_iff] at h hb
      rcases h with h | ⟨e, h⟩ <;> rcases hb with hb | ⟨e', hb⟩
      · exact absurd (Std.lt_trans h hb) Rat.lt_irrefl
      · rw [e'] at h; exact absurd h Rat.lt_irrefl
      · rw [e] at hb; exact absurd hb Rat.lt_irrefl
      · omega
  neg a b c h1 h2 := by
    cases h3 : ltBr a c with
    | false => rfl
    | true =>
      exfalso
      have h1' : ¬ ltBr a b = true := by rw [h1]; simp
      have h2' : ¬ ltBr b c = true := by rw [h2]; simp
      rw [ltBr_iff] at h3 h1' h2'
      have n1 : ¬ valR b.by_ < valR a.by_ := fun h => h1' (.inl h)
      have n2 : ¬ valR c.by_ < valR b.by_ := fun h => h2' (.inl h)
      have l1 : valR a.by_ ≤ valR b.by_ := Rat.not_lt.1 n1
      have l2 : valR b.by_ ≤ valR c.by_ := Rat.not_lt.1 n2
      rcases h3 with h3 | ⟨e, h3⟩
      · exact absurd h3 (Rat.not_lt.2 (Rat.le_trans l1 l2))
      · have e1 : valR a.by_ = valR b.by_ := Rat.le_antisymm l1 (e ▸ l2)
        have e2 : valR b.by_ = valR c.by_ := e1.symm.trans e
        have m1 : ¬ (a.cut.kind < b.cut.kind ∨ (a.cut.kind = b.cut.kind ∧ a.cut.set < b.cut.set)) := fun h => h1' (.inr ⟨e1, h⟩)
        have m2 : ¬ (b.cut.kind < c.cut.kind ∨ (b.cut.kind = c.cut.kind ∧ b.cut.set < c.cut.set)) := fun h => h2' (.inr ⟨e2, h⟩)
        omega
end Go.Proofs.YtbcfajfngdmgnaaGreatDoor.Nu
end

section
set_option linter.unusedSimpArgs false
set_option linter.unusedVariables false
namespace Go.Proofs.YtbcfajfngdmgnaaGreatDoor.Nu
open Go.Aw Go.Aw.D Go.Proofs Ty Go.Nu Go.So Go.Sb
set_option maxRecDepth 100000
def orI : List Int → Int
  | [] => 0
  | a :: l => if a = 0 then orI l else a
theorem or_c (l : List Int) (hl : l.length ≤ 1048576) : PC Tryz.prog 73 [.sl (l.map encInt)] (int (orI l)) := by
  refine PC.body (c := Tryz.f73.body.getD .skip) (fun _ => false) mixed Tryz.func73 rfl (by kernel_rfl) ?_
  unfold Tryz.f73
  simp only [Option.getD_some]
  simp only [go_sem]
  refine ⟨fun ρ H => ∃ (k : Nat), k ≤ l.length ∧ ρ 3 = int 0 ∧ ρ 6 = .sl (l.map encInt) ∧ ρ 7 = int (l.length : Nat) ∧ ρ 8 = int k ∧ orI l = orI (l.drop k), fun ρ _ => l.length - natOf (ρ 8), ⟨0, Nat.zero_le _, by simp only [go_sem], by simp only [go_sem], by simp only [go_sem, List.length_map], (by simp only [go_sem]; rfl), rfl⟩, ?_⟩
  rintro ρ H ⟨k, hk, e3, e6, e7, e8, hz⟩
  simp only [go_sem, e3, e6, e7, e8]
  refine acond_i (fun hlt => ?_) (fun hge => ?_)
  · have hlt := ltB hlt
    obtain ⟨u, hu⟩ := getIn hlt
    have b1 := inB hlt
    rw [drop_at hu, orI] at hz
    simp only [go_sem, e3, e6, e7, e8, getD_map hu, b1]
    refine acond_i (fun hb => ?_) (fun hb => ?_)
    · simp only [go_sem, e3, e6, e7, e8]
      exact cI (by rw [hz, if_neg (by simpa using hb)])
    · rw [if_pos (by simpa using hb)] at hz
      simp only [go_sem, e3, e6, e7, e8, wrapS (show k ≤ 4611686018427387904 by omega)]
      exact ⟨⟨k + 1, hlt, rfl, hz⟩, by simp only [natOf_int]; omega⟩
  · have hge := geB hk hge
    subst hge
    simp only [go_sem, e3, e6, e7, e8]
    exact cI (by rw [hz, List.drop_length]; rfl)
def okBr (b : Broken) : Prop := rightR b.by_ = true
theorem find1_c (a b : Broken) (ha : okBr a) (hb : okBr b) : ∃ n : Int, decide (n < 0) = ltBr a b ∧ PC Tryz.prog 72 [.agg (encBroken a), .agg (encBroken b)] (int n) := by
  have sa := right_size' ha
  have sb := right_size' hb
  refine ⟨orI [cmpR b.by_ a.by_, cmpI a.cut.kind b.cut.kind, cmpI a.cut.set b.cut.set], ?_, ?_⟩
  · unfold okBr at ha hb
    have e : cmpR b.by_ a.by_ = cmpQ (valR b.by_) (valR a.by_) := by unfold cmpR; rw [ha, hb]; rfl
    rw [e]
    unfold ltBr cmpQ cmpI
    simp only [orI]
    by_cases h1 : valR b.by_ < valR a.by_
    · simp [h1]
    · by_cases h2 : valR a.by_ < valR b.by_
      · simp [h1, h2]
      · simp only [h1, h2, if_false]
        by_cases h3 : a.cut.kind < b.cut.kind
        · simp [h3]
        · by_cases h4 : b.cut.kind < a.cut.kind
          · simp [h3, h4]
          · simp only [h3, h4, if_false]
            by_cases h5 : a.cut.set < b.cut.set
            · simp [h5]
            · by_cases h6 : b.cut.set < a.cut.set
              · simp [h5, h6]
              · simp [h5, h6]
  ·
    refine PC.body (c := Tryz.f72.body.getD .skip) (fun _ => false) mixed Tryz.func72 rfl (by kernel_rfl) ?_
    unfold Tryz.f72
    simp only [Option.getD_some]
    simp only [go_sem]
    refine adraw_h (by kernel_rfl) ?_
    simp only [go_sem]
    refine ⟨_, (rCompare_c b.by_ a.by_ (by omega) (by omega)).q rfl, ?_⟩
    simp only [go_sem]
    refine ⟨_, (cmpI_c a.cut.kind b.cut.kind).q rfl, ?_⟩
    simp only [go_sem]
    refine ⟨_, (cmpI_c a.cut.set b.cut.set).q rfl, ?_⟩
    simp only [go_sem]
    refine PC.use (or_c [cmpR b.by_ a.by_, cmpI a.cut.kind b.cut.kind, cmpI a.cut.set b.cut.set] (by simp)) ?_
    simp only [go_sem]
    exact .refl _
theorem cmpBr : CmpOk 72 ltBr okBr := ⟨by kernel_rfl, find1_c⟩
def foundL (cols : List Column) (rates : List ByteArray) (l : List Cut) : List Broken := (l.filter fun c => decide (signR (brokenP c cols rates).1 > 0)).map fun c => ⟨c, (brokenP c cols rates).1⟩
def errC (cols : List Column) (rates : List ByteArray) (l : List Cut) : Option Int := (l.map fun c => (brokenP c cols rates).2).find? fun e => e != 0
def findP (x : Instance) (d : Nat) (cols : List Column) (rates : List ByteArray) : List Cut × Int :=
  if ((brokenP ⟨1, 0, 0⟩ cols rates).2 == 2 || (brokenP ⟨1, 0, 0⟩ cols rates).2 == 3) = true then ([], (brokenP ⟨1, 0, 0⟩ cols rates).2) else
  match errC cols rates (possP x d) with
  | some e => ([], e)
  | none => (((ssort ltBr (foundL cols rates (possP x d))).take 24).map Broken.cut, 0)
theorem poss_ok (x : Instance) (d : Nat) (h : LoadsOk x d) (hx : x.orders.length ≤ 10) : ∀ c ∈ possP x d, okCut c ∧ c.set < 1024 := by
  intro c hc
  have hpow : 2 ^ x.orders.length ≤ 2 ^ 10 := Nat.pow_le_pow_right (by decide) hx
  have ha := allO_lt x
  have hm := mustO_lt x
  unfold possP at hc
  rcases List.mem_append.1 hc with hc | hc
  · obtain ⟨s, hs, rfl⟩ := List.mem_map.1 hc
    unfold threeL at hs
    obtain ⟨p, _, rfl⟩ := List.mem_map.1 hs
    have := dep_le 64 (allO x) p
    unfold threeC okCut
    simp only
    omega
  · obtain ⟨s, hs, he⟩ := List.mem_filterMap.1 hc
    unfold subsL at hs
    obtain ⟨p, _, rfl⟩ := List.mem_map.1 hs
    have := dep_le 64 (mustO x) p
    unfold coverC at he
    split at he
    · next hp =>
      cases he
      have htr : tripsP x d (dep 64 (mustO x) p : Nat) ≤ 63001 := by
        unfold tripsP
        split
        · omega
        · next hst =>
          split
          · omega
          · have hex : (dep 64 (mustO x) p) < 2 ^ x.orders.length := by omega
            exact (dimF_in h (memS_in hex (by omega)) (memU_len _ _) d (Nat.le_refl _)).2
      unfold okCut
      simp only
      omega
    · cases he
theorem foundL_snoc (cols : List Column) (rates : List ByteArray) (l : List Cut) (c : Cut) : foundL cols rates (l ++ [c]) = foundL cols rates l ++ if signR (brokenP c cols rates).1 > 0 then [⟨c, (brokenP c cols rates).1⟩] else [] := by
  unfold foundL
  rw [List.filter_append, List.map_append]
  congr 1
  by_cases h : signR (brokenP c cols rates).1 > 0
  · simp [h]
  · simp [h]
theorem broken_right {c : Cut} {cols : List Column} {rates : List ByteArray} (h : (brokenP c cols rates).2 = 0) : rightR (brokenP c cols rates).1 = true := by
  unfold brokenP at h ⊢
  split at h
  · cases h
  · next h1 =>
    rw [if_neg h1]
    split at h
    · next h2 => exact absurd h h2
    · next h2 =>
      rw [if_neg h2]
      split at h
      · next h3 => exact absurd h h3
      · next h3 =>
        rw [if_neg h3]
        split
        · exact zero_right
        · exact over_right (times_right (by simpa using h2)) (by simpa using h3)
structure ColsOk (cols : List Column) (rates : List ByteArray) : Prop where
  set : ∀ c ∈ cols, 0 ≤ c.set ∧ c.set ≤ 9223372036854775807
  cl : cols.length ≤ 1048576
  rl : rates.length ≤ 1048576
  rs : ∀ s ∈ rates, s.size ≤ 1048576
theorem broken_a {c : Cut} {cols : List Column} {rates : List ByteArray} (h : ColsOk cols rates) (hc : okCut c) : PC Tryz.prog 15 [.agg (encCut c), .sl (cols.map encColumn), .sl (rates.map Go.Aw.D.encStr)] (.tup [str (brokenP c cols rates).1, int (brokenP c cols rates).2]) :=
  broken_c c cols rates hc h.set h.cl h.rl h.rs
theorem poss_len (x : Instance) (d : Nat) (hx : x.orders.length ≤ 10) : (possP x d).length ≤ 2048 := by
  have hpow : 2 ^ x.orders.length ≤ 2 ^ 10 := Nat.pow_le_pow_right (by decide) hx
  have hTl : (threeL (allO x)).length ≤ 1024 := by
    unfold threeL
    rw [List.length_map]
    refine Nat.le_trans (List.length_filter_le _ _) ?_
    rw [List.length_range]
    exact Nat.pow_le_pow_right (by decide) (Nat.le_trans (pop_bound (allO_lt x) 64) hx)
  have hSl : (subsL (mustO x)).length ≤ 1024 := by
    unfold subsL
    rw [List.length_map, List.length_range]
    exact Nat.pow_le_pow_right (by decide) (Nat.le_trans (pop_bound (mustO_lt x) 64) hx)
  have := List.length_filterMap_le (coverC x d) (subsL (mustO x))
  unfold possP
  rw [List.length_append, List.length_map]
  omega
theorem ssort_len {α : Type} (lt : α → α → Bool) (l : List α) : (ssort lt l).length = l.length := by
  have : ∀ (l acc : List α), (l.foldl (fun a x => ins lt x a) acc).length = acc.length + l.length := by
    intro l
    induction l with
    | nil => intro acc; simp
    | cons x l ih => intro acc; rw [List.foldl_cons, ih, (ins_perm lt x acc).length_eq, List.length_cons, List.length_cons]; omega
  unfold ssort
  rw [this l []]; simp
set_option maxHeartbeats 2000000 in
theorem find_c (x : Instance) (d : Nat) (cols : List Column) (rates : List ByteArray) (h : LoadsOk x d) (ht : x.types ≠ []) (hx : x.orders.length ≤ 10) (hc : ColsOk cols rates) :
    PC Tryz.prog 19 [.agg (encInstance x), .sl (cols.map encColumn), .sl (rates.map Go.Aw.D.encStr)] (.tup [.sl ((findP x d cols rates).1.map encCut), int (findP x d cols rates).2]) := by
  have hpl := poss_len x d hx
  have hpo := poss_ok x d h hx
  refine PC.body (c := Tryz.f19.body.getD .skip) (fun t => t == 10 || t == 15 || t == 61) mixed Tryz.func19 rfl (by kernel_rfl) ?_
  unfold Tryz.f19
  simp only [Option.getD_some]
  simp only [go_sem]
  refine PC.use (broken_a hc (c := ⟨1, 0, 0⟩) (by unfold okCut; simp)) ?_
  unfold findP
  generalize brokenP ⟨1, 0, 0⟩ cols rates = B0
  simp only [go_sem]
  refine acond_i (fun hb => ?_) (fun hb => ?_)
  · rw [if_pos hb]
    simp only [go_sem]
    exact .refl _
  rw [if_neg (by rw [hb]; simp)]
  simp only [go_sem]
  refine anew_i fun j hj => ?_
  simp only [go_sem]
  refine PC.use (possible_c x d h ht hx) ?_
  simp only [go_sem]
  generalize possP x d = l at *
  refine ⟨fun ρ H => ∃ (k : Nat) (j : Nat), k ≤ l.length ∧ ρ 1 = .sl (cols.map encColumn) ∧ ρ 2 = .sl (rates.map Go.Aw.D.encStr) ∧ ρ 33 = .sl (l.map encCut) ∧ ρ 34 = int (l.length : Nat) ∧ ρ 35 = int k ∧ ρ 10 = .os j ∧ H j = some (brRow (foundL cols rates (l.take k))) ∧ ∀ c ∈ l.take k, (brokenP c cols rates).2 = 0, fun ρ _ => l.length - natOf (ρ 35), ⟨0, j, Nat.zero_le _, by simp only [go_sem], by simp only [go_sem], by simp only [go_sem], by simp only [go_sem, List.length_map], (by simp only [go_sem]; rfl), by simp only [go_sem], updH_same _ _ _, by simp⟩, ?_⟩
  rintro ρ H ⟨k, j, hk, e1, e2, e33, e34, e35, e10, R, hz⟩
  simp only [go_sem, e1, e2, e33, e34, e35, e10]
  refine acond_i (fun hlt => ?_) (fun hge => ?_)
  · have hlt := ltB hlt
    obtain ⟨c, hcl⟩ := getIn hlt
    have b1 := inB hlt
    have hco := hpo c (List.mem_of_getElem? hcl)
    have hfl : (foundL cols rates (l.take k)).length ≤ k := by
      unfold foundL
      rw [List.length_map]
      refine Nat.le_trans (List.length_filter_le _ _) ?_
      rw [List.length_take]; omega
    simp only [go_sem, e1, e2, e33, e34, e35, e10, getD_map hcl, b1]
    refine anew_i fun i hi0 => ?_
    have ne_j_i : j ≠ i := ne_new R hi0
    simp only [go_sem, e1, e2, e33, e34, e35, e10, R]
    refine wputE_n (updH_same _ _ _) (by simp [encCut_len]) ?_
    generalize hGi : updH (updH _ i _) i _ = HGi
    replace R := (congrFun hGi.symm j).trans ((updH_ne _ _ _ _ ne_j_i).trans ((updH_ne _ _ _ _ ne_j_i).trans R))
    have Ri : HGi i = some (⟨23, 3, [encCut c]⟩) := by rw [← hGi, updH_same]; rfl
    clear hGi hi0
    simp only [go_sem, e1, e2, e33, e34, e35, e10, Ri, R]
    refine PC.use (broken_a hc hco.1) ?_
    simp only [go_sem, e1, e2, e33, e34, e35, e10]
    refine acond_i (fun hb => ?_) (fun hb => ?_)
    · have he : errC cols rates l = some (brokenP c cols rates).2 := by
        unfold errC
        have hb : (brokenP c cols rates).2 ≠ 0 := by simpa using hb
        have hsp : l = l.take k ++ c :: l.drop (k + 1) := by rw [← drop_at hcl, List.take_append_drop]
        rw [hsp, List.map_append, List.find?_append, List.map_cons, List.find?_cons]
        have h0 : ((l.take k).map fun c => (brokenP c cols rates).2).find? (fun e => e != 0) = none := by
          rw [List.find?_eq_none]
          intro e hm
          obtain ⟨c', hc', rfl⟩ := List.mem_map.1 hm
          rw [hz c' hc']; simp
        rw [h0, bne_iff_ne.2 hb]
        rfl
      simp only [go_sem, e1, e2, e33, e34, e35, e10]
      rw [he]
      exact .refl _
    have hb0 : (brokenP c cols rates).2 = 0 := by simpa using hb
    have hr := broken_right hb0
    have hrs := right_size' hr
    have hsn := foundL_snoc cols rates (l.take k) c
    rw [← take_succ hcl] at hsn
    simp only [go_sem, e1, e2, e33, e34, e35, e10]
    refine PC.use (rsign_c _ (by omega)) ?_
    simp only [go_sem, e1, e2, e33, e34, e35, e10]
    refine acond_i (fun hp => ?_) (fun hp => ?_)
    · rw [if_pos (by simpa using hp)] at hsn
      simp only [go_sem, e1, e2, e33, e34, e35, e10, Ri]
      change withO (some (encBroken ⟨c, (brokenP c cols rates).1⟩)) _
      simp only [go_sem, e1, e2, e33, e34, e35, e10]
      refine wappE_i R ⟨rfl, rfl⟩ ⟨rfl, trivial⟩ (by simp only [List.length_map, List.length_cons, List.length_nil]; omega) (fun j' hj' => ?_)
      simp only [go_sem, e1, e2, e33, e34, e35, e10, wrapS (show k ≤ 4611686018427387904 by omega)]
      refine ⟨⟨k + 1, j', hlt, rfl, rfl, ?_, take_all' hcl hb0 hz⟩, by simp only [natOf_int]; omega⟩
      rw [hsn]
      exact row_appG rfl
    · rw [if_neg (by simpa using hp), List.append_nil] at hsn
      simp only [go_sem, e1, e2, e33, e34, e35, e10, wrapS (show k ≤ 4611686018427387904 by omega)]
      refine ⟨⟨k + 1, j, hlt, rfl, rfl, ?_, take_all' hcl hb0 hz⟩, by simp only [natOf_int]; omega⟩
      rw [hsn]; exact R
  have hge := geB hk hge
  subst hge
  rw [List.take_length] at R hz
  have he : errC cols rates l = none := by
    unfold errC
    rw [List.find?_eq_none]
    intro e hm
    obtain ⟨c, hc, rfl⟩ := List.mem_map.1 hm
    rw [hz c hc]; simp
  rw [he]
  have hfl : (foundL cols rates l).length ≤ l.length := by
    unfold foundL
    rw [List.length_map]
    exact List.length_filter_le _ _
  have hfo : ∀ b ∈ foundL cols rates l, okBr b := by
    intro b hb
    unfold foundL at hb
    obtain ⟨c, hc, rfl⟩ := List.mem_map.1 hb
    exact broken_right (hz c (List.mem_filter.1 hc).1)
  have hsl : (ssort ltBr (foundL cols rates l)).length = (foundL cols rates l).length := ssort_len _ _
  simp only [go_sem, e1, e2, e33, e34, e35, e10]
  refine sortStable_c ltBr_swo cmpBr (foundL cols rates l) j H _ (by omega) hfo R fun r => ?_
  generalize ssort ltBr (foundL cols rates l) = S at *
  simp only [go_sem, e1, e2, e33, e34, e35, e10]
  refine anew_i fun i hi => ?_
  have nji : j ≠ i := fun e => by rw [← e, updH_same] at hi; cases hi
  simp only [go_sem, e1, e2, e33, e34, e35, e10]
  refine afreeze_i (j := j) (r := brRow S) (by simp only [go_sem, e1, e2, e33, e34, e35, e10]) (by rw [updH_ne _ _ _ _ nji]; exact updH_same _ _ _) fun Hr hr0 hr1 => ?_
  have Ri : Hr i = some (cutRow []) := by rw [hr1 i nji.symm, updH_same]; rfl
  have hmin : imin ((S.length : Nat) : Int) 24 = ((min S.length 24 : Nat) : Int) := by unfold imin; split <;> omega
  have htk : (S.map encBroken).take (min S.length 24) = (S.take 24).map encBroken := by
    rw [← List.map_take]
    congr 1
    rcases Nat.le_total S.length 24 with h | h
    · rw [Nat.min_eq_left h, List.take_of_length_le (Nat.le_refl _), List.take_of_length_le h]
    · rw [Nat.min_eq_right h]
  have hX24 : (S.take 24).length ≤ 24 := by rw [List.length_take]; omega
  simp only [go_sem, e1, e2, e33, e34, e35, e10, List.length_map, hmin, htk]
  generalize S.take 24 = X at *
  refine ⟨by omega, ?_⟩
  refine ⟨fun ρ H => ∃ (k : Nat) (i : Nat), k ≤ X.length ∧ ρ 65 = .sl (X.map encBroken) ∧ ρ 66 = int (X.length : Nat) ∧ ρ 67 = int k ∧ ρ 15 = .os i ∧ H i = some (cutRow ((X.take k).map Broken.cut)), fun ρ _ => X.length - natOf (ρ 67), ⟨0, i, Nat.zero_le _, by simp only [go_sem], by simp only [go_sem, List.length_map], (by simp only [go_sem]; rfl), by simp only [go_sem], Ri⟩, ?_⟩
  rintro ρ H ⟨k, i, hk, e65, e66, e67, e15, Rs⟩
  simp only [go_sem, e65, e66, e67, e15]
  refine acond_i (fun hlt => ?_) (fun hge => ?_)
  · have hlt := ltB hlt
    obtain ⟨b, hb⟩ := getIn hlt
    have b1 := inB hlt
    simp only [go_sem, e65, e66, e67, e15, getD_map hb, b1]
    refine anew_i fun m hm0 => ?_
    have ne_i_m : i ≠ m := ne_new Rs hm0
    simp only [go_sem, e65, e66, e67, e15, Rs]
    refine wputE_n (updH_same _ _ _) (by simp [encBroken_len]) ?_
    generalize hGm : updH (updH _ m _) m _ = HGm
    replace Rs := (congrFun hGm.symm i).trans ((updH_ne _ _ _ _ ne_i_m).trans ((updH_ne _ _ _ _ ne_i_m).trans Rs))
    have Rm : HGm m = some (brRow [b]) := by rw [← hGm, updH_same]; rfl
    clear hGm hm0
    simp only [go_sem, e65, e66, e67, e15, Rm, Rs]
    refine wappE_i Rs ⟨rfl, rfl⟩ ⟨rfl, trivial⟩ (by simp only [List.length_map, List.length_take, List.length_cons, List.length_nil]; omega) (fun j' hj' => ?_)
    simp only [go_sem, e65, e66, e67, e15, wrapS (show k ≤ 4611686018427387904 by omega)]
    refine ⟨⟨k + 1, j', hlt, rfl, rfl, ?_⟩, by simp only [natOf_int]; omega⟩
    rw [take_succ hb, List.map_append]
    exact row_appG rfl
  · have hge := geB hk hge
    subst hge
    rw [List.take_length] at Rs
    simp only [go_sem, e65, e66, e67, e15]
    exact .tup _ _ (.cons _ _ _ _ (.row _ _ _ Rs (ConvE.refl _)) (.cons _ _ _ _ (.refl _) .nil))
end Go.Proofs.YtbcfajfngdmgnaaGreatDoor.Nu
end
