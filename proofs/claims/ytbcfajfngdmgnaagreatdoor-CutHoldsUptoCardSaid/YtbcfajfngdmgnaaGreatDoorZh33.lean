/- Texts joined by a program: SoB, SoC. -/
import Derived.Test.YtbcfajfngdmgnaaGreatDoorZh32

section
set_option linter.unusedSimpArgs false
set_option linter.unusedVariables false
namespace Go.Proofs.YtbcfajfngdmgnaaGreatDoor.Nu
open Go.Aw Go.Aw.D Go.Proofs Ty Go.Nu Go.So
set_option maxRecDepth 100000
structure Broken where
  cut : Cut
  by_ : ByteArray
def encBroken (x : Broken) : List AV := [.v (.int .i64 x.cut.kind), .v (.int .i64 x.cut.set), .v (.int .i64 x.cut.n), .v (.string x.by_)]
theorem encBroken_len (x : Broken) : (encBroken x).length = 4 := (rfl)
theorem encBroken_0 (x : Broken) : (encBroken x).getD 0 .any = .v (.int .i64 x.cut.kind) := (rfl)
theorem encBroken_1 (x : Broken) : (encBroken x).getD 1 .any = .v (.int .i64 x.cut.set) := (rfl)
theorem encBroken_2 (x : Broken) : (encBroken x).getD 2 .any = .v (.int .i64 x.cut.n) := (rfl)
theorem encBroken_3 (x : Broken) : (encBroken x).getD 3 .any = .v (.string x.by_) := (rfl)
theorem encBroken_all (x : Broken) : (encBroken x).take 4 = encBroken x := (rfl)
theorem encBroken_drop (x : Broken) : (encBroken x).drop 4 = [] := (rfl)
theorem encBroken_cut (x : Broken) : (encBroken x).take 3 = encCut x.cut := (rfl)
attribute [go_sem] encBroken_len encBroken_0 encBroken_1 encBroken_2 encBroken_3 encBroken_all encBroken_cut
abbrev cmpV (gf : Nat) : AV := .v (.func (.func gf) #[] #[])
abbrev brRow (l : List Broken) : Row := ⟨123, 4, l.map encBroken⟩
theorem updH_twice (H : Heap) (j : Nat) (a b : Option Row) : updH (updH H j a) j b = updH H j b := by
  funext k
  unfold updH
  split <;> rfl
theorem updH_self {H : Heap} {j : Nat} {r : Row} (h : H j = some r) : updH H j (some r) = H := by
  funext k
  unfold updH
  split
  · next e => rw [e, h]
  · rfl
theorem swp_row {L : List Broken} {a b j : Nat} {x y : Broken} {H0 H : Heap} (hx : L[a]? = some x) (hy : L[b]? = some y) (hne : a ≠ b) (hH : H = updH H0 j (some (brRow L))) :
    updH (updH H j (some (⟨123, 4, (L.map encBroken).set a (encBroken y)⟩ : Row))) j (some (⟨123, 4, ((L.map encBroken).set a (encBroken y)).set b (encBroken x ++ List.drop 4 (((L.map encBroken).set a (encBroken y)).getD b []))⟩ : Row)) = updH H0 j (some (brRow (swp L a b))) := by
  have hg : ((L.map encBroken).set a (encBroken y)).getD b [] = encBroken y := by
    rw [List.getD, List.getElem?_set_ne hne, List.getElem?_map, hy]; rfl
  rw [hH, updH_twice, updH_twice, hg, encBroken_drop, List.append_nil]
  unfold swp brRow
  simp only [hx, hy, List.map_set]
theorem swapRange_c (L : List Broken) (a b n j : Nat) (gf : Nat) (H0 : Heap) (K : AV → Heap → Prop) (hab : a + n ≤ b) (hbn : b + n ≤ L.length) (hl : L.length ≤ 1048576) (hj : H0 j = some (brRow L))
    (hK : ∀ r, K r (updH H0 j (some (brRow (swpN L a b n))))) : FCalls Tryz.prog 290 [.os j, int a, int b, int n, cmpV gf] H0 K := by
  refine FCalls.body (c := Tryz.f290.body.getD .skip) (fun _ => false) mixed Tryz.func290 rfl (by kernel_rfl) ?_
  unfold Tryz.f290
  simp only [Option.getD_some]
  simp only [go_sem]
  refine ⟨fun ρ H => ∃ (k : Nat), k ≤ n ∧ ρ 0 = .os j ∧ ρ 1 = int a ∧ ρ 2 = int b ∧ ρ 3 = int n ∧ ρ 10 = int k ∧ H = updH H0 j (some (brRow (swpN L a b k))), fun ρ _ => n - natOf (ρ 10), ⟨0, Nat.zero_le _, by simp only [go_sem], by simp only [go_sem], by simp only [go_sem], by simp only [go_sem], (by simp only [go_sem]; rfl), (updH_self hj).symm⟩, ?_⟩
  rintro ρ H ⟨k, hk, e0, e1, e2, e3, e10, hH⟩
  simp only [go_sem, e0, e1, e2, e3, e10]
  refine acond_i (fun hlt => ?_) (fun hge => ?_)
  · have hlt := ltB hlt
    have hll := swpN_len L a b k
    obtain ⟨x, hx⟩ := getIn (l := swpN L a b k) (k := a + k) (by omega)
    obtain ⟨y, hy⟩ := getIn (l := swpN L a b k) (k := b + k) (by omega)
    have R : H j = some (brRow (swpN L a b k)) := by rw [hH]; exact updH_same _ _ _
    have w1 : IntKind.i64.wrap ((a : Int) + (k : Int)) = ((a + k : Nat) : Int) := by rw [wrap_in (by omega)]; omega
    have w2 : IntKind.i64.wrap ((b : Int) + (k : Int)) = ((b + k : Nat) : Int) := by rw [wrap_in (by omega)]; omega
    have b1 := inB (show a + k < (swpN L a b k).length by omega)
    have b2 := inB (show b + k < (swpN L a b k).length by omega)
    simp only [go_sem, e0, e1, e2, e3, e10]
    refine adraw_t [] (.q 0 (.q 1 (.q 2 (.q 3 (.q 4 (.q 5 (.q 6 (.q 7 (.q 8 (.q 9 (.q 10 (.q 11 (.q 14 (.q 15 (.q 16 (.q 17 (.a2 12 (.a2 13 (.a1 18 (.a1 19 (.a1 20 (.a1 21 (.a1 22 (.a1 23 (.nil))))))) 18 (.a2 13 (.a1 19 (.a1 20 (.a1 21 (.a1 22 (.a1 23 (.nil)))))) 19 (.a1 13 (.a1 20 (.a1 21 (.a1 22 (.a1 23 (.nil)))))))) 18 (.a2 12 (.a2 13 (.a1 19 (.a1 20 (.a1 21 (.a1 22 (.a1 23 (.nil)))))) 19 (.a1 13 (.a1 20 (.a1 21 (.a1 22 (.a1 23 (.nil))))))) 19 (.a1 12 (.a1 13 (.a1 20 (.a1 21 (.a1 22 (.a1 23 (.nil))))))))))))))))))))))))) (by simp) (by kernel_rfl) fun Hp Hr _ hr _ _ => ?_
    obtain rfl : Hr = H := funext fun i => hr i (by simp)
    simp only [go_sem, e0, e1, e2, e3, e10, w1, w2, R, b1, b2]
    repeat' (first | (refine amixt_2i ?_ ?_) | (refine ⟨by omega, ?_⟩) | (refine wputE_n R ⟨by rw [List.length_map]; omega, encBroken_len _, by rw [encBroken_len]; exact Nat.le_refl 4⟩ ?_) | (refine wputE_n (updH_same _ _ _) ⟨by rw [List.length_set, List.length_map]; omega, encBroken_len _, by rw [encBroken_len]; exact Nat.le_refl 4⟩ ?_) | (refine pinEnd_i fun _ Hm _ hm => ?_; obtain rfl : Hm = _ := funext fun i => hm i (by simp)) | (simp only [go_sem, e0, e1, e2, e3, e10, w1, w2, R, b1, b2, getD_map hy, getD_map hx, wrapS (show k ≤ 4611686018427387904 by omega), List.length_set, List.length_map, encBroken_drop, List.append_nil]))
    all_goals exact ⟨⟨k + 1, hlt, rfl, swp_row hx hy (by omega) hH⟩, by simp only [natOf_int]; omega⟩
  · have hge := geB hk hge
    subst hge
    simp only [go_sem]
    rw [hH]
    exact hK _
theorem wSub {a b : Nat} (h : b ≤ a) (ha : a ≤ 4611686018427387904) : IntKind.i64.wrap ((a : Int) - (b : Int)) = ((a - b : Nat) : Int) := by rw [wrap_in (by omega)]; omega
theorem wAdd {a b : Nat} (h : a + b ≤ 4611686018427387904) : IntKind.i64.wrap ((a : Int) + (b : Int)) = ((a + b : Nat) : Int) := by rw [wrap_in (by omega)]; omega
theorem split_at {α : Type} {l : List α} {n : Nat} (h : n ≤ l.length) : ∃ l1 l2, l = l1 ++ l2 ∧ l1.length = n ∧ l2.length = l.length - n := ⟨l.take n, l.drop n, (List.take_append_drop n l).symm, by rw [List.length_take]; omega, by rw [List.length_drop]⟩
theorem rotate_c (P U V S : List Broken) (a m b j : Nat) (gf : Nat) (H0 : Heap) (K : AV → Heap → Prop) (ha : a = P.length) (hm : m = a + U.length) (hb : b = m + V.length) (hU : U ≠ []) (hV : V ≠ []) (hl : (P ++ U ++ V ++ S).length ≤ 1048576) (hj : H0 j = some (brRow (P ++ U ++ V ++ S)))
    (hK : ∀ r, K r (updH H0 j (some (brRow (P ++ V ++ U ++ S))))) : FCalls Tryz.prog 259 [.os j, int a, int m, int b, cmpV gf] H0 K := by
  have hlen : P.length + U.length + V.length + S.length ≤ 1048576 := by simpa [Nat.add_assoc] using hl
  have hU1 := List.length_pos_iff.2 hU
  have hV1 := List.length_pos_iff.2 hV
  refine FCalls.body (c := Tryz.f259.body.getD .skip) (fun _ => false) mixed Tryz.func259 rfl (by kernel_rfl) ?_
  unfold Tryz.f259
  simp only [Option.getD_some]
  simp only [go_sem]
  simp only [go_sem, wSub (show a ≤ m by omega) (by omega), wSub (show m ≤ b by omega) (by omega)]
  refine ⟨fun ρ H => ∃ P' U' V' S' : List Broken, ρ 0 = .os j ∧ ρ 2 = int m ∧ ρ 4 = cmpV gf ∧ ρ 10 = int U'.length ∧ ρ 11 = int V'.length ∧ P'.length + U'.length = m ∧ 0 < U'.length ∧ 0 < V'.length ∧ (P'.length + U'.length + V'.length + S'.length ≤ 1048576) ∧ P' ++ V' ++ U' ++ S' = P ++ V ++ U ++ S ∧ H = updH H0 j (some (brRow (P' ++ U' ++ V' ++ S'))), fun ρ _ => natOf (ρ 10) + natOf (ρ 11),
    ⟨P, U, V, S, by simp only [go_sem], by simp only [go_sem], by simp only [go_sem], by simp only [go_sem]; rw [show m - a = U.length by omega], by simp only [go_sem]; rw [show b - m = V.length by omega], by omega, hU1, hV1, hlen, rfl, (updH_self hj).symm⟩, ?_⟩
  rintro ρ H ⟨P', U', V', S', e0, e2, e4, e10, e11, hm', hu, hv, hle, hpe, hH⟩
  have R : H j = some (brRow (P' ++ U' ++ V' ++ S')) := by rw [hH]; exact updH_same _ _ _
  simp only [go_sem, e0, e2, e4, e10, e11]
  refine acond_i (fun hne => ?_) (fun heq => ?_)
  · have hne : U'.length ≠ V'.length := neN hne
    simp only [go_sem, e0, e2, e4, e10, e11]
    refine acond_i (fun hgt => ?_) (fun hle2 => ?_)
    · have hgt : V'.length < U'.length := by simpa using hgt
      obtain ⟨U1, U2, hUe, h1, h2⟩ := split_at (Nat.le_of_lt hgt)
      have e := swpN_all (P := P') (X := U1) (V := U2) (Y := V') (S := S') (a := P'.length) (b := m) (n := V'.length) rfl (by omega) h1.symm rfl
      simp only [go_sem, e0, e2, e4, e10, e11, wSub (show U'.length ≤ m by omega) (by omega), show m - U'.length = P'.length by omega]
      refine swapRange_c (P' ++ U' ++ V' ++ S') P'.length m V'.length j gf _ _ (by omega) (by simp; omega) (by simp; omega) R fun r => ?_
      simp only [go_sem, e0, e2, e4, e10, e11, wSub (show V'.length ≤ U'.length by omega) (by omega)]
      refine ⟨⟨P' ++ V', U2, U1, S', ?_, ?_, by rw [List.length_append]; omega, by omega, by omega, by rw [List.length_append]; omega, ?_, ?_⟩, ?_⟩
      · rw [h2]
      · rw [h1]
      · rw [← hpe, hUe]; simp only [List.append_assoc]
      · rw [hH, updH_twice, hUe]
        congr 2
        have : P' ++ (U1 ++ U2) ++ V' ++ S' = P' ++ U1 ++ U2 ++ V' ++ S' := by simp only [List.append_assoc]
        rw [this, e]
      · simp only [natOf_int]; omega
    · have hle2 : ¬ V'.length < U'.length := by simpa using hle2
      obtain ⟨V1, V2, hVe, h1, h2⟩ := split_at (l := V') (n := V'.length - U'.length) (by omega)
      have h2 : V2.length = U'.length := by omega
      have e := swpN_all (P := P') (X := U') (V := V1) (Y := V2) (S := S') (a := P'.length) (b := m + V1.length) (n := U'.length) rfl (by omega) rfl h2
      simp only [go_sem, e0, e2, e4, e10, e11, wSub (show U'.length ≤ m by omega) (by omega), show m - U'.length = P'.length by omega, wAdd (show m + V'.length ≤ 4611686018427387904 by omega), wSub (show U'.length ≤ m + V'.length by omega) (by omega), show m + V'.length - U'.length = m + V1.length by omega]
      refine swapRange_c (P' ++ U' ++ V' ++ S') P'.length (m + V1.length) U'.length j gf _ _ (by omega) (by simp; omega) (by simp; omega) R fun r => ?_
      simp only [go_sem, e0, e2, e4, e10, e11, wSub (show U'.length ≤ V'.length by omega) (by omega)]
      refine ⟨⟨P', V2, V1, U' ++ S', ?_, ?_, by omega, by omega, by omega, by rw [List.length_append]; omega, ?_, ?_⟩, ?_⟩
      · rw [h2]
      · rw [h1]
      · rw [← hpe, hVe]; simp only [List.append_assoc]
      · rw [hH, updH_twice, hVe]
        congr 2
        have : P' ++ U' ++ (V1 ++ V2) ++ S' = P' ++ U' ++ V1 ++ V2 ++ S' := by simp only [List.append_assoc]
        rw [this, e]; simp only [List.append_assoc]
      · simp only [natOf_int]; omega
  · have heq : U'.length = V'.length := eqN heq
    have e := swpN_all (P := P') (X := U') (V := []) (Y := V') (S := S') (a := P'.length) (b := m) (n := U'.length) rfl (by simp; omega) rfl heq.symm
    simp only [List.append_nil] at e
    simp only [go_sem, e0, e2, e4, e10, e11, wSub (show U'.length ≤ m by omega) (by omega), show m - U'.length = P'.length by omega]
    refine swapRange_c (P' ++ U' ++ V' ++ S') P'.length m U'.length j gf _ _ (by omega) (by simp; omega) (by simp; omega) R fun r => ?_
    simp only [go_sem]
    rw [hH, updH_twice, e, hpe]
    exact hK _
end Go.Proofs.YtbcfajfngdmgnaaGreatDoor.Nu
end

section
set_option linter.unusedSimpArgs false
set_option linter.unusedVariables false
namespace Go.Proofs.YtbcfajfngdmgnaaGreatDoor.Nu
open Go.Aw Go.Aw.D Go.Proofs Ty Go.Nu Go.So
set_option maxRecDepth 100000
abbrev TB := Broken × Nat
def fs (L : List TB) : List Broken := L.map Prod.fst
theorem fs_len (a : List TB) : (fs a).length = a.length := List.length_map _
theorem fs_get {L : List TB} {k : Nat} {x : TB} (h : L[k]? = some x) : (fs L)[k]? = some x.1 := by unfold fs; rw [List.getElem?_map, h]; rfl
structure CmpOk (gf : Nat) (lt : Broken → Broken → Bool) (ok : Broken → Prop) : Prop where
  call : callOk Tryz.prog gf = true
  cmp : ∀ x y, ok x → ok y → ∃ n : Int, decide (n < 0) = lt x y ∧ PC Tryz.prog gf [.agg (encBroken x), .agg (encBroken y)] (int n)
theorem pin_back {l : List Nat} {H Hr Hm : Heap} (h1 : ∀ k, k ∈ l → Hm k = H k) (h2 : ∀ k, k ∉ l → Hm k = Hr k) (h3 : ∀ k, k ∉ l → Hr k = H k) : Hm = H := funext fun k => by
  by_cases h : k ∈ l
  · exact h1 k h
  · rw [h2 k h, h3 k h]
theorem insertion_c {gf : Nat} {lt : Broken → Broken → Bool} {ok : Broken → Prop} (hs : SWO lt) (hc : CmpOk gf lt ok) (P X S : List TB) (a b j : Nat) (H0 : Heap) (K : AV → Heap → Prop) (ha : a = P.length) (hb : b = a + X.length)
    (hrk : X.Pairwise fun p q => p.2 < q.2) (hok : ∀ x ∈ X, ok x.1) (hl : (P ++ X ++ S).length ≤ 1048576) (hj : H0 j = some (brRow (fs (P ++ X ++ S))))
    (hK : ∀ M : List TB, M.Perm X → M.Pairwise (tlt lt) → ∀ r, K r (updH H0 j (some (brRow (fs (P ++ M ++ S)))))) : FCalls Tryz.prog 213 [.os j, int a, int b, cmpV gf] H0 K := by
  have hlen : P.length + X.length + S.length ≤ 1048576 := by simpa [Nat.add_assoc] using hl
  have hcall := hc.call
  refine FCalls.body (c := Tryz.f213.body.getD .skip) (fun _ => false) mixed Tryz.func213 rfl (by kernel_rfl) ?_
  unfold Tryz.f213
  simp only [Option.getD_some]
  simp only [go_sem]
  simp only [go_sem, wrapS (show a ≤ 4611686018427387904 by omega)]
  refine ⟨fun ρ H => ∃ (k : Nat) (M : List TB), 1 ≤ k ∧ k ≤ max 1 X.length ∧ ρ 0 = .os j ∧ ρ 1 = int a ∧ ρ 2 = int b ∧ ρ 3 = cmpV gf ∧ ρ 8 = int (a + k : Nat) ∧ M.Perm (X.take k) ∧ M.Pairwise (tlt lt) ∧ H = updH H0 j (some (brRow (fs (P ++ M ++ X.drop k ++ S)))), fun ρ _ => b + 1 - natOf (ρ 8),
    ⟨1, X.take 1, Nat.le_refl _, Nat.le_max_left _ _, by simp only [go_sem], by simp only [go_sem], by simp only [go_sem], by simp only [go_sem], by simp only [go_sem], .refl _, by cases X <;> simp, by
      have : P ++ X.take 1 ++ X.drop 1 ++ S = P ++ X ++ S := by rw [List.append_assoc P, List.take_append_drop]
      rw [this]; exact (updH_self hj).symm⟩, ?_⟩
  rintro ρ H ⟨k, M, hk1, hkm, e0, e1, e2, e3, e8, hp, hM, hH⟩
  simp only [go_sem, e0, e1, e2, e3, e8]
  refine acond_i (fun hlt => ?_) (fun hge => ?_)
  · have hkx : k < X.length := by have := ltB hlt; omega
    obtain ⟨y, hy⟩ := getIn hkx
    have hyX : y ∈ X := List.mem_of_getElem? hy
    have hML : M.length = k := by rw [hp.length_eq, List.length_take]; omega
    have hMok : ∀ z ∈ M, ok z.1 ∧ z.2 < y.2 := fun z hz => by
      have hz := hp.mem_iff.1 hz
      refine ⟨hok z (List.mem_of_mem_take hz), ?_⟩
      have hX : X = X.take k ++ y :: X.drop (k + 1) := by rw [← drop_at hy, List.take_append_drop]
      rw [hX] at hrk
      exact (List.pairwise_append.1 hrk).2.2 z hz y (List.mem_cons_self ..)
    simp only [go_sem, e0, e1, e2, e3, e8]
    refine ⟨fun ρ H => ∃ M1 M2 : List TB, M = M1 ++ M2 ∧ (∀ z ∈ M2, lt y.1 z.1 = true) ∧ ρ 0 = .os j ∧ ρ 1 = int a ∧ ρ 2 = int b ∧ ρ 3 = cmpV gf ∧ ρ 8 = int (a + k : Nat) ∧ ρ 9 = int (a + M1.length : Nat) ∧ H = updH H0 j (some (brRow (fs (P ++ M1 ++ y :: M2 ++ X.drop (k + 1) ++ S)))), fun ρ _ => natOf (ρ 9),
      ⟨M, [], by simp, by simp, by simp only [go_sem, e0], by simp only [go_sem, e1], by simp only [go_sem, e2], by simp only [go_sem, e3], by simp only [go_sem, e8], by simp only [go_sem, e8, hML], by rw [hH, drop_at hy]; simp only [List.append_assoc, List.cons_append, List.nil_append]⟩, ?_⟩
    clear e0 e1 e2 e3 e8 hH
    rintro ρ H ⟨M1, M2, rfl, hM2, e0, e1, e2, e3, e8, e9, hH⟩
    have hml : M1.length + M2.length = k := by rw [← hML, List.length_append]
    have R : H j = some (brRow (fs (P ++ M1 ++ y :: M2 ++ X.drop (k + 1) ++ S))) := by rw [hH]; exact updH_same _ _ _
    have finish : (M1 = [] ∨ ∃ M' z, M1 = M' ++ [z] ∧ lt y.1 z.1 = false) → (M1 ++ y :: M2).Perm (X.take (k + 1)) ∧ (M1 ++ y :: M2).Pairwise (tlt lt) := by
      intro hfin
      refine ⟨?_, mid_sorted hs hM (fun z hz => ?_) (fun z hz => .inl (hM2 z (List.mem_of_mem_head? hz)))⟩
      · rw [take_succ hy]
        refine List.perm_middle.trans ?_
        exact ((hp.cons y)).trans (List.perm_append_singleton y _).symm
      · rcases hfin with rfl | ⟨M', z', rfl, hz'⟩
        · cases hz
        · rw [List.getLast?_append, List.getLast?_singleton] at hz
          have : z' = z := by simpa using hz
          subst this
          exact .inr ⟨hz', (hMok z' (by simp)).2⟩
    rcases List.eq_nil_or_concat M1 with rfl | ⟨M', z, rfl⟩
    · simp only [go_sem, e0, e1, e2, e3, e8, e9]
      refine adraw_p [j] [(0, true), (1, true), (2, true), (3, true), (4, true), (5, true), (6, true), (7, true), (8, true), (9, true), (10, true), (11, true), (12, true), (13, true), (14, true), (15, true), (16, true)] (by simp [R]) (by kernel_rfl) fun Hp Hr hp1 hr1 hp2 hr2 => ?_
      have Rp := (hp1 j (by simp)).trans R
      have hz0 : decide ((a : Int) > (a : Int)) = false := by simp
      simp only [List.length_nil, Nat.add_zero] at e9
      simp only [go_sem, e0, e1, e2, e3, e8, e9, Rp, hz0, hcall]
      refine ⟨int 0, ?_⟩
      simp only [go_sem, e0, e1, e2, e3, e8, e9]
      refine pinEnd_i fun _ Hm hm1 hm2 => ?_
      obtain rfl := pin_back hm1 hm2 hr1
      refine acond_i (fun hb => by cases hb) (fun _ => ?_)
      simp only [go_sem, e0, e1, e2, e3, e8, wrapS (show a + k ≤ 4611686018427387904 by omega)]
      obtain ⟨f1, f2⟩ := finish (.inl rfl)
      refine ⟨⟨k + 1, _, by omega, by omega, ?_, f1, f2, by rw [hH]; simp only [List.append_assoc, List.cons_append, List.nil_append]⟩, by simp only [natOf_int]; omega⟩
      rw [Nat.add_assoc]
    · rw [List.concat_eq_append] at *
      have hzy : (P ++ (M' ++ [z]) ++ y :: M2 ++ X.drop (k + 1) ++ S)[a + M'.length]? = some z := by
        rw [ha]; simp only [List.append_assoc]; rw [List.getElem?_append_right (by omega), List.getElem?_append_right (by omega)]; simp
      have hyy : (P ++ (M' ++ [z]) ++ y :: M2 ++ X.drop (k + 1) ++ S)[a + M'.length + 1]? = some y := by
        rw [ha]; simp only [List.append_assoc]; rw [List.getElem?_append_right (by omega), List.getElem?_append_right (by omega), List.getElem?_append_right (by simp; omega)]; simp [Nat.add_sub_cancel_left, show P.length + M'.length + 1 - P.length - M'.length - 1 = 0 by omega]
      simp only [List.length_append, List.length_singleton] at hml
      have hfl : (fs (P ++ (M' ++ [z]) ++ y :: M2 ++ X.drop (k + 1) ++ S)).length = P.length + X.length + S.length := by simp [fs]; omega
      have b1 : (0 : Int) ≤ ((a + M'.length + 1 : Nat) : Int) ∧ ((a + M'.length + 1 : Nat) : Int) < ((fs (P ++ (M' ++ [z]) ++ y :: M2 ++ X.drop (k + 1) ++ S)).length : Int) := by omega
      have b2 : (0 : Int) ≤ ((a + M'.length : Nat) : Int) ∧ ((a + M'.length : Nat) : Int) < ((fs (P ++ (M' ++ [z]) ++ y :: M2 ++ X.drop (k + 1) ++ S)).length : Int) := by omega
      have g1 := getD_map (f := encBroken) (fs_get hyy)
      have g2 := getD_map (f := encBroken) (fs_get hzy)
      obtain ⟨n, hn, hpc⟩ := hc.cmp y.1 z.1 (hok y hyX) (hMok z (by simp)).1
      have e9' : ρ 9 = int ((a + M'.length + 1 : Nat) : Int) := by rw [e9]; simp [Nat.add_assoc]
      have hgt : decide (((a + M'.length + 1 : Nat) : Int) > (a : Int)) = true := by simp; omega
      have w1 : IntKind.i64.wrap (((a + M'.length + 1 : Nat) : Int) - 1) = ((a + M'.length : Nat) : Int) := by rw [wrap_in (by omega)]; omega
      simp only [go_sem, e0, e1, e2, e3, e8, e9']
      refine adraw_p [j] [(0, true), (1, true), (2, true), (3, true), (4, true), (5, true), (6, true), (7, true), (8, true), (9, true), (10, true), (11, true), (12, true), (13, true), (14, true), (15, true), (16, true)] (by simp [R]) (by kernel_rfl) fun Hp Hr hp1 hr1 hp2 hr2 => ?_
      have Rp := (hp1 j (by simp)).trans R
      simp only [go_sem, e0, e1, e2, e3, e8, e9', Rp, hgt, hcall, w1, g1, g2, b1, b2]
      refine ⟨by omega, by omega, _, hpc.q rfl, ?_⟩
      simp only [go_sem, e0, e1, e2, e3, e8, e9', hn]
      refine pinEnd_i fun _ Hm hm1 hm2 => ?_
      obtain rfl := pin_back hm1 hm2 hr1
      refine acond_i (fun hb => ?_) (fun hb => ?_)
      · simp only [go_sem, e0, e1, e2, e3, e8, e9']
        refine adraw_t [] (.q 0 (.q 1 (.q 2 (.q 3 (.q 4 (.q 5 (.q 6 (.q 7 (.q 10 (.q 11 (.a2 8 (.a2 9 (.a1 12 (.a1 13 (.a1 14 (.a1 15 (.a1 16 (.a1 17 (.nil))))))) 12 (.a2 9 (.a1 13 (.a1 14 (.a1 15 (.a1 16 (.a1 17 (.nil)))))) 13 (.a1 9 (.a1 14 (.a1 15 (.a1 16 (.a1 17 (.nil)))))))) 12 (.a2 8 (.a2 9 (.a1 13 (.a1 14 (.a1 15 (.a1 16 (.a1 17 (.nil)))))) 13 (.a1 9 (.a1 14 (.a1 15 (.a1 16 (.a1 17 (.nil))))))) 13 (.a1 8 (.a1 9 (.a1 14 (.a1 15 (.a1 16 (.a1 17 (.nil))))))))))))))))))) (by simp) (by kernel_rfl) fun Hp Hr _ hr _ _ => ?_
        obtain rfl : Hr = Hm := funext fun i => hr i (by simp)
        have hx : (fs (P ++ (M' ++ [z]) ++ y :: M2 ++ X.drop (k + 1) ++ S))[a + M'.length + 1]? = some y.1 := fs_get hyy
        have hy2 : (fs (P ++ (M' ++ [z]) ++ y :: M2 ++ X.drop (k + 1) ++ S))[a + M'.length]? = some z.1 := fs_get hzy
        simp only [go_sem, e0, e1, e2, e3, e8, e9', w1, R, b1, b2]
        repeat' (first | (refine amixt_2i ?_ ?_) | (refine ⟨by omega, ?_⟩) | (refine wputE_n R ⟨by rw [List.length_map]; omega, encBroken_len _, by rw [encBroken_len]; exact Nat.le_refl 4⟩ ?_) | (refine wputE_n (updH_same _ _ _) ⟨by rw [List.length_set, List.length_map]; omega, encBroken_len _, by rw [encBroken_len]; exact Nat.le_refl 4⟩ ?_) | (refine pinEnd_i fun _ Hm _ hm => ?_; obtain rfl : Hm = _ := funext fun i => hm i (by simp)) | (simp only [go_sem, e0, e1, e2, e3, e8, e9', w1, R, b1, b2, g1, g2, List.length_set, List.length_map, encBroken_drop, List.append_nil]))
        all_goals refine ⟨⟨M', z :: M2, by simp, ?_, rfl, (swp_row hx hy2 (by omega) hH).trans ?_⟩, by simp only [natOf_int]; omega⟩
        all_goals first
          | (intro u hu
             rcases List.mem_cons.1 hu with rfl | hu
             · exact hb
             · exact hM2 u hu)
          | (congr 2
             rw [swp_comm _ _ _ (by omega)]
             have := swp_next (U := fs (P ++ M')) (W := fs (M2 ++ X.drop (k + 1) ++ S)) (x := z.1) (y := y.1) (i := a + M'.length) (j := a + M'.length + 1) (by rw [fs_len, List.length_append]; omega) (by rw [fs_len, List.length_append]; omega)
             simp only [fs, List.map_append, List.map_cons, List.map_nil, List.append_assoc, List.cons_append, List.nil_append] at this ⊢
             exact congrArg brRow this)
      · simp only [go_sem, e0, e1, e2, e3, e8, wrapS (show a + k ≤ 4611686018427387904 by omega)]
        obtain ⟨f1, f2⟩ := finish (.inr ⟨M', z, rfl, hb⟩)
        refine ⟨⟨k + 1, _, by omega, by omega, ?_, f1, f2, by rw [hH]; simp only [List.append_assoc, List.cons_append, List.nil_append]⟩, by simp only [natOf_int]; omega⟩
        rw [Nat.add_assoc]
  · have hkx : X.length ≤ k := by have : ¬ a + k < b := fun h => by simp at hge; omega
                                  omega
    rw [List.take_of_length_le hkx] at hp
    rw [List.drop_of_length_le hkx, List.append_nil] at hH
    simp only [go_sem]
    rw [hH]
    exact hK M hp hM _
end Go.Proofs.YtbcfajfngdmgnaaGreatDoor.Nu
end
