/- Texts joined by a program: SoD. -/
import Derived.Test.YtbcfajfngdmgnaaGreatDoorZh33

set_option linter.unusedSimpArgs false
set_option linter.unusedVariables false
namespace Go.Proofs.YtbcfajfngdmgnaaGreatDoor.Nu
open Go.Aw Go.Aw.D Go.Proofs Ty Go.Nu Go.So
set_option maxRecDepth 100000
theorem half_in {i k : Nat} (h : i + k ≤ 4611686018427387904) : IntKind.i64.wrap (shV .shr .u64 (IntKind.u64.wrap (IntKind.i64.wrap ((i : Int) + (k : Int)))) 1) = (((i + k) / 2 : Nat) : Int) := by
  have e1 : IntKind.u64.wrap ((i + k : Nat) : Int) = ((i + k : Nat) : Int) := by
    have e : IntKind.u64.wrap ((i + k : Nat) : Int) = ((i + k : Nat) : Int) % 18446744073709551616 := rfl
    rw [e]; omega
  rw [wAdd h, e1]
  show IntKind.i64.wrap (((i + k : Nat) : Int).fdiv (2 ^ min (1 : Int).toNat 64)) = _
  rw [show min (1 : Int).toNat 64 = 1 from rfl, Int.fdiv_eq_ediv_of_nonneg _ (by decide), wrap_in (by omega)]
  omega
theorem get_B {P A B S : List TB} {m k : Nat} {y : TB} (hm : m = P.length + A.length) (hy : B[k]? = some y) : (P ++ A ++ B ++ S)[m + k]? = some y := by
  have hk := (List.getElem?_eq_some_iff.1 hy).1
  rw [List.getElem?_append_left (by simp; omega), List.getElem?_append_right (by simp; omega), List.length_append, hm, Nat.add_sub_cancel_left, hy]
theorem get_A {P A B S : List TB} {a k : Nat} {y : TB} (ha : a = P.length) (hy : A[k]? = some y) : (P ++ A ++ B ++ S)[a + k]? = some y := by
  have hk := (List.getElem?_eq_some_iff.1 hy).1
  rw [List.getElem?_append_left (by simp; omega), List.getElem?_append_left (by simp; omega), List.getElem?_append_right (by omega), ha, Nat.add_sub_cancel_left, hy]
section
variable {gf : Nat} {lt : Broken → Broken → Bool} {ok : Broken → Prop}
set_option maxHeartbeats 8000000 in
theorem symMerge_c (hs : SWO lt) (hc : CmpOk gf lt ok) : ∀ (N : Nat) (P A B S : List TB) (a m b j : Nat) (H0 : Heap) (K : AV → Heap → Prop), A.length + B.length ≤ N → a = P.length → m = a + A.length → b = m + B.length → A ≠ [] → B ≠ [] →
    A.Pairwise (tlt lt) → B.Pairwise (tlt lt) → ranks A B → (∀ x ∈ A, ok x.1) → (∀ x ∈ B, ok x.1) → P.length + A.length + B.length + S.length ≤ 1048576 → H0 j = some (brRow (fs (P ++ A ++ B ++ S))) →
    (∀ M : List TB, M.Perm (A ++ B) → M.Pairwise (tlt lt) → ∀ r, K r (updH H0 j (some (brRow (fs (P ++ M ++ S)))))) → FCalls Tryz.prog 214 [.os j, int a, int m, int b, cmpV gf] H0 K
  | 0, P, A, B, S, a, m, b, j, H0, K, hN, _, _, _, hA, _, _, _, _, _, _, _, _, _ => by
    have := List.length_pos_iff.2 hA
    omega
  | N + 1, P, A, B, S, a, m, b, j, H0, K, hN, ha, hm, hb, hA, hB, sA, sB, rk, okA, okB, hl, hj, hK => by
    have ih := symMerge_c hs hc N
    have hcall := hc.call
    have hA1 := List.length_pos_iff.2 hA
    have hB1 := List.length_pos_iff.2 hB
    have hfl : (fs (P ++ A ++ B ++ S)).length = P.length + A.length + B.length + S.length := by simp [fs]; omega
    refine FCalls.body (c := Tryz.f214.body.getD .skip) (fun _ => false) mixed Tryz.func214 rfl (by kernel_rfl) ?_
    unfold Tryz.f214
    simp only [Option.getD_some]
    simp only [go_sem]
    simp only [go_sem, wSub (show a ≤ m by omega) (by omega)]
    refine acond_i (fun h1 => ?_) (fun h1 => ?_)
    · have h1 : m - a = 1 := by have := eq_of_beq h1; omega
      obtain ⟨x, rfl⟩ : ∃ x, A = [x] := List.length_eq_one_iff.1 (by omega)
      simp only [List.length_singleton] at hm hl hfl hN
      simp only [go_sem]
      refine ⟨fun ρ H => ∃ i i' : Nat, m ≤ i ∧ i ≤ i' ∧ i' ≤ b ∧ (i = m ∨ ∃ y, B[i - 1 - m]? = some y ∧ lt y.1 x.1 = true) ∧ (i' = b ∨ ∃ y, B[i' - m]? = some y ∧ lt y.1 x.1 = false) ∧ ρ 0 = .os j ∧ ρ 1 = int a ∧ ρ 4 = cmpV gf ∧ ρ 10 = int i ∧ ρ 11 = int i' ∧ H = H0, fun ρ _ => natOf (ρ 11) - natOf (ρ 10),
        ⟨m, b, Nat.le_refl _, by omega, Nat.le_refl _, .inl rfl, .inl rfl, by simp only [go_sem], by simp only [go_sem], by simp only [go_sem], by simp only [go_sem], by simp only [go_sem], rfl⟩, ?_⟩
      rintro ρ H ⟨i, i', hi1, hi2, hi3, q1, q2, e0, e1, e4, e10, e11, hHe⟩
      have hjH : H j = some (brRow (fs (P ++ [x] ++ B ++ S))) := hHe ▸ hj
      simp only [go_sem, e0, e1, e4, e10, e11]
      refine acond_i (fun hlt => ?_) (fun hge => ?_)
      · have hlt := ltB hlt
        obtain ⟨k, hk⟩ : ∃ k, (i + i') / 2 = m + k := ⟨(i + i') / 2 - m, by omega⟩
        obtain ⟨y, hy⟩ := getIn (l := B) (k := k) (by omega)
        obtain ⟨n, hn, hpc⟩ := hc.cmp y.1 x.1 (okB y (List.mem_of_getElem? hy)) (okA x (by simp))
        have g1 := getD_map (f := encBroken) (fs_get (get_B (S := S) (show m = P.length + [x].length by simp; omega) hy))
        have g2 := getD_map (f := encBroken) (fs_get (get_A (B := B) (S := S) ha (show [x][0]? = some x from rfl)))
        simp only [Nat.add_zero] at g2
        have b1 : (0 : Int) ≤ ((m + k : Nat) : Int) ∧ ((m + k : Nat) : Int) < ((fs (P ++ [x] ++ B ++ S)).length : Int) := by omega
        have b2 : (0 : Int) ≤ ((a : Nat) : Int) ∧ ((a : Nat) : Int) < ((fs (P ++ [x] ++ B ++ S)).length : Int) := by omega
        have wh := half_in (i := i) (k := i') (by omega)
        rw [hk] at wh
        simp only [go_sem, e0, e1, e4, e10, e11, wh]
        refine ⟨by decide, ?_⟩
        refine adraw_p [j] [(0, true), (1, true), (2, true), (3, true), (4, true), (5, true), (6, true), (7, true), (8, true), (9, true), (10, true)] (by simp [hjH]) (by kernel_rfl) fun Hp Hr hp1 hr1 hp2 hr2 => ?_
        have Rp := (hp1 j (by simp)).trans hjH
        simp only [go_sem, e0, e1, e4, e10, e11, Rp, hcall, g1, g2, b1, b2]
        refine ⟨by omega, by omega, _, hpc.q rfl, ?_⟩
        simp only [go_sem, e0, e1, e4, e10, e11, hn]
        refine pinEnd_i fun _ Hm hm1 hm2 => ?_
        obtain rfl := pin_back hm1 hm2 hr1
        refine acond_i (fun hb2 => ?_) (fun hb2 => ?_)
        · simp only [go_sem, e0, e1, e4, e11, wrapS (show m + k ≤ 4611686018427387904 by omega)]
          exact ⟨⟨m + k + 1, i', by omega, by omega, by omega, .inr ⟨y, by rw [show m + k + 1 - 1 - m = k by omega]; exact hy, hb2⟩, q2, rfl, rfl, hHe⟩, by simp only [natOf_int]; omega⟩
        · simp only [go_sem, e0, e1, e4, e10]
          exact ⟨⟨i, m + k, by omega, by omega, by omega, q1, .inr ⟨y, by rw [show m + k - m = k by omega]; exact hy, hb2⟩, rfl, rfl, hHe⟩, by simp only [natOf_int]; omega⟩
      · have hge : i = i' := geB hi2 hge
        subst hge
        obtain ⟨B1, B2, hBe, hl1, hl2⟩ := split_at (l := B) (n := i - m) (by omega)
        have hfin : (B1 ++ x :: B2).Pairwise (tlt lt) := by
          refine mid_sorted hs (hBe ▸ sB) (fun z hz => ?_) (fun z hz => ?_)
          · rcases q1 with rfl | ⟨y, hy, hlt⟩
            · rw [Nat.sub_self] at hl1
              rw [List.length_eq_zero_iff.1 hl1] at hz; cases hz
            · have hne : 0 < B1.length := by
                rcases Nat.eq_zero_or_pos B1.length with h0 | h0
                · rw [List.length_eq_zero_iff.1 h0] at hz; cases hz
                · exact h0
              rw [hBe, List.getElem?_append_left (by omega), show i - 1 - m = B1.length - 1 by omega, ← List.getLast?_eq_getElem?, hz] at hy
              have : z = y := by simpa using hy
              subst this
              exact .inl hlt
          · rcases q2 with rfl | ⟨y, hy, hlt⟩
            · have : B2 = [] := List.length_eq_zero_iff.1 (by omega)
              rw [this] at hz; cases hz
            · rw [hBe, List.getElem?_append_right (by omega), show i - m - B1.length = 0 by omega, ← List.head?_eq_getElem?, hz] at hy
              have : z = y := by simpa using hy
              subst this
              exact .inr ⟨hlt, rk x (by simp) z (by rw [hBe]; exact List.mem_append_right _ (List.mem_of_mem_head? hz))⟩
        simp only [go_sem, e0, e1, e10]
        refine ⟨fun ρ H => ∃ Q R' : List TB, B1 = Q ++ R' ∧ ρ 0 = .os j ∧ ρ 10 = int i ∧ ρ 13 = int (a + Q.length : Nat) ∧ H = updH H0 j (some (brRow (fs (P ++ Q ++ x :: R' ++ B2 ++ S)))), fun ρ _ => i - natOf (ρ 13),
          ⟨[], B1, rfl, by simp only [go_sem, e0], by simp only [go_sem, e10], by simp only [go_sem, List.length_nil, Nat.add_zero], by
            have : P ++ [] ++ x :: B1 ++ B2 ++ S = P ++ [x] ++ B ++ S := by rw [hBe]; simp
            rw [this, hHe]; exact (updH_self hj).symm⟩, ?_⟩
        clear e0 e1 e4 e10 e11 hjH hHe
        rintro ρ H ⟨Q, R', hQ, e0, e10, e13, hH⟩
        have hql : Q.length + R'.length = B1.length := by rw [hQ, List.length_append]
        have R : H j = some (brRow (fs (P ++ Q ++ x :: R' ++ B2 ++ S))) := by rw [hH]; exact updH_same _ _ _
        have w0 : IntKind.i64.wrap ((i : Int) - 1) = ((i - 1 : Nat) : Int) := by rw [wrap_in (by omega)]; omega
        simp only [go_sem, e0, e10, e13, w0]
        refine acond_i (fun hlt => ?_) (fun hge => ?_)
        · have hlt : Q.length < B1.length := by have := ltB hlt; omega
          obtain ⟨y, R'', rfl⟩ : ∃ y R'', R' = y :: R'' := List.exists_cons_of_length_pos (by omega)
          simp only [List.length_cons] at hql
          have hx1 : (fs (P ++ Q ++ x :: y :: R'' ++ B2 ++ S))[a + Q.length]? = some x.1 := by
            refine fs_get ?_
            rw [ha]; simp only [List.append_assoc]; rw [List.getElem?_append_right (by omega), List.getElem?_append_right (by omega)]; simp
          have hy1 : (fs (P ++ Q ++ x :: y :: R'' ++ B2 ++ S))[a + Q.length + 1]? = some y.1 := by
            refine fs_get ?_
            rw [ha]; simp only [List.append_assoc]; rw [List.getElem?_append_right (by omega), List.getElem?_append_right (by omega)]; simp [show P.length + Q.length + 1 - P.length - Q.length = 1 by omega]
          have hfl2 : (fs (P ++ Q ++ x :: y :: R'' ++ B2 ++ S)).length = P.length + 1 + B.length + S.length := by simp [fs]; omega
          have b1 : (0 : Int) ≤ ((a + Q.length + 1 : Nat) : Int) ∧ ((a + Q.length + 1 : Nat) : Int) < ((fs (P ++ Q ++ x :: y :: R'' ++ B2 ++ S)).length : Int) := by omega
          have b2 : (0 : Int) ≤ ((a + Q.length : Nat) : Int) ∧ ((a + Q.length : Nat) : Int) < ((fs (P ++ Q ++ x :: y :: R'' ++ B2 ++ S)).length : Int) := by omega
          have g1 := getD_map (f := encBroken) hy1
          have g2 := getD_map (f := encBroken) hx1
          have w1 := wrapS (show a + Q.length ≤ 4611686018427387904 by omega)
          simp only [go_sem, e0, e10, e13, w1]
          refine adraw_t [] (.q 0 (.q 1 (.q 2 (.q 3 (.q 4 (.q 5 (.q 6 (.q 7 (.q 10 (.q 11 (.a2 8 (.a2 9 (.a1 12 (.a1 13 (.a1 14 (.a1 15 (.a1 16 (.a1 17 (.nil))))))) 12 (.a2 9 (.a1 13 (.a1 14 (.a1 15 (.a1 16 (.a1 17 (.nil)))))) 13 (.a1 9 (.a1 14 (.a1 15 (.a1 16 (.a1 17 (.nil)))))))) 12 (.a2 8 (.a2 9 (.a1 13 (.a1 14 (.a1 15 (.a1 16 (.a1 17 (.nil)))))) 13 (.a1 9 (.a1 14 (.a1 15 (.a1 16 (.a1 17 (.nil))))))) 13 (.a1 8 (.a1 9 (.a1 14 (.a1 15 (.a1 16 (.a1 17 (.nil))))))))))))))))))) (by simp) (by kernel_rfl) fun Hp Hr _ hr _ _ => ?_
          obtain rfl : Hr = H := funext fun i => hr i (by simp)
          simp only [go_sem, e0, e10, e13, w1, R, b1, b2]
          repeat' (first | (refine amixt_2i ?_ ?_) | (refine ⟨by omega, ?_⟩) | (refine wputE_n R ⟨by rw [List.length_map]; omega, encBroken_len _, by rw [encBroken_len]; exact Nat.le_refl 4⟩ ?_) | (refine wputE_n (updH_same _ _ _) ⟨by rw [List.length_set, List.length_map]; omega, encBroken_len _, by rw [encBroken_len]; exact Nat.le_refl 4⟩ ?_) | (refine pinEnd_i fun _ Hm _ hm => ?_; obtain rfl : Hm = _ := funext fun i => hm i (by simp)) | (simp only [go_sem, e0, e10, e13, w1, R, b1, b2, g1, g2, List.length_set, List.length_map, encBroken_drop, List.append_nil]))
          all_goals refine ⟨⟨Q ++ [y], R'', by rw [hQ]; simp, ?_, (swp_row hx1 hy1 (by omega) hH).trans ?_⟩, by simp only [natOf_int]; omega⟩
          all_goals first
            | (rw [List.length_append, List.length_singleton, Nat.add_assoc])
            | (congr 2
               have := swp_next (U := fs (P ++ Q)) (W := fs (R'' ++ B2 ++ S)) (x := x.1) (y := y.1) (i := a + Q.length) (j := a + Q.length + 1) (by rw [fs_len, List.length_append]; omega) (by rw [fs_len, List.length_append]; omega)
               simp only [fs, List.map_append, List.map_cons, List.map_nil, List.append_assoc, List.cons_append, List.nil_append] at this ⊢
               exact congrArg brRow this)
        · have hqe : R' = [] := List.length_eq_zero_iff.1 (by have h' : ¬ a + Q.length < i - 1 := (fun h => by simp at hge; omega); omega)
          subst hqe
          rw [List.append_nil] at hQ
          simp only [go_sem]
          have : P ++ Q ++ [x] ++ B2 ++ S = P ++ (B1 ++ x :: B2) ++ S := by rw [hQ]; simp
          rw [hH, this]
          refine hK _ ?_ hfin _
          rw [hBe]
          exact List.perm_middle
    have h1 : ¬ A.length = 1 := fun h => by
      have : ((m - a : Nat) : Int) = 1 := by omega
      rw [this] at h1; cases h1
    simp only [go_sem, wSub (show m ≤ b by omega) (by omega)]
    refine acond_i (fun h2 => ?_) (fun h2 => ?_)
    · have h2 : b - m = 1 := by have := eq_of_beq h2; omega
      obtain ⟨y, rfl⟩ : ∃ y, B = [y] := List.length_eq_one_iff.1 (by omega)
      simp only [List.length_singleton] at hb hl hfl hN
      simp only [go_sem]
      refine ⟨fun ρ H => ∃ i i' : Nat, a ≤ i ∧ i ≤ i' ∧ i' ≤ m ∧ (i = a ∨ ∃ z, A[i - 1 - a]? = some z ∧ lt y.1 z.1 = false) ∧ (i' = m ∨ ∃ z, A[i' - a]? = some z ∧ lt y.1 z.1 = true) ∧ ρ 0 = .os j ∧ ρ 2 = int m ∧ ρ 4 = cmpV gf ∧ ρ 14 = int i ∧ ρ 15 = int i' ∧ H = H0, fun ρ _ => natOf (ρ 15) - natOf (ρ 14),
        ⟨a, m, Nat.le_refl _, by omega, Nat.le_refl _, .inl rfl, .inl rfl, by simp only [go_sem], by simp only [go_sem], by simp only [go_sem], by simp only [go_sem], by simp only [go_sem], rfl⟩, ?_⟩
      rintro ρ H ⟨i, i', hi1, hi2, hi3, q1, q2, e0, e2, e4, e14, e15, hHe⟩
      have hjH : H j = some (brRow (fs (P ++ A ++ [y] ++ S))) := hHe ▸ hj
      simp only [go_sem, e0, e2, e4, e14, e15]
      refine acond_i (fun hlt => ?_) (fun hge => ?_)
      · have hlt := ltB hlt
        obtain ⟨k, hk⟩ : ∃ k, (i + i') / 2 = a + k := ⟨(i + i') / 2 - a, by omega⟩
        obtain ⟨z, hz⟩ := getIn (l := A) (k := k) (by omega)
        obtain ⟨n, hn, hpc⟩ := hc.cmp y.1 z.1 (okB y (by simp)) (okA z (List.mem_of_getElem? hz))
        have g1 := getD_map (f := encBroken) (fs_get (get_B (A := A) (S := S) (show m = P.length + A.length by omega) (show [y][0]? = some y from rfl)))
        simp only [Nat.add_zero] at g1
        have g2 := getD_map (f := encBroken) (fs_get (get_A (B := [y]) (S := S) ha hz))
        have b1 : (0 : Int) ≤ ((m : Nat) : Int) ∧ ((m : Nat) : Int) < ((fs (P ++ A ++ [y] ++ S)).length : Int) := by omega
        have b2 : (0 : Int) ≤ ((a + k : Nat) : Int) ∧ ((a + k : Nat) : Int) < ((fs (P ++ A ++ [y] ++ S)).length : Int) := by omega
        have wh := half_in (i := i) (k := i') (by omega)
        rw [hk] at wh
        simp only [go_sem, e0, e2, e4, e14, e15, wh]
        refine ⟨by decide, ?_⟩
        refine adraw_p [j] [(0, true), (1, true), (2, true), (3, true), (4, true), (5, true), (6, true), (7, true), (8, true), (9, true), (10, true), (11, true)] (by simp [hjH]) (by kernel_rfl) fun Hp Hr hp1 hr1 hp2 hr2 => ?_
        have Rp := (hp1 j (by simp)).trans hjH
        simp only [go_sem, e0, e2, e4, e14, e15, Rp, hcall, g1, g2, b1, b2]
        refine ⟨by omega, by omega, _, hpc.q rfl, ?_⟩
        simp only [go_sem, e0, e2, e4, e14, e15, hn]
        refine pinEnd_i fun _ Hm hm1 hm2 => ?_
        obtain rfl := pin_back hm1 hm2 hr1
        refine acond_i (fun hb2 => ?_) (fun hb2 => ?_)
        · simp only [go_sem, e0, e2, e4, e15, wrapS (show a + k ≤ 4611686018427387904 by omega)]
          exact ⟨⟨a + k + 1, i', by omega, by omega, by omega, .inr ⟨z, by rw [show a + k + 1 - 1 - a = k by omega]; exact hz, by simpa using hb2⟩, q2, rfl, rfl, hHe⟩, by simp only [natOf_int]; omega⟩
        · simp only [go_sem, e0, e2, e4, e14]
          exact ⟨⟨i, a + k, by omega, by omega, by omega, q1, .inr ⟨z, by rw [show a + k - a = k by omega]; exact hz, by simpa using hb2⟩, rfl, rfl, hHe⟩, by simp only [natOf_int]; omega⟩
      · have hge : i = i' := geB hi2 hge
        subst hge
        obtain ⟨A1, A2, hAe, hl1, hl2⟩ := split_at (l := A) (n := i - a) (by omega)
        have hfin : (A1 ++ y :: A2).Pairwise (tlt lt) := by
          refine mid_sorted hs (hAe ▸ sA) (fun z hz => ?_) (fun z hz => ?_)
          · rcases q1 with rfl | ⟨u, hu, hlt⟩
            · rw [Nat.sub_self] at hl1
              rw [List.length_eq_zero_iff.1 hl1] at hz; cases hz
            · have hne : 0 < A1.length := by
                rcases Nat.eq_zero_or_pos A1.length with h0 | h0
                · rw [List.length_eq_zero_iff.1 h0] at hz; cases hz
                · exact h0
              rw [hAe, List.getElem?_append_left (by omega), show i - 1 - a = A1.length - 1 by omega, ← List.getLast?_eq_getElem?, hz] at hu
              have : z = u := by simpa using hu
              subst this
              exact .inr ⟨hlt, rk z (by rw [hAe]; exact List.mem_append_left _ (List.mem_of_getLast? hz)) y (by simp)⟩
          · rcases q2 with rfl | ⟨u, hu, hlt⟩
            · have : A2 = [] := List.length_eq_zero_iff.1 (by omega)
              rw [this] at hz; cases hz
            · rw [hAe, List.getElem?_append_right (by omega), show i - a - A1.length = 0 by omega, ← List.head?_eq_getElem?, hz] at hu
              have : z = u := by simpa using hu
              subst this
              exact .inl hlt
        simp only [go_sem, e0, e2, e14]
        refine ⟨fun ρ H => ∃ R' Q : List TB, A2 = R' ++ Q ∧ ρ 0 = .os j ∧ ρ 14 = int i ∧ ρ 17 = int (i + R'.length : Nat) ∧ H = updH H0 j (some (brRow (fs (P ++ A1 ++ R' ++ y :: Q ++ S)))), fun ρ _ => natOf (ρ 17),
          ⟨A2, [], by simp, by simp only [go_sem, e0], by simp only [go_sem, e14], by simp only [go_sem, e2]; rw [show m = i + A2.length by omega], by
            have : P ++ A1 ++ A2 ++ [y] ++ S = P ++ A ++ [y] ++ S := by rw [hAe]; simp
            rw [this, hHe]; exact (updH_self hj).symm⟩, ?_⟩
        clear e0 e2 e4 e14 e15 hjH hHe
        rintro ρ H ⟨R', Q, hQ, e0, e14, e17, hH⟩
        have hql : R'.length + Q.length = A2.length := by rw [hQ, List.length_append]
        have R : H j = some (brRow (fs (P ++ A1 ++ R' ++ y :: Q ++ S))) := by rw [hH]; exact updH_same _ _ _
        simp only [go_sem, e0, e14, e17]
        rcases List.eq_nil_or_concat R' with rfl | ⟨R'', z, rfl⟩
        · simp only [List.length_nil, Nat.add_zero] at e17
          refine acond_i (fun hlt => by simp at hlt) (fun hge => ?_)
          rw [List.nil_append] at hQ
          simp only [go_sem]
          have : P ++ A1 ++ [] ++ y :: Q ++ S = P ++ (A1 ++ y :: A2) ++ S := by rw [hQ]; simp
          rw [hH, this]
          refine hK _ ?_ hfin _
          rw [hAe]
          refine List.perm_middle.trans ?_
          exact (List.perm_append_singleton y _).symm
        · rw [List.concat_eq_append] at *
          simp only [List.length_append, List.length_singleton] at hql e17
          refine acond_i (fun hlt => ?_) (fun hge => by simp at hge; omega)
          have hx1 : (fs (P ++ A1 ++ (R'' ++ [z]) ++ y :: Q ++ S))[i + R''.length + 1]? = some y.1 := by
            refine fs_get ?_
            rw [show i + R''.length + 1 = P.length + (A1.length + (R''.length + 1)) by omega]
            simp only [List.append_assoc]; rw [List.getElem?_append_right (by omega), List.getElem?_append_right (by omega), List.getElem?_append_right (by omega)]; simp
          have hy1 : (fs (P ++ A1 ++ (R'' ++ [z]) ++ y :: Q ++ S))[i + R''.length]? = some z.1 := by
            refine fs_get ?_
            rw [show i + R''.length = P.length + (A1.length + R''.length) by omega]
            simp only [List.append_assoc]; rw [List.getElem?_append_right (by omega), List.getElem?_append_right (by omega), List.getElem?_append_right (by omega)]; simp
          have hfl2 : (fs (P ++ A1 ++ (R'' ++ [z]) ++ y :: Q ++ S)).length = P.length + A.length + 1 + S.length := by simp [fs]; omega
          have b1 : (0 : Int) ≤ ((i + R''.length + 1 : Nat) : Int) ∧ ((i + R''.length + 1 : Nat) : Int) < ((fs (P ++ A1 ++ (R'' ++ [z]) ++ y :: Q ++ S)).length : Int) := by omega
          have b2 : (0 : Int) ≤ ((i + R''.length : Nat) : Int) ∧ ((i + R''.length : Nat) : Int) < ((fs (P ++ A1 ++ (R'' ++ [z]) ++ y :: Q ++ S)).length : Int) := by omega
          have g1 := getD_map (f := encBroken) hx1
          have g2 := getD_map (f := encBroken) hy1
          have e17' : ρ 17 = int ((i + R''.length + 1 : Nat) : Int) := e17
          have w1 : IntKind.i64.wrap (((i + R''.length + 1 : Nat) : Int) - 1) = ((i + R''.length : Nat) : Int) := by rw [wrap_in (by omega)]; omega
          simp only [go_sem, e0, e14, e17', w1]
          refine adraw_t [] (.q 0 (.q 1 (.q 2 (.q 3 (.q 4 (.q 5 (.q 6 (.q 7 (.q 10 (.q 11 (.a2 8 (.a2 9 (.a1 12 (.a1 13 (.a1 14 (.a1 15 (.a1 16 (.a1 17 (.nil))))))) 12 (.a2 9 (.a1 13 (.a1 14 (.a1 15 (.a1 16 (.a1 17 (.nil)))))) 13 (.a1 9 (.a1 14 (.a1 15 (.a1 16 (.a1 17 (.nil)))))))) 12 (.a2 8 (.a2 9 (.a1 13 (.a1 14 (.a1 15 (.a1 16 (.a1 17 (.nil)))))) 13 (.a1 9 (.a1 14 (.a1 15 (.a1 16 (.a1 17 (.nil))))))) 13 (.a1 8 (.a1 9 (.a1 14 (.a1 15 (.a1 16 (.a1 17 (.nil))))))))))))))))))) (by simp) (by kernel_rfl) fun Hp Hr _ hr _ _ => ?_
          obtain rfl : Hr = H := funext fun i => hr i (by simp)
          simp only [go_sem, e0, e14, e17', w1, R, b1, b2]
          repeat' (first | (refine amixt_2i ?_ ?_) | (refine ⟨by omega, ?_⟩) | (refine wputE_n R ⟨by rw [List.length_map]; omega, encBroken_len _, by rw [encBroken_len]; exact Nat.le_refl 4⟩ ?_) | (refine wputE_n (updH_same _ _ _) ⟨by rw [List.length_set, List.length_map]; omega, encBroken_len _, by rw [encBroken_len]; exact Nat.le_refl 4⟩ ?_) | (refine pinEnd_i fun _ Hm _ hm => ?_; obtain rfl : Hm = _ := funext fun i => hm i (by simp)) | (simp only [go_sem, e0, e14, e17', w1, R, b1, b2, g1, g2, List.length_set, List.length_map, encBroken_drop, List.append_nil]))
          all_goals refine ⟨⟨R'', z :: Q, by rw [hQ]; simp, rfl, (swp_row hx1 hy1 (by omega) hH).trans ?_⟩, by simp only [natOf_int, List.length_append, List.length_singleton]; omega⟩
          all_goals congr 2
          all_goals rw [swp_comm _ _ _ (by omega)]
          all_goals have := swp_next (U := fs (P ++ A1 ++ R'')) (W := fs (Q ++ S)) (x := z.1) (y := y.1) (i := i + R''.length) (j := i + R''.length + 1) (by rw [fs_len, List.length_append, List.length_append]; omega) (by rw [fs_len, List.length_append, List.length_append]; omega)
          all_goals simp only [fs, List.map_append, List.map_cons, List.map_nil, List.append_assoc, List.cons_append, List.nil_append] at this ⊢
          all_goals exact congrArg brRow this
    have h2 : ¬ B.length = 1 := fun h => by
      have : ((b - m : Nat) : Int) = 1 := by omega
      rw [this] at h2; cases h2
    have wmid := half_in (i := a) (k := b) (by omega)
    obtain ⟨mid, hmid⟩ : ∃ mid, (a + b) / 2 = mid := ⟨_, rfl⟩
    rw [hmid] at wmid
    simp only [go_sem, wmid]
    refine ⟨by decide, ?_⟩
    simp only [go_sem, wAdd (show mid + m ≤ 4611686018427387904 by omega)]
    -- where the search begins and ends
    obtain ⟨s0, hs0⟩ : ∃ s0, s0 = if mid < m then mid + m - b else a := ⟨_, rfl⟩
    obtain ⟨r0, hr0⟩ : ∃ r0, r0 = if mid < m then mid else m := ⟨_, rfl⟩
    refine acond_join (fun ρ H => ρ 0 = .os j ∧ ρ 1 = int a ∧ ρ 2 = int m ∧ ρ 3 = int b ∧ ρ 4 = cmpV gf ∧ ρ 18 = int mid ∧ ρ 19 = int (mid + m : Nat) ∧ ρ 20 = int s0 ∧ ρ 21 = int r0 ∧ H = H0) ?_ fun K' hK' => acond_i (fun h => ?_) (fun h => ?_)
    rotate_left
    · have h : mid < m := ltB h
      rw [if_pos h] at hs0 hr0
      simp only [go_sem, wSub (show b ≤ mid + m by omega) (by omega)]
      exact hK' _ _ ⟨by simp only [go_sem], by simp only [go_sem], by simp only [go_sem], by simp only [go_sem], by simp only [go_sem], by simp only [go_sem], by simp only [go_sem], by simp only [go_sem, hs0], by simp only [go_sem, hr0], rfl⟩
    · have h : ¬ mid < m := by simpa using h
      rw [if_neg h] at hs0 hr0
      simp only [go_sem]
      exact hK' _ _ ⟨by simp only [go_sem], by simp only [go_sem], by simp only [go_sem], by simp only [go_sem], by simp only [go_sem], by simp only [go_sem], by simp only [go_sem], by simp only [go_sem, hs0], by simp only [go_sem, hr0], rfl⟩
    rintro ρ H ⟨e0, e1, e2, e3, e4, e18, e19, e20, e21, hHe⟩
    have hsr : s0 ≤ r0 ∧ a ≤ s0 ∧ r0 ≤ m ∧ r0 ≤ mid := by rw [hs0, hr0]; split <;> omega
    simp only [go_sem, e0, e1, e2, e3, e4, e18, e19, e20, e21]
    have wp : IntKind.i64.wrap (((mid + m : Nat) : Int) - 1) = ((mid + m - 1 : Nat) : Int) := by rw [wrap_in (by omega)]; omega
    simp only [go_sem, wp]
    refine ⟨fun ρ H => ∃ st r : Nat, s0 ≤ st ∧ st ≤ r ∧ r ≤ r0 ∧ (st = s0 ∨ ∃ z y, A[st - 1 - a]? = some z ∧ B[mid + m - st - m]? = some y ∧ lt y.1 z.1 = false) ∧ (r = r0 ∨ ∃ z y, A[r - a]? = some z ∧ B[mid + m - 1 - r - m]? = some y ∧ lt y.1 z.1 = true) ∧ ρ 0 = .os j ∧ ρ 1 = int a ∧ ρ 2 = int m ∧ ρ 3 = int b ∧ ρ 4 = cmpV gf ∧ ρ 18 = int mid ∧ ρ 19 = int (mid + m : Nat) ∧ ρ 22 = int (mid + m - 1 : Nat) ∧ ρ 20 = int st ∧ ρ 21 = int r ∧ H = H0, fun ρ _ => natOf (ρ 21) - natOf (ρ 20),
      ⟨s0, r0, Nat.le_refl _, hsr.1, Nat.le_refl _, .inl rfl, .inl rfl, by simp only [go_sem, e0], by simp only [go_sem, e1], by simp only [go_sem, e2], by simp only [go_sem, e3], by simp only [go_sem, e4], by simp only [go_sem, e18], by simp only [go_sem, e19], by simp only [go_sem], by simp only [go_sem, e20], by simp only [go_sem, e21], hHe⟩, ?_⟩
    clear e0 e1 e2 e3 e4 e18 e19 e20 e21 hHe
    rintro ρ H ⟨st, r, hi1, hi2, hi3, q1, q2, e0, e1, e2, e3, e4, e18, e19, e22, e20, e21, hHe⟩
    have hjH : H j = some (brRow (fs (P ++ A ++ B ++ S))) := hHe ▸ hj
    simp only [go_sem, e0, e1, e2, e3, e4, e18, e19, e22, e20, e21]
    refine acond_i (fun hlt => ?_) (fun hge => ?_)
    · have hlt := ltB hlt
      obtain ⟨c, hc0⟩ : ∃ c, (st + r) / 2 = c := ⟨_, rfl⟩
      have wh := half_in (i := st) (k := r) (by omega)
      rw [hc0] at wh
      have hcb : s0 ≤ c ∧ c < r0 ∧ st ≤ c ∧ c < r := by omega
      have hcr : m ≤ mid + m - 1 - c ∧ mid + m - 1 - c < b := by
        rw [hs0, hr0] at hcb
        split at hcb <;> omega
      obtain ⟨z, hz⟩ := getIn (l := A) (k := c - a) (by omega)
      obtain ⟨y, hy⟩ := getIn (l := B) (k := mid + m - 1 - c - m) (by omega)
      obtain ⟨n, hn, hpc⟩ := hc.cmp y.1 z.1 (okB y (List.mem_of_getElem? hy)) (okA z (List.mem_of_getElem? hz))
      have g1 := getD_map (f := encBroken) (fs_get (get_B (A := A) (S := S) (show m = P.length + A.length by omega) hy))
      have g2 := getD_map (f := encBroken) (fs_get (get_A (B := B) (S := S) ha hz))
      rw [show m + (mid + m - 1 - c - m) = mid + m - 1 - c by omega] at g1
      rw [show a + (c - a) = c by omega] at g2
      have b1 : (0 : Int) ≤ ((mid + m - 1 - c : Nat) : Int) ∧ ((mid + m - 1 - c : Nat) : Int) < ((fs (P ++ A ++ B ++ S)).length : Int) := by omega
      have b2 : (0 : Int) ≤ ((c : Nat) : Int) ∧ ((c : Nat) : Int) < ((fs (P ++ A ++ B ++ S)).length : Int) := by omega
      have wpc := wSub (a := mid + m - 1) (b := c) (by omega) (by omega)
      simp only [go_sem, e0, e1, e2, e3, e4, e18, e19, e22, e20, e21, wh]
      refine ⟨by decide, ?_⟩
      refine adraw_p [j] [(0, true), (1, true), (2, true), (3, true), (4, true), (5, true), (6, true), (7, true), (8, true), (9, true), (10, true), (11, true), (12, true), (13, true)] (by simp [hjH]) (by kernel_rfl) fun Hp Hr hp1 hr1 hp2 hr2 => ?_
      have Rp := (hp1 j (by simp)).trans hjH
      simp only [go_sem, e0, e1, e2, e3, e4, e18, e19, e22, e20, e21, Rp, hcall, wpc, g1, g2, b1, b2]
      refine ⟨by omega, by omega, _, hpc.q rfl, ?_⟩
      simp only [go_sem, e0, e1, e2, e3, e4, e18, e19, e22, e20, e21, hn]
      refine pinEnd_i fun _ Hm hm1 hm2 => ?_
      obtain rfl := pin_back hm1 hm2 hr1
      refine acond_i (fun hb2 => ?_) (fun hb2 => ?_)
      · simp only [go_sem, e0, e1, e2, e3, e4, e18, e19, e22, e21, wrapS (show c ≤ 4611686018427387904 by omega)]
        exact ⟨⟨c + 1, r, by omega, by omega, by omega, .inr ⟨z, y, by rw [show c + 1 - 1 - a = c - a by omega]; exact hz, by rw [show mid + m - (c + 1) - m = mid + m - 1 - c - m by omega]; exact hy, by simpa using hb2⟩, q2, rfl, rfl, hHe⟩, by simp only [natOf_int]; omega⟩
      · simp only [go_sem, e0, e1, e2, e3, e4, e18, e19, e22, e20]
        exact ⟨⟨st, c, by omega, by omega, by omega, q1, .inr ⟨z, y, hz, hy, by simpa using hb2⟩, rfl, rfl, hHe⟩, by simp only [natOf_int]; omega⟩
    have hge : st = r := geB hi2 hge
    subst hge
    obtain ⟨A1, A2, hAe, hA1l, hA2l⟩ := split_at (l := A) (n := st - a) (by omega)
    have hBl : mid - st ≤ B.length := by rw [hs0] at hi1; split at hi1 <;> omega
    obtain ⟨B1, B2, hBe, hB1l, hB2l⟩ := split_at hBl
    have hBb : mid + m - st = m + B1.length := by omega
    -- the cuts fit
    have f1 : ∀ x y : TB, A1.getLast? = some x → B2.head? = some y → tlt lt x y := by
      intro x y hx hy
      rcases q1 with h0 | ⟨z, w, hz, hw, hlt⟩
      · rw [hs0] at h0
        split at h0
        · have : B2 = [] := List.length_eq_zero_iff.1 (by omega)
          rw [this] at hy; cases hy
        · have : A1 = [] := List.length_eq_zero_iff.1 (by omega)
          rw [this] at hx; cases hx
      · have hne : 0 < A1.length := by
          rcases Nat.eq_zero_or_pos A1.length with h0 | h0
          · rw [List.length_eq_zero_iff.1 h0] at hx; cases hx
          · exact h0
        rw [hAe, List.getElem?_append_left (by omega), show st - 1 - a = A1.length - 1 by omega, ← List.getLast?_eq_getElem?, hx] at hz
        rw [hBe, List.getElem?_append_right (by omega), show mid + m - st - m - B1.length = 0 by omega, ← List.head?_eq_getElem?, hy] at hw
        have e1 : x = z := by simpa using hz
        have e2 : y = w := by simpa using hw
        subst e1; subst e2
        exact .inr ⟨hlt, rk x (by rw [hAe]; exact List.mem_append_left _ (List.mem_of_getLast? hx)) y (by rw [hBe]; exact List.mem_append_right _ (List.mem_of_mem_head? hy))⟩
    have f2 : ∀ x y : TB, B1.getLast? = some x → A2.head? = some y → tlt lt x y := by
      intro x y hx hy
      rcases q2 with h0 | ⟨z, w, hz, hw, hlt⟩
      · rw [hr0] at h0
        split at h0
        · have : B1 = [] := List.length_eq_zero_iff.1 (by omega)
          rw [this] at hx; cases hx
        · have : A2 = [] := List.length_eq_zero_iff.1 (by omega)
          rw [this] at hy; cases hy
      · have hne : 0 < B1.length := by
          rcases Nat.eq_zero_or_pos B1.length with h0 | h0
          · rw [List.length_eq_zero_iff.1 h0] at hx; cases hx
          · exact h0
        rw [hAe, List.getElem?_append_right (by omega), show st - a - A1.length = 0 by omega, ← List.head?_eq_getElem?, hy] at hz
        rw [hBe, List.getElem?_append_left (by omega), show mid + m - 1 - st - m = B1.length - 1 by omega, ← List.getLast?_eq_getElem?, hx] at hw
        have e1 : y = z := by simpa using hz
        have e2 : x = w := by simpa using hw
        subst e1; subst e2
        exact .inl hlt
    have sA' := List.pairwise_append.1 (hAe ▸ sA)
    have sB' := List.pairwise_append.1 (hBe ▸ sB)
    have wend := wSub (a := mid + m) (b := st) (by omega) (by omega)
    simp only [go_sem, e0, e1, e2, e3, e4, e18, e19, e22, e20, wend]
    refine acond_join (fun ρ H => ρ 0 = .os j ∧ ρ 1 = int a ∧ ρ 2 = int m ∧ ρ 3 = int b ∧ ρ 4 = cmpV gf ∧ ρ 18 = int mid ∧ ρ 20 = int st ∧ ρ 24 = int (mid + m - st : Nat) ∧ H = updH H0 j (some (brRow (fs (P ++ A1 ++ B1 ++ A2 ++ B2 ++ S))))) ?_ fun K' hK' => acond_i (fun h => ?_) (fun h => ?_)
    rotate_left
    · have h : st < m ∧ m < mid + m - st := by simp at h; omega
      have hrot : fs (P ++ A ++ B ++ S) = fs (P ++ A1) ++ fs A2 ++ fs B1 ++ fs (B2 ++ S) := by rw [hAe, hBe]; simp only [fs, List.map_append, List.append_assoc]
      simp only [go_sem, e0, e2, e4, e20]
      refine rotate_c (fs (P ++ A1)) (fs A2) (fs B1) (fs (B2 ++ S)) st m (mid + m - st) j gf _ _ (by rw [fs_len, List.length_append]; omega) (by rw [fs_len]; omega) (by rw [fs_len]; omega) (fun e => by have := fs_len A2; rw [e] at this; simp at this; omega) (fun e => by have := fs_len B1; rw [e] at this; simp at this; omega) (by rw [← hrot, hfl]; exact hl) (by rw [hjH, hrot]) fun rr => ?_
      simp only [go_sem]
      refine hK' _ _ ⟨by simp only [go_sem, e0], by simp only [go_sem, e1], by simp only [go_sem, e2], by simp only [go_sem, e3], by simp only [go_sem, e4], by simp only [go_sem, e18], by simp only [go_sem, e20], by simp only [go_sem], ?_⟩
      rw [hHe]
      congr 3
      simp only [fs, List.map_append, List.append_assoc]
    · have h : ¬ (st < m ∧ m < mid + m - st) := by simp at h; omega
      simp only [go_sem]
      refine hK' _ _ ⟨by simp only [go_sem, e0], by simp only [go_sem, e1], by simp only [go_sem, e2], by simp only [go_sem, e3], by simp only [go_sem, e4], by simp only [go_sem, e18], by simp only [go_sem, e20], by simp only [go_sem], ?_⟩
      have hz : A2 = [] ∨ B1 = [] := by
        by_cases hst : st < m
        · exact .inr (List.length_eq_zero_iff.1 (by omega))
        · exact .inl (List.length_eq_zero_iff.1 (by omega))
      have : P ++ A1 ++ B1 ++ A2 ++ B2 ++ S = P ++ A ++ B ++ S := by
        rw [hAe, hBe]
        rcases hz with rfl | rfl <;> simp
      rw [this, hHe]; exact (updH_self hj).symm
    clear e0 e1 e2 e3 e4 e18 e19 e22 e20 e21 hHe hjH
    rintro ρ H ⟨e0, e1, e2, e3, e4, e18, e20, e24, hH⟩
    have okA1 : ∀ x ∈ A1, ok x.1 := fun x hx => okA x (by rw [hAe]; exact List.mem_append_left _ hx)
    have okA2 : ∀ x ∈ A2, ok x.1 := fun x hx => okA x (by rw [hAe]; exact List.mem_append_right _ hx)
    have okB1 : ∀ x ∈ B1, ok x.1 := fun x hx => okB x (by rw [hBe]; exact List.mem_append_left _ hx)
    have okB2 : ∀ x ∈ B2, ok x.1 := fun x hx => okB x (by rw [hBe]; exact List.mem_append_right _ hx)
    have rk1 : ranks A1 B1 := fun x hx y hy => rk x (by rw [hAe]; exact List.mem_append_left _ hx) y (by rw [hBe]; exact List.mem_append_left _ hy)
    have rk2 : ranks A2 B2 := fun x hx y hy => rk x (by rw [hAe]; exact List.mem_append_right _ hx) y (by rw [hBe]; exact List.mem_append_right _ hy)
    have tot : A1.length + B1.length = mid - a ∧ A2.length + B2.length = b - mid ∧ a < mid ∧ mid < b := by omega
    simp only [go_sem, e0, e1, e2, e3, e4, e18, e20, e24]
    refine acond_join (fun ρ H => ρ 0 = .os j ∧ ρ 3 = int b ∧ ρ 4 = cmpV gf ∧ ρ 18 = int mid ∧ ρ 24 = int (mid + m - st : Nat) ∧ ∃ M1 : List TB, M1.Perm (A1 ++ B1) ∧ M1.Pairwise (tlt lt) ∧ H = updH H0 j (some (brRow (fs (P ++ M1 ++ A2 ++ B2 ++ S))))) ?_ fun K' hK' => acond_i (fun h => ?_) (fun h => ?_)
    rotate_left
    · have h : a < st ∧ st < mid := by simp at h; omega
      simp only [go_sem, e0, e1, e4, e18, e20]
      refine ih P A1 B1 (A2 ++ B2 ++ S) a st mid j H _ (by omega) ha (by omega) (by omega) (fun e => by rw [e] at hA1l; simp at hA1l; omega) (fun e => by rw [e] at hB1l; simp at hB1l; omega) sA'.1 sB'.1 rk1 okA1 okB1 (by simp only [List.length_append]; omega) (by rw [hH, updH_same]; simp only [List.append_assoc]) fun M1 hp1 hs1 rr => ?_
      simp only [go_sem]
      refine hK' _ _ ⟨by simp only [go_sem, e0], by simp only [go_sem, e3], by simp only [go_sem, e4], by simp only [go_sem, e18], by simp only [go_sem, e24], M1, hp1, hs1, ?_⟩
      rw [hH, updH_twice]; simp only [List.append_assoc]
    · have h : ¬ (a < st ∧ st < mid) := by simp at h; omega
      simp only [go_sem]
      refine hK' _ _ ⟨by simp only [go_sem, e0], by simp only [go_sem, e3], by simp only [go_sem, e4], by simp only [go_sem, e18], by simp only [go_sem, e24], A1 ++ B1, .refl _, ?_, ?_⟩
      · by_cases hst : a < st
        · rw [List.length_eq_zero_iff.1 (show B1.length = 0 by omega), List.append_nil]; exact sA'.1
        · rw [List.length_eq_zero_iff.1 (show A1.length = 0 by omega), List.nil_append]; exact sB'.1
      · rw [hH]; simp only [List.append_assoc]
    clear e0 e1 e2 e3 e4 e18 e20 e24 hH
    rintro ρ H ⟨e0, e3, e4, e18, e24, M1, hp1, hs1, hH⟩
    have hM1 : M1.length = mid - a := by rw [hp1.length_eq, List.length_append]; omega
    simp only [go_sem, e0, e3, e4, e18, e24]
    refine acond_i (fun h => ?_) (fun h => ?_)
    · have h : mid < mid + m - st ∧ mid + m - st < b := by simp at h; omega
      simp only [go_sem, e0, e3, e4, e18, e24]
      refine ih (P ++ M1) A2 B2 S mid (mid + m - st) b j H _ (by omega) (by rw [List.length_append]; omega) (by omega) (by omega) (fun e => by rw [e] at hA2l; simp at hA2l; omega) (fun e => by rw [e] at hB2l; simp at hB2l; omega) sA'.2.1 sB'.2.1 rk2 okA2 okB2 (by simp only [List.length_append]; omega) (by rw [hH, updH_same]) fun M2 hp2 hs2 rr => ?_
      simp only [go_sem]
      obtain ⟨r1, r2⟩ := merge_sorted hs (hAe ▸ sA) (hBe ▸ sB) f1 f2 hp1 hp2 hs1 hs2
      have : P ++ M1 ++ M2 ++ S = P ++ (M1 ++ M2) ++ S := by simp only [List.append_assoc]
      rw [hH, updH_twice, this]
      exact hK _ (by rw [hAe, hBe]; exact r2) r1 _
    · have h : ¬ (mid < mid + m - st ∧ mid + m - st < b) := by simp at h; omega
      simp only [go_sem]
      have hs2 : (A2 ++ B2).Pairwise (tlt lt) := by
        by_cases hst : mid < mid + m - st
        · rw [List.length_eq_zero_iff.1 (show B2.length = 0 by omega), List.append_nil]; exact sA'.2.1
        · rw [List.length_eq_zero_iff.1 (show A2.length = 0 by omega), List.nil_append]; exact sB'.2.1
      obtain ⟨r1, r2⟩ := merge_sorted hs (hAe ▸ sA) (hBe ▸ sB) f1 f2 hp1 (.refl (A2 ++ B2)) hs1 hs2
      have : P ++ M1 ++ A2 ++ B2 ++ S = P ++ (M1 ++ (A2 ++ B2)) ++ S := by simp only [List.append_assoc]
      rw [hH, this]
      exact hK _ (by rw [hAe, hBe]; exact r2) r1 _
end
end Go.Proofs.YtbcfajfngdmgnaaGreatDoor.Nu
