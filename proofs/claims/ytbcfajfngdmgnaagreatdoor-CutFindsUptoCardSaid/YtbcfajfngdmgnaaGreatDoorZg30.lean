/- Texts joined by a program: CuI, SbB, SbC. -/
import Derived.RangeFuncBox
import Derived.RangeFuncNested
import Derived.RangeFuncLeaves
import Derived.Shelf.Abstract
import Derived.WalkKit
import Derived.OwnWalkIn
import Derived.TacticsInMore
import Derived.LoopNIn
import Derived.LoopIn
import Derived.Maps.AppendAt
import Derived.Test.YtbcfajfngdmgnaaGreatDoorZg01
import Derived.Test.YtbcfajfngdmgnaaGreatDoorZg29

section
set_option linter.unusedSimpArgs false
set_option linter.unusedVariables false
namespace Go.Proofs.YtbcfajfngdmgnaaGreatDoor.Nu
open Go.Aw Go.Aw.D Go.Proofs Ty Go.Nu
set_option maxRecDepth 100000
theorem memS_iff {s : Nat} {i : Int} : i ∈ memS (s : Int) ↔ ∃ j : Nat, j < 63 ∧ s.testBit j = true ∧ i = (j : Int) := by
  unfold memS memU
  rw [List.mem_map]
  constructor
  · rintro ⟨j, hj, rfl⟩
    obtain ⟨h1, h2⟩ := List.mem_filter.1 hj
    have h3 := List.mem_range.1 h1
    rw [hasR_nat (by omega)] at h2
    exact ⟨j, h3, h2, rfl⟩
  · rintro ⟨j, h1, h2, rfl⟩
    refine ⟨j, List.mem_filter.2 ⟨List.mem_range.2 h1, ?_⟩, rfl⟩
    rw [hasR_nat (by omega)]; exact h2
theorem mem_pos {s : Nat} (hs : s < 2 ^ 63) : (0 < (memS (s : Int)).length) ↔ 0 < s := by
  constructor
  · intro h
    rcases Nat.eq_zero_or_pos s with rfl | h0
    · obtain ⟨i, hi⟩ := List.exists_mem_of_length_pos h
      obtain ⟨j, _, h2, _⟩ := memS_iff.1 hi
      simp at h2
    · exact h0
  · intro h
    obtain ⟨j, hj⟩ := Nat.exists_testBit_of_ne_zero (x := s) (by omega)
    have hj63 : j < 63 := by
      rcases Nat.lt_or_ge j 63 with h1 | h1
      · exact h1
      · rw [Nat.testBit_lt_two_pow (Nat.lt_of_lt_of_le hs (Nat.pow_le_pow_right (by decide) h1))] at hj; cases hj
    exact List.length_pos_of_mem (memS_iff.2 ⟨j, hj63, hj, rfl⟩)
theorem must_same {x : Instance} {s : Nat} (hx : x.orders.length ≤ 62) (hs : s < 2 ^ 63) (h0 : 0 < s) : must28 x.orders (memS (s : Int)) = !stays x (s : Int) := by
  unfold must28 stays
  rw [decide_eq_true ((mem_pos hs).2 h0), Bool.and_true, exist_nat, Int.toNat_natCast, show decide ((s : Int) ≤ 0) = false by simp; omega, Bool.false_or]
  rw [Bool.eq_iff_iff]
  simp only [Bool.not_eq_true', Bool.or_eq_false_iff, Bool.not_eq_false', decide_eq_true_eq, List.any_eq_false]
  have hbit : ∀ j : Nat, j < 63 → (badM x.orders (j : Int) = false ↔ (mustO x).testBit j = true) := by
    intro j hj
    unfold mustO suchN badM
    rw [bitsN_test]
    rcases Nat.lt_or_ge j x.orders.length with hlt | hge
    · obtain ⟨o, ho⟩ := getIn hlt
      rw [orderAt_get ho, suchB_at ho, decide_eq_true hlt, show decide ((j : Int) ≥ (x.orders.length : Int)) = false by simp; omega]
      simp
    · rw [show decide ((j : Int) ≥ (x.orders.length : Int)) = true by simp; omega, show decide (j < x.orders.length) = false by simp; omega]
      simp
  have hin : ∀ j, s.testBit j = true → j < 63 := fun j hj => by
    rcases Nat.lt_or_ge j 63 with h1 | h1
    · exact h1
    · rw [Nat.testBit_lt_two_pow (Nat.lt_of_lt_of_le hs (Nat.pow_le_pow_right (by decide) h1))] at hj; cases hj
  constructor
  · intro h
    have hsub : ∀ j, s.testBit j = true → (mustO x).testBit j = true := fun j hj => (hbit j (hin j hj)).1 (by have := h (j : Int) (memS_iff.2 ⟨j, hin j hj, hj, rfl⟩); simpa using this)
    have hand : s &&& mustO x = s := by
      apply Nat.eq_of_testBit_eq
      intro j
      rw [Nat.testBit_and]
      cases hj : s.testBit j with
      | false => rfl
      | true => rw [hsub j hj]; rfl
    refine ⟨?_, hand⟩
    have hmu : mustO x < 2 ^ x.orders.length := suchN_lt _ _
    have : s &&& mustO x ≤ mustO x := Nat.and_le_right
    omega
  · rintro ⟨_, hand⟩ i hi
    obtain ⟨j, h1, h2, rfl⟩ := memS_iff.1 hi
    have h3 : (mustO x).testBit j = true := by
      rw [← hand, Nat.testBit_and] at h2
      exact (Bool.and_eq_true_iff.1 h2).2
    simpa using (hbit j h1).2 h3
theorem tripsD_spec {x : Instance} {d dim : Nat} {ms : List Int} (h : LoadsOk x d) (hd : dim < d) (hm : Memb x.orders ms) :
    0 ≤ tripsD x ms dim ∧ (capMax x.types dim < 1 → tripsD x ms dim = 0) ∧ (1 ≤ capMax x.types dim → ∀ n : Int, 0 ≤ n → (tripsD x ms dim ≤ n ↔ loadSum x.orders ms dim ≤ n * capMax x.types dim)) ∧ tripsD x ms dim ≤ loadSum x.orders ms dim := by
  have hL := (loadSum_in h hd hm).1
  have hC := (capMax_in h hd x.types.length).1
  rw [List.take_length] at hC
  unfold tripsD tripsL
  generalize loadSum x.orders ms dim = L at *
  generalize capMax x.types dim = C at *
  have hnc : ([C].any fun n => decide (n < 0)) = false := by simp; exact hC
  simp only [List.length_cons, List.length_nil, ne_eq, not_true, if_false, hnc, Bool.false_eq_true, tripsF]
  by_cases h0 : L ≤ 0
  · have : L = 0 := by omega
    subst this
    simp only [Int.le_refl, if_true]
    simp
    intro hc n hn
    exact ⟨fun _ => Int.mul_nonneg hn (by omega), fun _ => hn⟩
  · rw [if_neg h0]
    by_cases hc : C = 0
    · rw [if_pos hc]; simp; omega
    · rw [if_neg hc]
      have hq : imax 0 ((L + C - 1).tdiv C) = (L + C - 1) / C := by
        have h1 : (L + C - 1).tdiv C = (L + C - 1) / C := Int.tdiv_eq_ediv_of_nonneg (by omega)
        have h2 : 0 ≤ (L + C - 1) / C := Int.ediv_nonneg (by omega) (by omega)
        rw [h1]; unfold imax; split <;> omega
      simp only [hq, not_true, if_false]
      have h2 : 0 ≤ (L + C - 1) / C := Int.ediv_nonneg (by omega) (by omega)
      refine ⟨h2, fun h => by omega, fun h1 n hn => ?_, ?_⟩
      · have h4 : (L + C - 1) / C ≤ n ↔ (L + C - 1) / C < n + 1 := by omega
        rw [h4, Int.ediv_lt_iff_lt_mul (by omega), Int.add_mul, Int.one_mul]
        omega
      · have h4 : (L + C - 1) / C ≤ L ↔ (L + C - 1) / C < L + 1 := by omega
        rw [h4, Int.ediv_lt_iff_lt_mul (by omega), Int.add_mul, Int.one_mul]
        have : L * 1 ≤ L * C := Int.mul_le_mul_of_nonneg_left (by omega) (by omega)
        omega
theorem dimF_in {x : Instance} {d : Nat} {ms : List Int} (h : LoadsOk x d) (hm : Memb x.orders ms) (hl : ms.length ≤ 63) : ∀ k, k ≤ d → 1 ≤ dimF x ms k ∧ dimF x ms k ≤ 63001
  | 0, _ => by simp [dimF]
  | k + 1, hk => by
    have ih := dimF_in h hm hl k (by omega)
    have h1 := tripsD_spec h (dim := k) (by omega) hm
    have h2 := loadSum_in h (dim := k) (by omega) hm
    rw [dimF_succ]
    unfold imax
    split <;> omega
theorem trips28_c (x : Instance) (d : Nat) (set : Int) (h : LoadsOk x d) (ht : x.types ≠ []) (hset : set < 9223372036854775808) : PC Tryz.prog 27 [.agg (encInstance x), int set] (int (tripsP x d set)) := by
  have ho62 := h.orders
  have hd3 := h.dims
  have htl := h.types
  obtain ⟨t, r, ht2⟩ := List.exists_cons_of_ne_nil ht
  have hlen : ((x.types.length : Int) == 0) = false := by rw [ht2]; rw [beq_eq_false_iff_ne]; simp; omega
  refine PC.body (c := Tryz.f27.body.getD .skip) (fun _ => false) mixed Tryz.func27 rfl (by kernel_rfl) ?_
  unfold Tryz.f27
  simp only [Option.getD_some]
  simp only [go_sem]
  simp only [go_sem, List.length_map, hlen]
  refine acond_i (fun hb => ?_) (fun hb => ?_)
  · simp only [go_sem]
    have : stays x set = true := by unfold stays; rw [show decide (set ≤ 0) = true by simpa using hb]; rfl
    rw [show tripsP x d set = 0 from if_pos this]
    exact .refl _
  obtain ⟨s, rfl⟩ := Int.eq_ofNat_of_zero_le (a := set) (by simp at hb; omega)
  have hs0 : 0 < s := by simp at hb; omega
  have hs63 : s < 2 ^ 63 := by omega
  simp only [go_sem]
  refine PC.use (members5_c s hs63) ?_
  simp only [go_sem]
  have hml : (memS (s : Int)).length ≤ 63 := memU_len _ _
  refine PC.use (must28_c x (memS (s : Int)) (fun i hi => by obtain ⟨j, _, _, rfl⟩ := memS_iff.1 hi; omega) (by omega)) ?_
  rw [must_same ho62 hs63 hs0]
  simp only [go_sem]
  refine acond_i (fun hb2 => ?_) (fun hb2 => ?_)
  · simp only [go_sem]
    rw [show tripsP x d (s : Int) = 0 from if_pos (by simpa using hb2)]
    exact .refl _
  have hst : stays x (s : Int) = false := by simpa using hb2
  have e0 : tripsP x d (s : Int) = if togP x (memS (s : Int)) = false then 1 else dimF x (memS (s : Int)) d := if_neg (by rw [hst]; simp)
  rw [e0]
  have hsn : s < 2 ^ x.orders.length := by
    unfold stays at hst
    simp only [Bool.or_eq_false_iff, Bool.not_eq_false'] at hst
    obtain ⟨s', hs', hlt⟩ := exist_spec hst.1.2
    omega
  have hm : Memb x.orders (memS (s : Int)) := memS_in hsn ho62
  simp only [go_sem]
  refine PC.use (sided28_c x (memS (s : Int)) hm (by omega)) ?_
  simp only [go_sem]
  refine acond_i (fun hb3 => ?_) (fun hb3 => ?_)
  · simp only [go_sem]
    rw [if_pos (by simpa using hb3)]
    exact .refl _
  rw [if_neg (by simpa using hb3)]
  have b1 := inB (show 0 < x.types.length by rw [ht2]; simp)
  have hx0 : x.types[0]? = some t := by rw [ht2]; rfl
  have hg0 := getD_map (f := encVType) hx0
  have hd := (h.cap t (by rw [ht2]; simp)).1
  subst hd
  have hld := load11_c x _ s h hsn
  simp only [go_sem]
  refine adraw_m [(0, true), (1, true), (2, true), (3, true), (4, true), (5, true), (6, true), (7, true), (8, true), (9, false), (10, true), (11, true), (12, true), (13, true), (14, true)] (by kernel_rfl) ?_
  simp only [go_sem, List.length_map, hg0]
  refine ⟨by omega, ?_⟩
  refine PC.use hld ?_
  simp only [go_sem]
  have hdl : ((List.range t.cap.length).map fun dim => loadSum x.orders (memS (s : Int)) dim).length = t.cap.length := by simp
  refine ⟨fun ρ H => ∃ (k : Nat), k ≤ t.cap.length ∧ ρ 2 = .rp (encInstance x) 0 ∧ ρ 7 = .sl (((List.range t.cap.length).map fun dim => loadSum x.orders (memS (s : Int)) dim).map encInt) ∧ ρ 8 = int 0 ∧ ρ 9 = int k ∧ ρ 6 = int (dimF x (memS (s : Int)) k), fun ρ _ => t.cap.length - natOf (ρ 9), ⟨0, Nat.zero_le _, by simp only [go_sem], by simp only [go_sem], by simp only [go_sem], (by simp only [go_sem]; rfl), by simp only [go_sem]; rfl⟩, ?_⟩
  rintro ρ H ⟨k, hk, e2, e7, e8, e9, e6⟩
  simp only [go_sem, e2, e7, e8, e9, e6]
  refine acond_i (fun hlt => ?_) (fun hge => ?_)
  · have hkl : k < t.cap.length := by simpa using hlt
    clear hlt
    have hlt := hkl
    have hR := dimF_in h hm hml (k + 1) (by omega)
    have hK := dimF_in h hm hml k (by omega)
    obtain ⟨q0, q1, q2, _⟩ := tripsD_spec h hlt hm
    have hL := loadSum_in h hlt hm
    have hC := capMax_in h hlt x.types.length
    rw [List.take_length] at hC
    have hsucc := dimF_succ x (memS (s : Int)) k
    have hlk : ((List.range t.cap.length).map fun dim => loadSum x.orders (memS (s : Int)) dim)[k]? = some (loadSum x.orders (memS (s : Int)) k) := by
      rw [List.getElem?_map, List.getElem?_range hlt]; rfl
    have hgl := getD_map (f := encInt) hlk
    generalize hG : ((List.range t.cap.length).map fun dim => loadSum x.orders (memS (s : Int)) dim) = G at *
    have bG : 0 ≤ (k : Int) ∧ (k : Int) < (G.length : Int) := by omega
    simp only [go_sem, e2, e7, e8, e9, e6]
    refine PC.use (greatest_c x _ k h hlt) ?_
    simp only [go_sem, e2, e7, e8, e9, e6]
    generalize loadSum x.orders (memS (s : Int)) k = L at *
    generalize capMax x.types k = C at *
    generalize tripsD x (memS (s : Int)) k = T at *
    refine acond_i (fun hc => ?_) (fun hc => ?_)
    · have hT := q1 (by simpa using hc)
      simp only [go_sem, e2, e7, e8, e9, e6, wrapS (show k ≤ 4611686018427387904 by omega)]
      refine ⟨⟨k + 1, hlt, rfl, ?_⟩, by simp only [natOf_int]; omega⟩
      rw [hsucc, hT]; unfold imax; rw [if_neg (by omega)]
    have hc : 1 ≤ C := by simp at hc; omega
    simp only [go_sem, e2, e7, e8, e9, e6]
    refine ⟨fun ρ H => ∃ out : Int, dimF x (memS (s : Int)) k ≤ out ∧ out ≤ dimF x (memS (s : Int)) (k + 1) ∧ ρ 2 = .rp (encInstance x) 0 ∧ ρ 7 = .sl (G.map encInt) ∧ ρ 8 = int 0 ∧ ρ 9 = int k ∧ ρ 10 = int C ∧ ρ 6 = int out, fun ρ _ => (dimF x (memS (s : Int)) (k + 1)).toNat - natOf (ρ 6),
      ⟨dimF x (memS (s : Int)) k, Int.le_refl _, by rw [hsucc]; unfold imax; split <;> omega, by simp only [go_sem, e2, e7, e8, e9, e6], by simp only [go_sem, e2, e7, e8, e9, e6], by simp only [go_sem, e2, e7, e8, e9, e6], by simp only [go_sem, e2, e7, e8, e9, e6], by simp only [go_sem, e2, e7, e8, e9, e6], by simp only [go_sem, e2, e7, e8, e9, e6]⟩, ?_⟩
    clear e2 e7 e8 e9 e6
    rintro ρ H ⟨out, ho1, ho2, e2, e7, e8, e9, e10, e6⟩
    have hmul : out * C ≤ 63001 * 1000 := Int.le_trans (Int.mul_le_mul_of_nonneg_right (by omega : out ≤ 63001) (by omega)) (Int.mul_le_mul_of_nonneg_left hC.2 (by omega))
    have hmul0 : 0 ≤ out * C := Int.mul_nonneg (by omega) (by omega)
    have w1 : IntKind.i64.wrap (out * C) = out * C := wrap_in (by omega)
    simp only [go_sem, e2, e7, e8, e9, e10, e6, hgl, bG, w1]
    refine acond_i (fun hb => ?_) (fun hb => ?_)
    · have hb : L > out * C := by simpa using hb
      have hT : ¬ T ≤ out := fun h => by have := (q2 hc out (by omega)).1 h; omega
      have w2 : IntKind.i64.wrap (out + 1) = out + 1 := wrap_in (by omega)
      have hup : out + 1 ≤ dimF x (memS (s : Int)) (k + 1) := by rw [hsucc] at ho2 ⊢; unfold imax at ho2 ⊢; split at ho2 <;> split <;> omega
      simp only [go_sem, e2, e7, e8, e9, e10, e6, w2]
      exact ⟨⟨out + 1, by omega, hup, rfl⟩, by simp only [natOf_int]; omega⟩
    · have hb : ¬ L > out * C := by simpa using hb
      have hT : T ≤ out := (q2 hc out (by omega)).2 (by omega)
      simp only [go_sem, e2, e7, e8, e9, e10, e6, wrapS (show k ≤ 4611686018427387904 by omega)]
      refine ⟨⟨k + 1, hlt, rfl, ?_⟩, by simp only [natOf_int]; omega⟩
      have : out = dimF x (memS (s : Int)) (k + 1) := by rw [hsucc] at ho2 ⊢; unfold imax at ho2 ⊢; split at ho2 <;> split <;> omega
      rw [this]
  · have hge : k = t.cap.length := by simp at hge; omega
    subst hge
    simp only [go_sem, e2, e7, e8, e9, e6]
    exact .refl _
end Go.Proofs.YtbcfajfngdmgnaaGreatDoor.Nu
end

section
set_option linter.unusedSimpArgs false
set_option linter.unusedVariables false
namespace Go.Proofs.YtbcfajfngdmgnaaGreatDoor.Nu
open Go.Aw Go.Aw.D Go.Proofs Ty Go.Nu Go.Sb Go.RowKit Go.Shelf
attribute [local go_sem] Oper.semAt_some
def KeepB (b : Nat) (A B : World) : Prop := ∀ v, Boxed A b 3 v → Boxed B b 3 v
structure Enum (s N : Nat) (e : Nat → Nat) : Prop where
  pos : 0 < N
  zero : e 0 = 0
  le : ∀ i, e i ≤ s
  mono : ∀ i, i + 1 < N → e i < e (i + 1)
  last : ∀ i, i < N → (e i = s ↔ i + 1 = N)
  step : ∀ i, i + 1 < N → bits .and .i64 (wrap64 ((e i : Int) - (s : Int))) (s : Int) = (e (i + 1) : Nat)
set_option maxRecDepth 100000 in
set_option maxHeartbeats 1000000 in
theorem sub1_in (F : Fence) (n : Nat) (h6 : F.fn 289) (hro : F.round = none) (hn : 1 ≤ n) (l Bn : Nat) (s N : Nat) (e : Nat → Nat) (hE : Enum s N e) (J Jx : List Nat → World → Prop)
    (hY : ∀ pre x W, J pre W → pre.length < N → YieldAt F (n - 1) Tryz.prog l #[.int .i64 (x : Nat)] W fun r W' =>
      (r = .returned (.bool true) ∧ J (pre ++ [x]) W' ∧ KeepB Bn W W') ∨ (r = .returned (.bool false) ∧ Jx (pre ++ [x]) W'))
    (W : World) (hBn : Boxed W Bn 3 (.int .i64 s)) (h0 : J [] W) :
    CallsIn F n Tryz.prog 289 #[.func (.yield l) #[] #[], .pointer (some ⟨Bn, 0, none⟩)] W fun r W' => (∃ v, r = .returned v) ∧
      ((∃ ys, ys = (List.range N).map e ∧ J ys W') ∨ (∃ pre, pre <+: (List.range N).map e ∧ Jx pre W')) := by
  refine callsIn_of_wp Tryz.func289 rfl h6 ?_ hro
  simp only [Tryz.ntmps289, List.size_toArray, List.length_cons, List.length_nil, Nat.reduceAdd, Nat.reduceSub, Array.replicate_succ, Array.replicate_zero, List.push_toArray, List.append_toArray, List.nil_append, List.cons_append]
  gi_wp2
  gi_loopw [3] (fun p wr => ∃ i v : Nat, p = .int .i64 (v : Nat) ∧ e i = v ∧ i < N ∧ Boxed wr Bn 3 (.int .i64 s) ∧ J ((List.range i).map e) wr)
    (fun p wr => s - (intOf p).toNat)
  case atStart =>
    exact ⟨0, 0, rfl, hE.zero, hE.pos, hBn, h0⟩
  case round =>
    obtain ⟨i, v, rfl, hv, hi, hB, hJs⟩ := hrel
    have hpre : (List.range i).map e ++ [v] = (List.range (i + 1)).map e := by rw [List.range_succ, List.map_append, ← hv]; rfl
    obtain ⟨fn, tmps, assign, body, hy, hR⟩ := hY _ v wr hJs (by simp; exact hi)
    gi_wp2
    refine hR.mono ?_
    rintro r W3 (⟨rfl, hJ3, hk3⟩ | ⟨rfl, hJx3⟩)
    · have hB3' := hk3 _ hB
      have hB3 := hB3'.cell
      gi_wp2
      · have hx : v ≠ s := fun h => by subst h; rename_i hh; simp at hh
        have hi1 : i + 1 < N := by
          rcases (by omega : i + 1 < N ∨ i + 1 = N) with h | h
          · exact h
          · exact absurd (hv ▸ (hE.last i hi).2 h) hx
        have hst := hE.step i hi1
        have hmo := hE.mono i hi1
        have hle := hE.le (i + 1)
        rw [hv] at hst hmo
        rw [hst]
        refine ⟨⟨i + 1, e (i + 1), rfl, rfl, hi1, hB3', hpre ▸ hJ3⟩, ?_⟩
        simp only [intOf]
        omega
      · have hx : v = s := by rename_i hh; simp at hh; omega
        have hN : i + 1 = N := (hE.last i hi).1 (hv.trans hx)
        go_end0
        exact ⟨⟨_, rfl⟩, .inl ⟨_, rfl, by rw [← hN, ← hpre]; exact hJ3⟩⟩
    · gi_wp2
      go_end0
      refine ⟨⟨_, rfl⟩, .inr ⟨_, ?_, hJx3⟩⟩
      rw [hpre]
      rw [show List.range (i + 1) = (List.range N).take (i + 1) by rw [List.take_range, Nat.min_eq_left (by omega)], List.map_take]
      exact List.take_prefix _ _
set_option maxHeartbeats 1000000 in
theorem subs_in (F : Fence) (n : Nat) (h5 : F.fn 258) (hro : F.round = none) (s : Nat) (w : World) :
    CallsIn F n Tryz.prog 258 #[.int .i64 s] w fun e w' => e = .returned (.func (.func 289) #[] #[.pointer (some ⟨w.heap.size, 0, none⟩)]) ∧ w' = w.alloc (.cells #[.int .i64 s] 3) := by
  refine callsIn_of_wp Tryz.func258 rfl h5 ?_ hro
  simp only [Tryz.ntmps258, List.size_toArray, List.length_cons, List.length_nil, Nat.reduceAdd, Nat.reduceSub, Array.replicate_succ, Array.replicate_zero, List.push_toArray, List.append_toArray, List.nil_append, List.cons_append]
  gi_wp2
  go_ret
  exact ⟨rfl, rfl⟩
theorem sub_stops (F : Fence) (n : Nat) (h6 : F.fn 289) (hro : F.round = none) (hn : 1 ≤ n) (Bn : Nat) (s N : Nat) (e : Nat → Nat) (hE : Enum s N e) (w : World) (hc : Boxed w Bn 3 (.int .i64 s)) :
    SeqStopsK F n Tryz.prog 289 #[.pointer (some ⟨Bn, 0, none⟩)] (fun x : Nat => #[Value.int .i64 x]) (KeepB Bn) (fun ys => ys = (List.range N).map e) (fun pre => pre <+: (List.range N).map e) N w := fun l J Jx W hW _ _ hY h0 =>
  sub1_in F n h6 hro hn l Bn s N e hE J Jx hY W ((hW.block Bn hc.lt).trans hc) h0
theorem keepB_t {b : Nat} {A B C : World} (h : KeepB b A B) (k : KeepB b B C) : KeepB b A C := fun v hv => k v (h v hv)
theorem keepB_b {b : Nat} (W : World) (l : Nat) (o o' : Obj) (hl : W.heap[l]? = some o) (ho : o.isCells = false) : KeepB b W (W.putObj l o') := fun v hv =>
  hv.kept (grownBy_putObj' W l o') (fun e => by
    cases e
    rw [show W.heap[b]? = _ from hv] at hl
    cases hl
    cases ho)
theorem ownsRow_weak {W : World} {b b' : Nat} {e : TypeId} {size : Nat} {v : Value} {k : Nat} {xs : List Value} (h : W.ownsRow b e size v k xs) (hb : b' ≤ b) : W.ownsRow b' e size v k xs := by
  refine ⟨h.1, ?_⟩
  rcases h.2 with h0 | ⟨g, cap, cur, hv, hg, r⟩
  · exact .inl h0
  · exact .inr ⟨g, cap, cur, hv, Nat.le_trans hb hg, r⟩
theorem always_in (F : Fence) (n : Nat) (h5 : F.fn 212) (hro : F.round = none) (s : Nat) (w : World) :
    CallsIn F n Tryz.prog 212 #[.int .i64 s] w fun e w' => e = .returned (.bool true) ∧ w' = w := by
  refine callsIn_of_wp Tryz.func212 rfl h5 ?_ hro
  simp only [Tryz.ntmps212, List.size_toArray, List.length_cons, List.length_nil, Nat.reduceAdd, Nat.reduceSub, Array.replicate_succ, Array.replicate_zero, List.push_toArray, List.append_toArray, List.nil_append, List.cons_append]
  gi_wp2
  go_ret
  exact ⟨rfl, rfl⟩
theorem slice_of {W : World} {base : Nat} {e : TypeId} {size : Nat} {v : Value} {k : Nat} {xs : List Value} (h : W.ownsRow base e size v k xs) : ∃ ad cap, v = .slice ad k cap := by
  rcases h.2 with ⟨rfl, h0⟩ | ⟨g, cap, _, rfl, _⟩
  · exact ⟨none, 0, by rw [h0]⟩
  · exact ⟨_, cap, rfl⟩
theorem infoInt : (Tryz.prog.info? 3).map (fun i => (i.zero, i.size, i.bytes)) = some (some (.int .i64 0), 1, 8) := by kernel_rfl
set_option maxRecDepth 100000 in
set_option maxHeartbeats 4000000 in
theorem such_in (F : Fence) (n : Nat) (h0 : F.fn 211) (h3 : F.fn 212) (h4 : F.fn 258) (h5 : F.fn 289) (hro : F.round = none) (hn : 3 ≤ n) (s N : Nat) (e : Nat → Nat) (hE : Enum s N e) (hN : N ≤ 8192) (w : World) :
    CallsIn F n Tryz.prog 211 #[.int .i64 s, .func (.func 212) #[] #[]] w fun r W' => ∃ v, r = .returned (.tuple #[v, .int .i64 0]) ∧ W'.ownsRow w.heap.size 3 1 v N (((List.range N).map e).map fun x : Nat => Value.int .i64 x) ∧ Below w.heap.size w W' := by
  have h1 : 1 ≤ n := by omega
  obtain ⟨i0, hi, hz0, hz1, hz2⟩ := info_parts infoInt
  refine callsIn_of_wp_marks Tryz.func211 rfl h0 ?_ hro
  simp only [Tryz.ntmps211, List.size_toArray, List.length_cons, List.length_nil, Nat.reduceAdd, Nat.reduceSub, Array.replicate_succ, Array.replicate_zero, List.push_toArray, List.append_toArray, List.nil_append, List.cons_append]
  gi_wp2_with (gi_at_call 258; refine (subs_in F (n - 1) h4 hro s _).mono ?_; rintro r w' ⟨rfl, rfl⟩)
  have bH := Boxed.new w 193 (.func (.func 212) #[] #[])
  have bR := Boxed.new (w.alloc (.cells #[.func (.func 212) #[] #[]] 193)) 51 (.slice none 0 0)
  have bE := Boxed.new ((w.alloc (.cells #[.func (.func 212) #[] #[]] 193)).alloc (.cells #[.slice none 0 0] 51)) 29 (.int .i64 0)
  have bO := Boxed.new (((w.alloc (.cells #[.func (.func 212) #[] #[]] 193)).alloc (.cells #[.slice none 0 0] 51)).alloc (.cells #[.int .i64 0] 29)) 51 (.slice none 0 0)
  have bS := Boxed.new ((((w.alloc (.cells #[.func (.func 212) #[] #[]] 193)).alloc (.cells #[.slice none 0 0] 51)).alloc (.cells #[.int .i64 0] 29)).alloc (.cells #[.slice none 0 0] 51)) 3 (.int .i64 s)
  simp only [World.size_alloc] at bR bE bO bS
  have hB0 : Below w.heap.size w (((((w.alloc (.cells #[.func (.func 212) #[] #[]] 193)).alloc (.cells #[.slice none 0 0] 51)).alloc (.cells #[.int .i64 0] 29)).alloc (.cells #[.slice none 0 0] 51)).alloc (.cells #[.int .i64 s] 3)) :=
    (((((Below.refl _ w).alloc (Nat.le_refl _) _).alloc (by simp) _).alloc (by simp; omega) _).alloc (by simp; omega) _).alloc (by simp; omega) _
  refine wpIn_rangeFunc_ownG hro h1 (gf := 289) (lb := #[.pointer (some ⟨w.heap.size + 1 + 1 + 1 + 1, 0, none⟩)]) rfl h5 (enters_of Tryz.func289 (by kernel_rfl) rfl)
    (sub_stops F (n - 1) h5 hro (by omega) (w.heap.size + 1 + 1 + 1 + 1) s N e hE _ bS) (fun h k => keepB_t h k) (fun W l o o' _ hl ho _ => keepB_b W l o o' hl ho) (Below.refl _ _) (fun _ => rfl)
    (fun pre W => (((((∃ v, Boxed W (w.heap.size + 1 + 1 + 1) 51 v ∧ W.ownsRow (w.heap.size + 1 + 1 + 1 + 1 + 1) 3 1 v pre.length (pre.map fun x : Nat => Value.int .i64 x) ∧ True) ∧ Boxed W w.heap.size 193 (.func (.func 212) #[] #[])) ∧ Boxed W (w.heap.size + 1) 51 (.slice none 0 0)) ∧ Boxed W (w.heap.size + 1 + 1) 29 (.int .i64 0)) ∧ Boxed W (w.heap.size + 1 + 1 + 1 + 1) 3 (.int .i64 s)) ∧ Below w.heap.size w W)
    (fun _ _ _ => False)
    (OwnFrom.and (OwnFrom.and (OwnFrom.and (OwnFrom.and (OwnFrom.and (Own.from (holdsRow_own (w.heap.size + 1 + 1 + 1 + 1 + 1) (w.heap.size + 1 + 1 + 1) 51 3 1 (fun pre : List Nat => pre.length) (fun pre => pre.map fun x : Nat => Value.int .i64 x) (fun _ _ => True)) _) (Own.from (boxed_own _ _ _) _)) (Own.from (boxed_own _ _ _) _)) (Own.from (boxed_own _ _ _) _)) (Own.from (boxed_own _ _ _) _)) (ownFrom_below (Nat.le_refl _) (by simp; omega)))
    (fun _ _ _ _ _ hs _ _ => hs)
    ⟨⟨⟨⟨⟨⟨_, bO.alloc _, World.ownsRow_nil _ _ _ _, trivial⟩, (((bH.alloc _).alloc _).alloc _).alloc _⟩, ((bR.alloc _).alloc _).alloc _⟩, (bE.alloc _).alloc _⟩, bS⟩, hB0⟩
    (fun x => { tmps := #[.int .i64 s, .func (.func 212) #[] #[], undef, .pointer (some ⟨w.heap.size, 0, none⟩), .pointer (some ⟨w.heap.size + 1, 0, none⟩), .pointer (some ⟨w.heap.size + 1 + 1, 0, none⟩), .pointer (some ⟨w.heap.size + 1 + 1 + 1, 0, none⟩), .int .i64 x, .int .i64 s, .func (.func 289) #[] #[.pointer (some ⟨w.heap.size + 1 + 1 + 1 + 1, 0, none⟩)], .int .i64 x, undef, undef, undef, undef, undef, undef, undef, undef, undef, undef, undef, undef], defers := [] }) ?assign ?body ?done ?stop
  case assign =>
    intro l x W K hK
    gi_wp2
    exact hK
  case body =>
    rintro l pre x W ⟨⟨⟨⟨⟨⟨v, hv, hrow, _⟩, hh⟩, hr⟩, he⟩, hS⟩, hB⟩ hlt
    have hSl := hS.lt
    have hc := hv.cell
    have hhc := hh.cell
    have hd : 1 ≤ n - 1 - 1 := by omega
    have hlen8 : ((pre.length : Int) == 8192) = false := by rw [beq_eq_false_iff_ne]; omega
    obtain ⟨ad, cap, rfl⟩ := slice_of hrow
    gi_wp2_with (first | (gi_at_call 212; refine (CallsIn.inRound l (always_in F _ h3 hro x _)).mono ?_; rintro r w' ⟨rfl, rfl⟩) | (gi_at_builtin; refine wpListIn_append_own _ rfl _ _ 51 rfl (w.heap.size + 1 + 1 + 1 + 1 + 1) 3 i0 (.int .i64 0) 1 8 Tryz.underlying51 hi hz0 hz1 hz2 rfl (by decide) _ _ _ rfl (hrow.alloc _) ⟨w'.heap.size, 0, none⟩ 1 1 [.int .i64 x] rfl rfl (cell_one_new _ _ _) (by simp [Value.oneCell']) (by simp [maxLen]; omega) (by omega) (by simp; omega) ?_; intro v' w1 hown' hgrow _; obtain ⟨g', cap', rfl⟩ := ownsRow_succ hown'; obtain ⟨hv1, hv2, hr2, hk2, hb2⟩ := hv.appended (by decide) (ownsRow_weak hrow (show w.heap.size ≤ _ by omega)) hB.size (by omega) (ownsRow_weak hown' (show w.heap.size ≤ _ by omega)) hgrow; have hc1 := hv1.cell; have hf1 := hv1.frozen))
    have hrow' := hown'.kept (grownBy_setCell' w1 (w.heap.size + 1 + 1 + 1) (.slice (some ⟨g', 0, none⟩) (pre.length + 1) cap')) (.inr (hv1.not_row (by decide) hown').symm)
    have hgrow' : (w'.alloc (.cells #[.int .i64 x] 3)).grownBy w1 (Value.slice ad pre.length cap).ownBlock := hgrow
    have other : ∀ {b : Nat} {t : TypeId} {u : Value}, b < w.heap.size + 1 + 1 + 1 + 1 + 1 → b ≠ w.heap.size + 1 + 1 + 1 → Boxed w' b t u → Boxed (w1.setCell ⟨w.heap.size + 1 + 1 + 1, 0, none⟩ (.slice (some ⟨g', 0, none⟩) (pre.length + 1) cap')) b t u := by
      intro b t u hb hne hbx
      refine Boxed.other ((hbx.alloc _).kept hgrow' (fun e => ?_)) hne _
      rcases hrow.2 with ⟨h0, _⟩ | ⟨g, cap2, cur, h0, hg, _⟩
      · rw [h0] at e; simp [Value.ownBlock] at e
      · rw [h0] at e
        have : b = g := by simpa [Value.ownBlock] using e
        omega
    have hxs : List.map (fun x : Nat => Value.int .i64 x) (pre ++ [x]) = List.map (fun x : Nat => Value.int .i64 x) pre ++ [Value.int .i64 x] := by simp
    refine ⟨hk2.from _, fun u hu => other (by omega) (by omega) hu, ⟨⟨⟨⟨⟨_, hv2, ?_, trivial⟩, other (by omega) (by omega) hh⟩, other (by omega) (by omega) hr⟩, other (by omega) (by omega) he⟩, other (by omega) (by omega) hS⟩, hB.trans hb2⟩
    rw [hxs, List.length_append]
    exact hrow'
  case done =>
    rintro D ys W hD rfl ⟨⟨⟨⟨⟨⟨v, hv, hrow, _⟩, hh⟩, hr⟩, he⟩, hS⟩, hB⟩ hK
    have hc := hv.cell
    obtain ⟨ad, cap, rfl⟩ := slice_of hrow
    have hrc := hr.cell
    have hrf := hr.frozen
    have hec := he.cell
    have hef := he.frozen
    gi_wp2
    have hr2 := (hr.set (.slice ad N cap)).other (show w.heap.size + 1 ≠ w.heap.size + 1 + 1 by omega) (.int .i64 0)
    have he2 := (he.other (show w.heap.size + 1 + 1 ≠ w.heap.size + 1 by omega) (.slice ad N cap)).set (.int .i64 0)
    have hlenN : ((List.range N).map e).length = N := by simp
    rw [hlenN] at hrow
    have ho2 := ownsRow_setCell_below (ownsRow_setCell_below hrow (a := ⟨w.heap.size + 1, 0, none⟩) (by show w.heap.size + 1 < _; omega) (.slice ad N cap)) (a := ⟨w.heap.size + 1 + 1, 0, none⟩) (by show w.heap.size + 1 + 1 < _; omega) (.int .i64 0)
    have hB2 := (hB.setCell (p := ⟨w.heap.size + 1, 0, none⟩) (by show w.heap.size ≤ w.heap.size + 1; omega) (.slice ad N cap)).setCell (p := ⟨w.heap.size + 1 + 1, 0, none⟩) (by show w.heap.size ≤ w.heap.size + 1 + 1; omega) (.int .i64 0)
    have hK2 := ((KeepsOthers.setCell W ⟨w.heap.size + 1, 0, none⟩ (.slice ad N cap)).trans (KeepsOthers.setCell _ ⟨w.heap.size + 1 + 1, 0, none⟩ (.int .i64 0))).same D _ hK rfl
    generalize (W.setCell ⟨w.heap.size + 1, 0, none⟩ (.slice ad N cap)).setCell ⟨w.heap.size + 1 + 1, 0, none⟩ (.int .i64 0) = W2 at *
    refine ⟨by simp, .inl ⟨_, _, rfl, run_takeDeferred hK2, ?_⟩⟩
    have c1 := cell_kept hr2.cell (grownBy_putObj' _ D (.deferred none)) (fun r e => by cases e; exact ⟨_, hK2, rfl⟩)
    have c2 := cell_kept he2.cell (grownBy_putObj' _ D (.deferred none)) (fun r e => by cases e; exact ⟨_, hK2, rfl⟩)
    refine ⟨.tuple #[.slice ad N cap, .int .i64 0], ?_, _, rfl, ownsRow_weak (ownsRow_putObj ho2 _ hK2 rfl) (by omega), hB2.trans (belowK_b (w := w) (Nat.le_refl _) W2 D _ _ (by simp at hD; omega) hK2 rfl rfl)⟩
    simp [results, Tryz.f211, go_sem, c1, c2]
  case stop =>
    rintro D c pre W _ _ h _
    exact h.elim
end Go.Proofs.YtbcfajfngdmgnaaGreatDoor.Nu
end

section
set_option linter.unusedSimpArgs false
set_option linter.unusedVariables false
namespace Go.Proofs.YtbcfajfngdmgnaaGreatDoor.Nu
open Go.Aw Go.Aw.D Go.Proofs Ty Go.Nu Go.Sb Go.RowKit
set_option maxRecDepth 100000
theorem els_cells {S : Sg} {w : World} {g : Nat} : ∀ (xs : List Nat) (o : Nat), (∀ i x, xs[i]? = some x → w.cell? ⟨g, o + i, none⟩ = some (.int .i64 (x : Nat))) → elsAt S w g 1 o (xs.map fun x : Nat => encInt (x : Int))
  | [], _, _ => by simp [elsAt]
  | x :: xs, o, h => by
    simp only [List.map_cons, elsAt]
    refine ⟨rfl, ?_, els_cells xs (o + 1) fun i y hy => by have := h (i + 1) y (by simpa using hy); rw [show o + 1 + i = o + (i + 1) by omega]; exact this⟩
    simp only [encInt, cellsAt]
    exact ⟨⟨_, by have := h 0 x rfl; simpa using this, rfl, by simp [rep]⟩, trivial⟩
theorem PC.libRow {f : FuncId} {a : List Value} {xs : List Nat} {t : TypeId} (h0 : xs ≠ []) (h : ∀ w, Calls Tryz.prog f a.toArray w fun r w' => ∃ v, r = .returned (.tuple #[v, .int .i64 0]) ∧ w'.ownsRow w.heap.size t 1 v xs.length (xs.map fun x : Nat => Value.int .i64 x) ∧ Below w.heap.size w w') :
    PC Tryz.prog f (a.map .v) (.tup [.sl (xs.map fun x : Nat => encInt (x : Int)), int 0]) := by
  intro S w vals hS hf ha
  obtain rfl : vals = a := by
    clear h
    induction a generalizing vals with
    | nil =>
      cases vals with
      | nil => rfl
      | cons x r => simp [repL] at ha
    | cons x a ih =>
      simp only [List.map_cons, repL] at ha
      obtain ⟨u, t, rfl, h1, h2⟩ := ha
      simp only [rep] at h1
      subst h1
      rw [ih t h2]
  refine (h w).mono fun e w' ⟨v, he, hr, hb⟩ => ?_
  have hne : xs.length ≠ 0 := fun h => h0 (List.length_eq_zero_iff.1 h)
  rcases hr.2 with ⟨_, hz⟩ | ⟨g, cap, cur, rfl, hg, hgb, hc1, hc2, hc3, hc4⟩
  · exact absurd hz hne
  have hcell := hr.cellAt
  have hgl : g < w'.heap.size := (Array.getElem?_eq_some_iff.1 hgb).1
  have hkept : Kept S w w' := fun k hk => hb.block k (hS.fz_lt k (hS.ro_fz k hk))
  have hel : elsAt (S.addRo g) w' g 1 0 (xs.map fun x : Nat => encInt (x : Int)) := by
    refine els_cells xs 0 fun i x hx => ?_
    have hi := (List.getElem?_eq_some_iff.1 hx).1
    rw [Nat.zero_add, hcell i (by omega), List.getElem?_map, hx]; rfl
  refine ⟨_, _, noRows, S.addRo g, he, rfl, ⟨?_, ?_, fun k r hk => by simp [noRows] at hk, fun k r hk => by simp [noRows] at hk, fun k k' r r' hk => by simp [noRows] at hk, hS.tabs.keep (S.le_addRo g) hkept⟩, ?_, ⟨S.le_addRo g, fun k hk => .inl hk, hb.os, hb.tape, hb.output, hb.size, fun k hk => hb.block k (hS.fz_lt k hk), ?_⟩, NewK.refl _ _⟩
  · rintro k (hk | hk)
    · exact .inl (hS.ro_fz k hk)
    · exact .inr hk
  · rintro k (hk | rfl)
    · exact Nat.lt_of_lt_of_le (hS.fz_lt k hk) hb.size
    · exact hgl
  · simp only [rep, repL]
    refine ⟨[_, _], rfl, _, [_], rfl, ⟨_, _, _, rfl, by simp, hc1, hc2, .inr ⟨g, 0, 1, rfl, .inr rfl, by decide, hel⟩⟩, _, [], rfl, rfl, rfl⟩
  · rintro k (hk | rfl)
    · exact .inl hk
    · exact .inr fun hk => by have := hS.fz_lt _ hk; omega
theorem enum_dep {s : Nat} (hs : s < 2 ^ 62) : Enum s (2 ^ pop 64 s) (dep 64 s) where
  pos := Nat.two_pow_pos _
  zero := dep_zero _ _
  le := dep_le _ _
  mono i h := dep_mono _ _ _ _ (by omega) h
  last i h := by
    constructor
    · intro e
      have h2 := dep_top (w := 64) (s := s) (by omega)
      have := dep_inj h (by omega) (e.trans h2.symm)
      omega
    · intro e
      have h2 := dep_top (w := 64) (s := s) (by omega)
      rw [show i = 2 ^ pop 64 s - 1 by omega]; exact h2
  step i h := by
    have h1 := dep_step 64 s i (by omega) h
    have hle := dep_le 64 s i
    have hle2 := dep_le 64 s (i + 1)
    have hmo := dep_mono 64 s i (i + 1) (by omega) h
    have hw : wrap64 ((dep 64 s i : Int) - (s : Int)) = (dep 64 s i : Int) - (s : Int) := by unfold wrap64; omega
    rw [hw]
    show IntKind.i64.wrap ((BitVec.ofInt 64 ((dep 64 s i : Int) - (s : Int)) &&& BitVec.ofInt 64 (s : Int)).toNat : Nat) = _
    rw [BitVec.toNat_and, BitVec.toNat_ofInt, BitVec.toNat_ofInt]
    have e1 : (((dep 64 s i : Int) - (s : Int)) % ((2 ^ 64 : Nat) : Int)).toNat = dep 64 s i + 2 ^ 64 - s := by
      rw [← Int.add_emod_right]
      rw [Int.emod_eq_of_lt (by omega) (by omega)]
      omega
    have e2 : ((s : Int) % ((2 ^ 64 : Nat) : Int)).toNat = s := by omega
    rw [e1, e2, h1]
    exact wrap_in (by omega)
theorem setsSuch_c (s : Nat) (hs : s < 2 ^ 62) (hN : 2 ^ pop 64 s ≤ 8192) : PC Tryz.prog 211 [int s, .v (.func (.func 212) #[] #[])] (.tup [.sl ((subsL s).map fun x : Nat => encInt (x : Int)), int 0]) := by
  have hne : subsL s ≠ [] := by
    intro h
    have := congrArg List.length h
    simp [subsL] at this
  refine PC.libRow (a := [.int .i64 s, .func (.func 212) #[] #[]]) (t := 3) hne fun w => ?_
  have hlen : (subsL s).length = 2 ^ pop 64 s := by simp [subsL]
  rw [hlen]
  exact (callsIn_wide (n := 3)).1 (such_in Fence.wide 3 trivial trivial trivial trivial rfl (by omega) s _ _ (enum_dep hs) hN w)
theorem subsets_c (s : Nat) (hs : s < 2 ^ 62) (hN : 2 ^ pop 64 s ≤ 8192) : PC Tryz.prog 144 [int s] (.tup [.sl ((subsL s).map fun x : Nat => encInt (x : Int)), int 0]) := by
  refine PC.body (c := Tryz.f144.body.getD .skip) (fun _ => false) mixed Tryz.func144 rfl (by kernel_rfl) ?_
  unfold Tryz.f144
  simp only [Option.getD_some]
  simp only [go_sem]
  refine acond_i (fun hb => by have := of_decide_eq_true hb; omega) (fun hb => ?_)
  simp only [go_sem]
  refine PC.use (setsSuch_c s hs hN) ?_
  simp only [go_sem]
  exact .refl _
end Go.Proofs.YtbcfajfngdmgnaaGreatDoor.Nu
end
