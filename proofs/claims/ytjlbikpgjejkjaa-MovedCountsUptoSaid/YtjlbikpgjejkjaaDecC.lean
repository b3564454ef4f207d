/- decide: the set of a route; whether routes fulfil a decision. -/
import Derived.Test.YtjlbikpgjejkjaaDecB
set_option linter.unusedSimpArgs false
set_option linter.unusedVariables false
namespace Go.Proofs.Ytjlbikpgjejkjaa.Dec
open Go.Aw Go.Aw.D Go.Proofs Ty
set_option maxRecDepth 100000

def setN (l : List Visit) : Nat := l.foldl (fun s v => s ||| 2 ^ v.order.toNat) 0
theorem setN_app (l : List Visit) (v : Visit) : setN (l ++ [v]) = setN l ||| 2 ^ v.order.toNat := by simp [setN]
theorem setN_lt {m : Nat} (l : List Visit) (h : ∀ v ∈ l, v.order.toNat < m) : setN l < 2 ^ m := by
  suffices ∀ (l : List Visit) (s : Nat), s < 2 ^ m → (∀ v ∈ l, v.order.toNat < m) → l.foldl (fun s v => s ||| 2 ^ v.order.toNat) s < 2 ^ m from this l 0 (Nat.two_pow_pos m) h
  intro l
  induction l with
  | nil => intro s hs _; exact hs
  | cons v r ih =>
    intro s hs h
    rw [List.foldl_cons]
    exact ih _ (Nat.or_lt_two_pow hs (Nat.pow_lt_pow_right (by decide) (h v (by simp)))) fun v hv => h v (by simp [hv])
theorem setN_bit (l : List Visit) (i : Nat) : (setN l).testBit i = l.any fun v => v.order.toNat == i := by
  suffices ∀ (l : List Visit) (s : Nat), (l.foldl (fun s v => s ||| 2 ^ v.order.toNat) s).testBit i = (s.testBit i || l.any fun v => v.order.toNat == i) from by
    have := this l 0
    simpa [setN] using this
  intro l
  induction l with
  | nil => intro s; simp
  | cons v r ih =>
    intro s
    rw [List.foldl_cons, ih, Nat.testBit_or, Nat.testBit_two_pow, List.any_cons, Bool.or_assoc]
    rfl
theorem hasN_nat (s : Nat) (i : Int) : hasN (s : Int) i = s.testBit i.toNat := by
  rw [Nat.testBit_eq_decide_div_mod_eq]
  unfold hasN
  have : ((s : Int) / 2 ^ i.toNat) = ((s / 2 ^ i.toNat : Nat) : Int) := by
    have h3 : ((2 : Int) ^ i.toNat) = ((2 ^ i.toNat : Nat) : Int) := by norm_cast
    rw [h3]; rfl
  rw [this]
  generalize s / 2 ^ i.toNat = m
  rw [Bool.eq_iff_iff]
  simp only [beq_iff_eq, decide_eq_true_eq]
  omega
theorem or_self_bit {s i : Nat} (h : s.testBit i = true) : s ||| 2 ^ i = s := by
  apply Nat.eq_of_testBit_eq
  intro j
  rw [Nat.testBit_or, Nat.testBit_two_pow]
  by_cases e : i = j
  · subst e; simp [h]
  · simp [e]
theorem or_new_bit {s i : Nat} (hs : s < 2 ^ 62) (hi : i < 62) (h : s.testBit i = false) : s ||| 2 ^ i = s + 2 ^ i := by
  have hp : 2 ^ i < 2 ^ 62 := Nat.pow_lt_pow_right (by decide) hi
  have h0 : BitVec.ofNat 64 s &&& BitVec.ofNat 64 (2 ^ i) = 0#64 := by
    apply BitVec.eq_of_toNat_eq
    rw [BitVec.toNat_and, BitVec.toNat_ofNat, BitVec.toNat_ofNat, Nat.mod_eq_of_lt (by omega), Nat.mod_eq_of_lt (by omega)]
    apply Nat.eq_of_testBit_eq
    intro j
    rw [Nat.testBit_and, Nat.testBit_two_pow]
    by_cases e : i = j
    · subst e; simp [h]
    · simp [e]
  have h1 := congrArg BitVec.toNat (BitVec.add_eq_or_of_and_eq_zero (BitVec.ofNat 64 s) (BitVec.ofNat 64 (2 ^ i)) h0)
  rw [BitVec.toNat_add, BitVec.toNat_or, BitVec.toNat_ofNat, BitVec.toNat_ofNat, Nat.mod_eq_of_lt (by omega : s < 2 ^ 64), Nat.mod_eq_of_lt (by omega : 2 ^ i < 2 ^ 64), Nat.mod_eq_of_lt (by omega)] at h1
  exact h1.symm

def okV (v : Visit) : Bool := !(decide (v.order < 0) || decide (v.order > 62))
def ordersV (l : List Visit) : Int × Int := if l.all okV then (((setN l : Nat) : Int), 0) else (0, 2)
theorem orders_c (r : Route) (hr : r.visits.length ≤ 1048576) : PC Try.prog 66 [.agg (encRoute r)] (.tup [int (ordersV r.visits).1, int (ordersV r.visits).2]) := by
  refine PC.body (c := Try.f66.body.getD .skip) (fun _ => false) mixed Try.func66 rfl (by kernel_rfl) ?_
  unfold Try.f66
  simp only [Option.getD_some]
  simp only [go_sem]
  refine ⟨fun ρ _ => ∃ k : Nat, k ≤ r.visits.length ∧ ρ 8 = .sl (r.visits.map encVisit) ∧ ρ 9 = int r.visits.length ∧ ρ 10 = int k ∧ ρ 4 = int (setN (r.visits.take k) : Nat) ∧ ∀ v ∈ r.visits.take k, okV v = true, fun ρ _ => r.visits.length - natOf (ρ 10), ⟨0, Nat.zero_le _, rfl, rfl, rfl, rfl, by simp⟩, ?_⟩
  rintro ρ H ⟨k, hk, h8, h9, h10, h4, hz⟩
  simp only [go_sem, h8, h9, h10, h4]
  refine acond_i (fun hlt => ?_) (fun hge => ?_)
  · have hlt := le_of_lt_b hlt
    obtain ⟨v, hv⟩ := getIn hlt
    have b1 := inB hlt
    simp only [go_sem, h8, h9, h10, h4, getD_map hv, b1]
    refine anew_i fun j hj => ?_
    simp only [go_sem, h8, h9, h10, h4, getD_map hv, b1]
    refine wputE_n (updH_same _ _ _) (by simp [encVisit_len]) ?_
    simp only [go_sem, h8, h9, h10, h4, getD_map hv, b1]
    refine acond_i (fun hb => ?_) (fun hb => ?_)
    · simp only [go_sem]
      have : ordersV r.visits = (0, 2) := by unfold ordersV; rw [all_hit hv (by unfold okV; rw [hb]; rfl)]; rfl
      rw [this]; exact .refl _
    · have hok : okV v = true := by unfold okV; rw [hb]; rfl
      have hr2 : 0 ≤ v.order ∧ v.order ≤ 62 := by simp [okV] at hok; omega
      have hlt63 : setN (r.visits.take k) < 2 ^ 63 := setN_lt _ fun v hv => by have := hz v hv; simp [okV] at this; omega
      have e1 := shl_in (i := v.order.toNat) (by omega)
      rw [Int.toNat_of_nonneg hr2.1] at e1
      have e2 := or_nat (a := setN (r.visits.take k)) (b := 2 ^ v.order.toNat) hlt63 (Nat.pow_lt_pow_right (by decide) (by omega))
      simp only [go_sem, h8, h9, h10, h4, getD_map hv, b1, e1, e2, wrapS (show k ≤ 4611686018427387904 by omega)]
      refine ⟨hr2.1, ⟨k + 1, hlt, rfl, ?_, take_all hv hok hz⟩, by simp only [natOf_int]; omega⟩
      rw [take_succ hv, setN_app]
  · have hge := eq_of_ge_b hk hge
    subst hge
    simp only [go_sem, h4]
    have : ordersV r.visits = (((setN r.visits : Nat) : Int), 0) := by unfold ordersV; rw [all_none hz]; rfl
    rw [this, List.take_length]
    exact .refl _
theorem set_c (r : Route) (hr : r.visits.length ≤ 1048576) (hv : ∀ v ∈ r.visits, 0 ≤ v.order ∧ v.order ≤ 61) : PC Try.prog 74 [.agg (encRoute r)] (int (setN r.visits : Nat)) := by
  refine PC.body (c := Try.f74.body.getD .skip) (fun _ => false) mixed Try.func74 rfl (by kernel_rfl) ?_
  unfold Try.f74
  simp only [Option.getD_some]
  simp only [go_sem]
  refine ⟨fun ρ _ => ∃ k : Nat, k ≤ r.visits.length ∧ ρ 1 = .rp (encRoute r) 0 ∧ ρ 4 = int k ∧ ρ 3 = int (setN (r.visits.take k) : Nat), fun ρ _ => r.visits.length - natOf (ρ 4), ⟨0, Nat.zero_le _, rfl, rfl, rfl⟩, ?_⟩
  rintro ρ H ⟨k, hk, h1, h4, h3⟩
  simp only [go_sem, h1, h4, h3]
  refine acond_i (fun hlt => ?_) (fun hge => ?_)
  · have hlt := le_of_lt_b hlt
    obtain ⟨v, hvk⟩ := getIn hlt
    have b1 := inB hlt
    have hv2 := hv v (List.mem_of_getElem? hvk)
    have hs : setN (r.visits.take k) < 2 ^ 62 := setN_lt _ fun v hm => by have := hv v (List.mem_of_mem_take hm); omega
    simp only [go_sem, h1, h4, h3, getD_map hvk, b1]
    refine PC.use (has29_c _ _ (by omega) (by omega) (by omega)) ?_
    simp only [go_sem, h1, h4, h3, getD_map hvk, b1, hasN_nat]
    refine acond_joinL (fun ρ' _ => ρ' 1 = .rp (encRoute r) 0 ∧ ρ' 4 = int k ∧ ρ' 3 = int (setN (r.visits.take (k + 1)) : Nat)) ?_ fun K hK _ _ => acond_i (fun hb => ?_) (fun hb => ?_)
    · clear h1 h4 h3
      rintro ρ H ⟨h1, h4, h3⟩
      simp only [go_sem, h1, h4, h3, wrapS (show k ≤ 4611686018427387904 by omega)]
      exact ⟨⟨k + 1, hlt, rfl, rfl⟩, by simp only [natOf_int]; omega⟩
    · simp only [go_sem, h1, h4, h3]
      have hnew := or_new_bit hs (by omega) (show (setN (r.visits.take k)).testBit v.order.toNat = false by simpa using hb)
      refine ⟨fun ρ _ => ∃ i : Nat, i ≤ v.order.toNat ∧ ρ 1 = .rp (encRoute r) 0 ∧ ρ 4 = int k ∧ ρ 3 = int (setN (r.visits.take k) : Nat) ∧ ρ 6 = int i ∧ ρ 5 = int (2 ^ i : Nat), fun ρ _ => v.order.toNat - natOf (ρ 6), ⟨0, Nat.zero_le _, by simp only [go_sem, h1], by simp only [go_sem, h4], by simp only [go_sem, h3], by simp only [go_sem]; rfl, by simp only [go_sem]; rfl⟩, ?_⟩
      clear h1 h4 h3
      rintro ρ H ⟨i, hi, h1, h4, h3, h6, h5⟩
      simp only [go_sem, h1, h4, h3, h5, h6, getD_map hvk, b1]
      refine acond_i (fun hlt2 => ?_) (fun hge2 => ?_)
      · have hlt2 : i < v.order.toNat := by simp at hlt2; omega
        have hp : 2 ^ i < 2 ^ 61 := Nat.pow_lt_pow_right (by decide) (by omega)
        have e1 : IntKind.i64.wrap (2 * ((2 ^ i : Nat) : Int)) = ((2 ^ (i + 1) : Nat) : Int) := by
          rw [Nat.pow_succ]
          generalize 2 ^ i = m at hp
          rw [wrap_in (by omega)]; omega
        simp only [go_sem, h1, h4, h3, h5, h6, e1, wrapS (show i ≤ 4611686018427387904 by omega)]
        exact ⟨⟨i + 1, by omega, rfl, rfl⟩, by simp only [natOf_int]; omega⟩
      · have hge2 : i = v.order.toNat := by simp at hge2; omega
        subst hge2
        simp only [go_sem, h1, h4, h3, h5, h6]
        refine hK _ _ ⟨by simp only [go_sem, h1], by simp only [go_sem, h4], ?_⟩
        simp only [go_sem]
        have hp : 2 ^ v.order.toNat < 2 ^ 62 := Nat.pow_lt_pow_right (by decide) (by omega)
        rw [take_succ hvk, setN_app, hnew]
        generalize 2 ^ v.order.toNat = m at hp
        exact congrArg (fun z => AV.v (Value.int .i64 z)) (by rw [wrap_in (by omega)]; omega)
    · simp only [go_sem, h1, h4, h3]
      refine hK _ _ ⟨by simp only [go_sem, h1], by simp only [go_sem, h4], ?_⟩
      simp only [go_sem, h3]
      rw [take_succ hvk, setN_app, or_self_bit (by simpa using hb)]
  · have hge := eq_of_ge_b hk hge
    subst hge
    simp only [go_sem, h3]
    rw [List.take_length]; exact .refl _
end Go.Proofs.Ytjlbikpgjejkjaa.Dec
