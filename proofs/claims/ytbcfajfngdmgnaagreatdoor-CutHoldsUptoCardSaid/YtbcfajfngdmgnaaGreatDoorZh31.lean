/- Texts joined by a program: CuC, CuD, CuE, CuF. -/
import Derived.Test.YtbcfajfngdmgnaaGreatDoorZh12
import Derived.Test.YtbcfajfngdmgnaaGreatDoorZh30

section
set_option linter.unusedSimpArgs false
set_option linter.unusedVariables false
namespace Go.Proofs.YtbcfajfngdmgnaaGreatDoor.Nu
open Go.Aw Go.Aw.D Go.Proofs Ty Go.Nu
set_option maxRecDepth 100000
def coefsP (one : Cut) (cols : List Column) : List Int := cols.map fun c => coefP one.kind (one.set.toNat &&& c.set.toNat)
def overP (one : Cut) (s : ByteArray) : ByteArray × Int := if one.kind = 1 then subR s (zed 1) else if one.kind = 2 then subR (zed one.n) s else (dec 0, 0)
def brokenP (one : Cut) (cols : List Column) (rates : List ByteArray) : ByteArray × Int :=
  if rates.length < cols.length then (emp, 2) else
  if (timesR (coefsP one cols) (rates.take cols.length)).2 ≠ 0 then (emp, (timesR (coefsP one cols) (rates.take cols.length)).2) else
  if (overP one (timesR (coefsP one cols) (rates.take cols.length)).1).2 ≠ 0 then (emp, (overP one (timesR (coefsP one cols) (rates.take cols.length)).1).2) else
  if signR (overP one (timesR (coefsP one cols) (rates.take cols.length)).1).1 ≤ 0 then (dec 0, 0) else ((overP one (timesR (coefsP one cols) (rates.take cols.length)).1).1, 0)
theorem timesF_right : ∀ (l : List (Int × ByteArray)) (t : ByteArray), rightR t = true → (timesF l t).2 = 0 → rightR (timesF l t).1 = true
  | [], t, h, _ => h
  | p :: l, t, h, h0 => by
    unfold timesF at h0 ⊢
    split at h0
    · next h1 => exact absurd h0 h1
    · next h1 =>
      rw [if_neg h1]
      split at h0
      · next h2 => exact absurd h0 h2
      · next h2 =>
        rw [if_neg h2]
        exact timesF_right l _ (addR_small (by simpa using h2)) h0
theorem times_right {ns : List Int} {xs : List ByteArray} (h : (timesR ns xs).2 = 0) : rightR (timesR ns xs).1 = true := by
  unfold timesR at h ⊢
  split at h
  · cases h
  · next h1 =>
    rw [if_neg h1]
    split at h
    · cases h
    · next h2 => rw [if_neg h2]; exact timesF_right _ _ zero_right h
theorem subR_small {a b : ByteArray} (h : (subR a b).2 = 0) : rightR (subR a b).1 = true := by
  unfold subR at h ⊢
  split at h
  · rename_i hr
    rw [if_pos hr]
    obtain ⟨e, hs⟩ := sumR_small h
    rw [e]; exact rightR_ratS hs
  · cases h
theorem over_right {one : Cut} {s : ByteArray} (hs : rightR s = true) (h : (overP one s).2 = 0) : rightR (overP one s).1 = true := by
  unfold overP at h ⊢
  split at h
  · next h1 => rw [if_pos h1]; exact subR_small h
  · next h1 =>
    rw [if_neg h1]
    split at h
    · next h2 => rw [if_pos h2]; exact subR_small h
    · next h2 => rw [if_neg h2]; exact zero_right
def okCut (one : Cut) : Prop := 0 ≤ one.set ∧ one.set ≤ 9223372036854775807 ∧ -9223372036854775808 ≤ one.n ∧ one.n ≤ 9223372036854775807
theorem broken_c (one : Cut) (cols : List Column) (rates : List ByteArray) (h1 : okCut one) (h2 : ∀ c ∈ cols, 0 ≤ c.set ∧ c.set ≤ 9223372036854775807) (hl : cols.length ≤ 1048576) (hr : rates.length ≤ 1048576) (hs : ∀ s ∈ rates, s.size ≤ 1048576) :
    PC Tryz.prog 15 [.agg (encCut one), .sl (cols.map encColumn), .sl (rates.map Go.Aw.D.encStr)] (.tup [str (brokenP one cols rates).1, int (brokenP one cols rates).2]) := by
  refine PC.body (c := Tryz.f15.body.getD .skip) (fun t => t == 8) mixed Tryz.func15 rfl (by kernel_rfl) ?_
  unfold Tryz.f15
  simp only [Option.getD_some]
  simp only [go_sem]
  refine acond_i (fun hb => ?_) (fun hb => ?_)
  · have hb := ltB hb
    simp only [go_sem]
    rw [show brokenP one cols rates = (emp, 2) from if_pos hb]
    exact .refl _
  have hb : ¬ rates.length < cols.length := by simpa using hb
  unfold brokenP
  rw [if_neg hb]
  simp only [go_sem]
  refine anew_i fun j hj => ?_
  simp only [go_sem, List.length_map]
  refine ⟨fun ρ H => ∃ (k j : Nat), k ≤ cols.length ∧ ρ 1 = .sl (cols.map encColumn) ∧ ρ 2 = .sl (rates.map Go.Aw.D.encStr) ∧ ρ 3 = .rp (encCut one) 0 ∧ ρ 19 = .sl (cols.map encColumn) ∧ ρ 20 = int cols.length ∧ ρ 21 = int k ∧ ρ 8 = .os j ∧ H j = some (intRow (coefsP one (cols.take k))), fun ρ _ => cols.length - natOf (ρ 21),
    ⟨0, j, Nat.zero_le _, by simp only [go_sem], by simp only [go_sem], by simp only [go_sem], by simp only [go_sem], by simp only [go_sem, List.length_map], by simp only [go_sem]; rfl, by simp only [go_sem], updH_same _ _ _⟩, ?_⟩
  clear hj j
  rintro ρ H ⟨k, j, hk, e1, e2, e3, e19, e20, e21, e8, Rj⟩
  simp only [go_sem, e1, e2, e3, e19, e20, e21, e8]
  refine acond_i (fun hlt => ?_) (fun hge => ?_)
  · have hlt := ltB hlt
    obtain ⟨c, hc⟩ := getIn hlt
    have b1 := inB hlt
    simp only [go_sem, e1, e2, e3, e19, e20, e21, e8, getD_map hc, b1]
    have hcs := h2 c (List.mem_of_getElem? hc)
    have hcf := coef_c one.kind one.n one.set.toNat c.set.toNat (by have := h1.2.1; omega) (by omega)
    rw [Int.toNat_of_nonneg h1.1, Int.toNat_of_nonneg hcs.1] at hcf
    refine anew_i fun i hi => ?_
    have nji : j ≠ i := ne_new Rj hi
    simp only [go_sem]
    refine wputE_n (updH_same _ _ _) (by simp [encColumn]) ?_
    generalize hG : updH (updH _ i _) i _ = HG
    have Ri : HG i = some (⟨63, 7, [encColumn c]⟩ : Row) := by rw [← hG, updH_same]; rfl
    have Rj' : HG j = some (intRow (coefsP one (cols.take k))) := by rw [← hG, updH_ne _ _ _ _ nji, updH_ne _ _ _ _ nji]; exact Rj
    clear hG hi Rj
    simp only [go_sem, e1, e2, e3, e19, e20, e21, e8, Ri]
    refine PC.use hcf ?_
    simp only [go_sem, e1, e2, e3, e19, e20, e21, e8]
    refine wappE_i Rj' ⟨rfl, rfl⟩ ⟨rfl, trivial⟩ (by simp only [intRow, coefsP, List.length_map, List.length_take, List.length_cons, List.length_nil]; omega) (fun j' hj' => ?_)
    simp only [go_sem, e1, e2, e3, e19, e20, e21, e8, wrapS (show k ≤ 4611686018427387904 by omega)]
    refine ⟨⟨k + 1, j', hlt, rfl, rfl, ?_⟩, by simp only [natOf_int]; omega⟩
    rw [updH_same]
    simp only [intRow, coefsP, take_succ hc, List.map_append, List.map_cons, List.map_nil]
    rfl
  · have hge := geB hk hge
    subst hge
    rw [List.take_length] at Rj
    have htm := rTimes_c (coefsP one cols) (rates.take cols.length) (fun n hn => by
      unfold coefsP at hn
      obtain ⟨c, _, rfl⟩ := List.mem_map.1 hn
      unfold coefP
      split <;> omega) (by rw [List.length_take]; omega) (fun s hs2 => hs s (List.mem_of_mem_take hs2))
    rw [List.map_take] at htm
    simp only [go_sem, e1, e2, e3, e8, List.length_map]
    refine ⟨⟨by omega, by omega⟩, ?_⟩
    refine PC.useF [j] (.cons _ _ _ _ (.row _ _ _ (by simp only [List.mem_singleton, if_true]; exact Rj) (ConvE.refl _)) (.cons _ _ _ _ (.refl _) .nil)) htm ?_
    have hTR := times_right (ns := coefsP one cols) (xs := rates.take cols.length)
    generalize timesR (coefsP one cols) (rates.take cols.length) = T at *
    simp only [go_sem, e3]
    refine acond_i (fun hc => ?_) (fun hc => ?_)
    · have hc : T.2 ≠ 0 := by simpa using hc
      simp only [go_sem]
      rw [if_pos hc]
      exact .refl _
    have hc : T.2 = 0 := by simpa using hc
    rw [if_neg (by simp [hc])]
    simp only [go_sem, e3]
    have hTr : rightR T.1 = true := hTR hc
    have hTs := right_size' hTr
    refine acond_joinL (fun ρ _ => ρ 12 = int (overP one T.1).2 ∧ ρ 13 = str (overP one T.1).1) ?_ fun Q' hQ _ _ => acond_i (fun h => ?_) (fun h => ?_)
    · rintro ρ H ⟨f12, f13⟩
      simp only [go_sem, f12, f13]
      refine acond_i (fun hd => ?_) (fun hd => ?_)
      · simp only [go_sem, f12]
        rw [if_pos (by simpa using hd)]
        exact .refl _
      have hd : (overP one T.1).2 = 0 := by simpa using hd
      rw [if_neg (by simp [hd])]
      have ho := right_size' (over_right hTr hd)
      simp only [go_sem, f13]
      refine PC.use (rsign_c _ (by omega)) ?_
      simp only [go_sem, f13]
      refine acond_i (fun hs => ?_) (fun hs => ?_)
      · rw [if_pos (by simpa using hs)]
        simp only [go_sem]
        rw [← zero_lit]
        exact .refl _
      · rw [if_neg (by simpa using hs)]
        simp only [go_sem, f13]
        exact .refl _
    · have h : one.kind = 1 := by simpa using h
      have e : overP one T.1 = subR T.1 (zed 1) := if_pos h
      rw [e] at hQ
      simp only [go_sem]
      refine PC.use (rof_c 1 (by decide) (by decide)) ?_
      simp only [go_sem]
      refine PC.use (rSub_c T.1 (zed 1) (by omega) (by have := Go.Nu.zed_size (lt_max (n := (1 : Int).natAbs) (k := 20) (by decide) (by decide)); omega)) ?_
      simp only [go_sem]
      exact hQ _ _ ⟨rfl, rfl⟩
    · have h : one.kind ≠ 1 := by simpa using h
      simp only [go_sem]
      refine acond_i (fun h2 => ?_) (fun h2 => ?_)
      · have h2 : one.kind = 2 := by simpa using h2
        have e : overP one T.1 = subR (zed one.n) T.1 := (if_neg h).trans (if_pos h2)
        rw [e] at hQ
        have hzs := Go.Nu.zed_size (lt_max (n := one.n.natAbs) (k := 20) (by have := h1.2.2; omega) (by decide))
        simp only [go_sem, e3]
        refine PC.use (rof_c one.n h1.2.2.1 h1.2.2.2) ?_
        simp only [go_sem]
        refine PC.use (rSub_c (zed one.n) T.1 (by omega) (by omega)) ?_
        simp only [go_sem]
        exact hQ _ _ ⟨rfl, rfl⟩
      · have h2 : one.kind ≠ 2 := by simpa using h2
        have e : overP one T.1 = (dec 0, 0) := (if_neg h).trans (if_neg h2)
        rw [e] at hQ
        simp only [go_sem]
        exact hQ _ _ ⟨hc ▸ rfl, zero_lit ▸ rfl⟩
end Go.Proofs.YtbcfajfngdmgnaaGreatDoor.Nu
end

section
set_option linter.unusedSimpArgs false
set_option linter.unusedVariables false
namespace Go.Proofs.YtbcfajfngdmgnaaGreatDoor.Nu
open Go.Aw Go.Aw.D Go.Proofs Ty Go.Nu
set_option maxRecDepth 100000
def bitsN (p : Nat → Bool) : Nat → Nat
  | 0 => 0
  | k + 1 => bitsN p k + (if p k = true then 2 ^ k else 0)
theorem bitsN_lt (p : Nat → Bool) : ∀ k, bitsN p k < 2 ^ k
  | 0 => by simp [bitsN]
  | k + 1 => by have := bitsN_lt p k; rw [bitsN, Nat.pow_succ]; split <;> omega
theorem bitsN_test (p : Nat → Bool) : ∀ k i, (bitsN p k).testBit i = (decide (i < k) && p i)
  | 0, i => by simp [bitsN]
  | k + 1, i => by
    have hlt := bitsN_lt p k
    have ih := bitsN_test p k i
    rw [bitsN]
    have hs : bitsN p k + (if p k = true then 2 ^ k else 0) = bitsN p k ||| (if p k = true then 2 ^ k else 0) := by
      split
      · rw [Nat.add_comm, Nat.or_comm]; have := Nat.two_pow_add_eq_or_of_lt hlt 1; simpa using this
      · simp
    rw [hs, Nat.testBit_or, ih]
    by_cases h : p k = true
    · rw [if_pos h, Nat.testBit_two_pow]
      by_cases e : k = i
      · subst e; simp [h]
      · have : (decide (i < k + 1)) = decide (i < k) := by rw [Bool.eq_iff_iff]; simp; omega
        rw [this]; simp [e]
    · rw [if_neg h]
      by_cases e : k = i
      · subst e; simp [h]
      · have : (decide (i < k + 1)) = decide (i < k) := by rw [Bool.eq_iff_iff]; simp; omega
        rw [this]; simp
theorem or_low {a k : Nat} (h : a < 2 ^ k) : a ||| 2 ^ k = a + 2 ^ k := by
  rw [Nat.or_comm, Nat.add_comm]; have := Nat.two_pow_add_eq_or_of_lt h 1; simpa using this.symm
theorem or_nat {a b : Nat} (ha : a < 2 ^ 63) (hb : b < 2 ^ 63) : bitV .or .i64 (a : Int) (b : Int) = ((a ||| b : Nat) : Int) := by
  have h : ((BitVec.ofInt 64 (a : Int) ||| BitVec.ofInt 64 (b : Int)).toNat : Int) = ((a ||| b : Nat) : Int) := by
    rw [BitVec.toNat_or, BitVec.toNat_ofInt, BitVec.toNat_ofInt]
    have h1 : ((a : Int) % ((2 ^ 64 : Nat) : Int)).toNat = a := by omega
    have h2 : ((b : Int) % ((2 ^ 64 : Nat) : Int)).toNat = b := by omega
    rw [h1, h2]
  refine Eq.trans (congrArg IntKind.i64.wrap h) ?_
  have := Nat.or_lt_two_pow ha hb
  exact wrap_in (by omega)
theorem shl_in {i : Nat} (h : i ≤ 62) : shV .shl .i64 1 (i : Int) = ((2 ^ i : Nat) : Int) := by
  show IntKind.i64.wrap (1 * 2 ^ min ((i : Int)).toNat 64) = _
  have : min ((i : Int)).toNat 64 = i := by omega
  rw [this, Int.one_mul]
  have h2 : (2 : Nat) ^ i ≤ 2 ^ 62 := Nat.pow_le_pow_right (by decide) h
  have h3 : ((2 : Int) ^ i) = ((2 ^ i : Nat) : Int) := by norm_cast
  rw [h3]
  generalize 2 ^ i = m at h2
  exact wrap_in (by omega)
theorem hasR_nat {s : Nat} {i : Nat} (h1 : i ≤ 62) : hasR (s : Int) (i : Int) = s.testBit i := by
  rw [Nat.testBit_eq_decide_div_mod_eq]
  unfold hasR
  have h3 : ((2 : Int) ^ i) = ((2 ^ i : Nat) : Int) := by norm_cast
  rw [Int.toNat_natCast, h3]
  have : ((s : Int) / ((2 ^ i : Nat) : Int)) = ((s / 2 ^ i : Nat) : Int) := rfl
  rw [this]
  generalize s / 2 ^ i = m
  rw [Bool.eq_iff_iff]
  simp only [beq_iff_eq, decide_eq_true_eq, Bool.and_eq_true]
  omega
theorem within_nat {a b : Nat} (ha : a < 2 ^ 63) (hb : b < 2 ^ 63) : (bitV .andNot .i64 (a : Int) (b : Int) == 0) = decide (a &&& b = a) := by
  have e : bitV .andNot .i64 (a : Int) (b : Int) = ((a - (a &&& b) : Nat) : Int) := by
    have h1 : ((a : Int) % ((2 ^ 64 : Nat) : Int)).toNat = a := by omega
    have h2 : ((b : Int) % ((2 ^ 64 : Nat) : Int)).toNat = b := by omega
    have h : ((BitVec.ofInt 64 (a : Int) &&& ~~~(BitVec.ofInt 64 (b : Int))).toNat : Int) = ((a - (a &&& b) : Nat) : Int) := by
      have hle : a &&& b ≤ a := Nat.and_le_left
      have hx : BitVec.ofInt 64 (a : Int) &&& ~~~(BitVec.ofInt 64 (b : Int)) = BitVec.ofNat 64 (a - (a &&& b)) := by
        have h3 : BitVec.ofInt 64 (a : Int) = BitVec.ofNat 64 a := by apply BitVec.eq_of_toNat_eq; rw [BitVec.toNat_ofInt, BitVec.toNat_ofNat, h1, Nat.mod_eq_of_lt (by omega)]
        have h4 : BitVec.ofInt 64 (b : Int) = BitVec.ofNat 64 b := by apply BitVec.eq_of_toNat_eq; rw [BitVec.toNat_ofInt, BitVec.toNat_ofNat, h2, Nat.mod_eq_of_lt (by omega)]
        rw [h3, h4]
        have h5 : (BitVec.ofNat 64 a &&& ~~~BitVec.ofNat 64 b) &&& BitVec.ofNat 64 (a &&& b) = 0#64 := by
          apply BitVec.eq_of_getLsbD_eq
          intro i hi
          simp only [BitVec.getLsbD_and, BitVec.getLsbD_not, BitVec.getLsbD_ofNat, Nat.testBit_and, hi, decide_true, Bool.true_and, BitVec.getLsbD_zero]
          cases a.testBit i <;> cases b.testBit i <;> simp
        have h6 : (BitVec.ofNat 64 a &&& ~~~BitVec.ofNat 64 b) ||| BitVec.ofNat 64 (a &&& b) = BitVec.ofNat 64 a := by
          apply BitVec.eq_of_getLsbD_eq
          intro i hi
          simp only [BitVec.getLsbD_or, BitVec.getLsbD_and, BitVec.getLsbD_not, BitVec.getLsbD_ofNat, Nat.testBit_and, hi, decide_true, Bool.true_and]
          cases a.testBit i <;> cases b.testBit i <;> rfl
        have h7 := congrArg BitVec.toNat ((BitVec.add_eq_or_of_and_eq_zero _ _ h5).trans h6)
        rw [BitVec.toNat_add, BitVec.toNat_ofNat, BitVec.toNat_ofNat, Nat.mod_eq_of_lt (by omega : a < 2 ^ 64), Nat.mod_eq_of_lt (by omega : a &&& b < 2 ^ 64)] at h7
        apply BitVec.eq_of_toNat_eq
        rw [BitVec.toNat_ofNat, Nat.mod_eq_of_lt (by omega)]
        have hl := (BitVec.ofNat 64 a &&& ~~~BitVec.ofNat 64 b).isLt
        have hle2 : (BitVec.ofNat 64 a &&& ~~~BitVec.ofNat 64 b).toNat ≤ a := by
          rw [BitVec.toNat_and, BitVec.toNat_ofNat, Nat.mod_eq_of_lt (by omega : a < 2 ^ 64)]
          exact Nat.and_le_left
        omega
      rw [hx, BitVec.toNat_ofNat, Nat.mod_eq_of_lt (by omega)]
    refine Eq.trans (congrArg IntKind.i64.wrap h) ?_
    exact wrap_in (by omega)
  rw [e, Bool.eq_iff_iff]
  have hle : a &&& b ≤ a := Nat.and_le_left
  simp only [beq_iff_eq, decide_eq_true_eq]
  omega
theorem swithin_c (a b : Nat) (ha : a < 2 ^ 63) (hb : b < 2 ^ 63) : PC Tryz.prog 83 [int a, int b] (boo (decide (a &&& b = a))) := by
  refine PC.body (c := Tryz.f83.body.getD .skip) (fun _ => false) mixed Tryz.func83 rfl (by kernel_rfl) ?_
  unfold Tryz.f83
  simp only [Option.getD_some]
  simp only [go_sem]
  exact cB (within_nat ha hb)
def suchB (q : Order → Bool) (l : List Order) (i : Nat) : Bool := match l[i]? with | some o => !o.off && q o | none => false
theorem suchB_at {q : Order → Bool} {l : List Order} {i : Nat} {o : Order} (h : l[i]? = some o) : suchB q l i = (!o.off && q o) := by unfold suchB; rw [h]
def suchN (q : Order → Bool) (l : List Order) : Nat := bitsN (suchB q l) l.length
theorem such_c {g : Nat} {q : Order → Bool} (x : Instance) (hx : x.orders.length ≤ 62) (hok : callOk Tryz.prog g = true) (hg : ∀ o ∈ x.orders, PC Tryz.prog g [.agg (encOrder o)] (boo (q o))) :
    PC Tryz.prog 151 [.agg (encInstance x), .v (.func (.func g) #[] #[])] (int (suchN q x.orders : Nat)) := by
  refine PC.body (c := Tryz.f151.body.getD .skip) (fun _ => false) mixed Tryz.func151 rfl (by kernel_rfl) ?_
  unfold Tryz.f151
  simp only [Option.getD_some]
  simp only [go_sem]
  unfold suchN
  generalize hp : suchB q x.orders = p
  refine ⟨fun ρ H => ∃ (k : Nat), k ≤ x.orders.length ∧ ρ 1 = .v (.func (.func g) #[] #[]) ∧ ρ 9 = .sl (x.orders.map encOrder) ∧ ρ 10 = int (x.orders.length : Nat) ∧ ρ 11 = int k ∧ ρ 5 = int (bitsN p k : Nat), fun ρ _ => x.orders.length - natOf (ρ 11), ⟨0, Nat.zero_le _, by simp only [go_sem], by simp only [go_sem], by simp only [go_sem, List.length_map], (by simp only [go_sem]; rfl), by simp only [go_sem]; rfl⟩, ?_⟩
  rintro ρ H ⟨k, hk, e1, e9, e10, e11, e5⟩
  simp only [go_sem, e1, e9, e10, e11, e5]
  refine acond_i (fun hlt => ?_) (fun hge => ?_)
  · have hlt := ltB hlt
    obtain ⟨o, ho⟩ := getIn hlt
    have b1 := inB hlt
    have hpk : p k = (!o.off && q o) := by rw [← hp]; exact suchB_at ho
    have hbl := bitsN_lt p k
    have hk2 : 2 ^ k ≤ 2 ^ 62 := Nat.pow_le_pow_right (by decide) (by omega)
    simp only [go_sem, e1, e9, e10, e11, e5, getD_map ho, b1]
    refine anew_i fun j hj => ?_
    simp only [go_sem, e1, e9, e10, e11, e5, getD_map ho, b1]
    refine wputE_n (updH_same _ _ _) (by simp [encOrder]) ?_
    simp only [go_sem, e1, e9, e10, e11, e5, getD_map ho, b1, hok]
    refine ⟨_, fun _ => (hg o (List.mem_of_getElem? ho)).q rfl, ?_⟩
    simp only [go_sem, e1, e9, e10, e11, e5]
    refine acond_i (fun hb => ?_) (fun hb => ?_)
    · have q1 := shl_in (i := k) (by omega)
      have q2 := or_nat (a := bitsN p k) (b := 2 ^ k) (by omega) (by omega)
      simp only [go_sem, e1, e9, e10, e11, e5, q1, q2, wrapS (show k ≤ 4611686018427387904 by omega)]
      refine ⟨by omega, ⟨k + 1, hlt, rfl, ?_⟩, by simp only [natOf_int]; omega⟩
      rw [or_low hbl, bitsN, hpk, if_pos hb]
    · simp only [go_sem, e1, e9, e10, e11, e5, wrapS (show k ≤ 4611686018427387904 by omega)]
      refine ⟨⟨k + 1, hlt, rfl, ?_⟩, by simp only [natOf_int]; omega⟩
      rw [bitsN, hpk, if_neg (by rw [hb]; simp), Nat.add_zero]
  · have hge := geB hk hge
    subst hge
    simp only [go_sem, e1, e9, e10, e11, e5]
    exact .refl _
def allO (x : Instance) : Nat := suchN (fun _ => true) x.orders
def mustO (x : Instance) : Nat := suchN (fun o => o.penalty == -1) x.orders
theorem all1_c (o : Order) : PC Tryz.prog 165 [.agg (encOrder o)] (boo true) := by
  refine PC.body (c := Tryz.f165.body.getD .skip) (fun _ => false) mixed Tryz.func165 rfl (by kernel_rfl) ?_
  unfold Tryz.f165
  simp only [Option.getD_some]
  simp only [go_sem]
  exact .refl _
theorem must1_c (o : Order) : PC Tryz.prog 152 [.agg (encOrder o)] (boo (o.penalty == -1)) := by
  refine PC.body (c := Tryz.f152.body.getD .skip) (fun _ => false) mixed Tryz.func152 rfl (by kernel_rfl) ?_
  unfold Tryz.f152
  simp only [Option.getD_some]
  simp only [go_sem]
  exact .refl _
theorem all_c (x : Instance) (hx : x.orders.length ≤ 62) : PC Tryz.prog 99 [.agg (encInstance x)] (int (allO x : Nat)) := by
  refine PC.body (c := Tryz.f99.body.getD .skip) (fun _ => false) mixed Tryz.func99 rfl (by kernel_rfl) ?_
  unfold Tryz.f99
  simp only [Option.getD_some]
  simp only [go_sem]
  refine PC.use (such_c x hx (by kernel_rfl) fun o _ => all1_c o) ?_
  simp only [go_sem]
  exact .refl _
theorem must_c (x : Instance) (hx : x.orders.length ≤ 62) : PC Tryz.prog 84 [.agg (encInstance x)] (int (mustO x : Nat)) := by
  refine PC.body (c := Tryz.f84.body.getD .skip) (fun _ => false) mixed Tryz.func84 rfl (by kernel_rfl) ?_
  unfold Tryz.f84
  simp only [Option.getD_some]
  simp only [go_sem]
  refine PC.use (such_c x hx (by kernel_rfl) fun o _ => must1_c o) ?_
  simp only [go_sem]
  exact .refl _
def existP (n : Nat) (set : Int) : Bool := decide (set ≥ 0) && (set / 2 ^ n == 0)
theorem exist_c (x : Instance) (set : Int) (hx : x.orders.length ≤ 62) : PC Tryz.prog 78 [.agg (encInstance x), int set] (boo (existP x.orders.length set)) := by
  refine PC.body (c := Tryz.f78.body.getD .skip) (fun _ => false) mixed Tryz.func78 rfl (by kernel_rfl) ?_
  unfold Tryz.f78
  simp only [Option.getD_some]
  simp only [go_sem]
  refine ⟨by omega, ?_⟩
  refine cB ?_
  rw [shr_in hx]
  rfl
end Go.Proofs.YtbcfajfngdmgnaaGreatDoor.Nu
end

section
set_option linter.unusedSimpArgs false
set_option linter.unusedVariables false
namespace Go.Proofs.YtbcfajfngdmgnaaGreatDoor.Nu
open Go.Aw Go.Aw.D Go.Proofs Ty Go.Nu
set_option maxRecDepth 100000
theorem indexFuncI_c {g : Nat} {cap : List AV} {p : Int → Bool} (l : List Int) (hl : l.length ≤ 1048576) (hok : callOk Tryz.prog g = true) (hg : ∀ v ∈ l, PC Tryz.prog g (int v :: cap) (boo (p v))) :
    ∃ n : Int, decide (n ≥ 0) = l.any p ∧ PC Tryz.prog 225 [.sl (l.map encInt), .fn g cap] (int n) := by
  refine ⟨match l.findIdx? p with | some i => (i : Int) | none => -1, ?_, ?_⟩
  · cases h : l.findIdx? p with
    | none =>
      have := List.findIdx?_eq_none_iff.1 h
      simp only
      rw [List.any_eq_false.2 (fun x hx => by rw [this x hx]; simp)]
      rfl
    | some i =>
      obtain ⟨hi, hp, _⟩ := List.findIdx?_eq_some_iff_getElem.1 h
      simp only
      rw [List.any_eq_true.2 ⟨l[i], List.getElem_mem hi, hp⟩]
      simp
  ·
    refine PC.body (c := Tryz.f225.body.getD .skip) (fun _ => false) mixed Tryz.func225 rfl (by kernel_rfl) ?_
    unfold Tryz.f225
    simp only [Option.getD_some]
    simp only [go_sem]
    refine ⟨fun ρ H => ∃ (k : Nat), k ≤ l.length ∧ ρ 0 = .sl (l.map encInt) ∧ ρ 1 = .fn g cap ∧ ρ 7 = int (l.length : Nat) ∧ ρ 8 = int k ∧ ∀ u ∈ l.take k, p u = false, fun ρ _ => l.length - natOf (ρ 8), ⟨0, Nat.zero_le _, by simp only [go_sem], by simp only [go_sem], by simp only [go_sem, List.length_map], (by simp only [go_sem]; rfl), by simp⟩, ?_⟩
    rintro ρ H ⟨k, hk, e0, e1, e7, e8, hz⟩
    simp only [go_sem, e0, e1, e7, e8]
    refine acond_i (fun hlt => ?_) (fun hge => ?_)
    · have hlt := ltB hlt
      obtain ⟨u, hu⟩ := getIn hlt
      have b1 := inB hlt
      simp only [go_sem, e0, e1, e7, e8, getD_map hu, b1, hok]
      refine PC.use (hg u (List.mem_of_getElem? hu)) ?_
      simp only [go_sem, e0, e1, e7, e8]
      refine acond_i (fun hb => ?_) (fun hb => ?_)
      · simp only [go_sem, e0, e1, e7, e8]
        have : l.findIdx? p = some k := by
          have hk' : k < l.length := hlt
          refine List.findIdx?_eq_some_iff_getElem.2 ⟨hk', ?_, fun j hj => ?_⟩
          · have := (List.getElem?_eq_some_iff.1 hu).2; rw [this]; exact hb
          · have := hz l[j] (List.mem_take_iff_getElem.2 ⟨j, by omega, rfl⟩); rw [this]; simp
        rw [this]
        exact .refl _
      · simp only [go_sem, e0, e1, e7, e8, wrapS (show k ≤ 4611686018427387904 by omega)]
        exact ⟨⟨k + 1, hlt, rfl, take_all' (p := fun u => p u = false) hu hb hz⟩, by simp only [natOf_int]; omega⟩
    · have hge := geB hk hge
      subst hge
      rw [List.take_length] at hz
      simp only [go_sem]
      rw [List.findIdx?_eq_none_iff.2 hz]
      exact .refl _
theorem containsFuncI_c {g : Nat} {cap : List AV} {p : Int → Bool} (l : List Int) (hl : l.length ≤ 1048576) (hok : callOk Tryz.prog g = true) (hg : ∀ v ∈ l, PC Tryz.prog g (int v :: cap) (boo (p v))) :
    PC Tryz.prog 155 [.sl (l.map encInt), .fn g cap] (boo (l.any p)) := by
  obtain ⟨n, hn, hc⟩ := indexFuncI_c l hl hok hg
  refine PC.body (c := Tryz.f155.body.getD .skip) (fun _ => false) mixed Tryz.func155 rfl (by kernel_rfl) ?_
  unfold Tryz.f155
  simp only [Option.getD_some]
  simp only [go_sem]
  refine PC.use hc ?_
  simp only [go_sem]
  exact cB hn
def orderAt (l : List Order) (i : Int) : Order := l.getD i.toNat ⟨ByteArray.empty, [], ⟨0, 0, 0, 0⟩, ⟨0, 0, 0, 0⟩, 0, 0, 0, 0, 0, false⟩
theorem orderAt_get {l : List Order} {i : Nat} {o : Order} (h : l[i]? = some o) : orderAt l (i : Int) = o := by simp [orderAt, List.getD, h]
def Memb (l : List Order) (ms : List Int) : Prop := ∀ i ∈ ms, 0 ≤ i ∧ i < (l.length : Int)
theorem together11_c (x : Instance) (g : Nat) (q : Order → Int) (i : Int) (hi : 0 ≤ i ∧ i < (x.orders.length : Int)) (hok : callOk Tryz.prog g = true) (hg : ∀ o, PC Tryz.prog g [.agg (encOrder o)] (int (q o))) :
    PC Tryz.prog 156 [int i, .rp [.v (.func (.func g) #[] #[])] 0, .rp (encInstance x) 0] (boo (decide (q (orderAt x.orders i) ≥ 0))) := by
  obtain ⟨n, rfl⟩ := Int.eq_ofNat_of_zero_le hi.1
  have hlt : n < x.orders.length := by omega
  obtain ⟨o, ho⟩ := getIn hlt
  have b1 := inB hlt
  rw [orderAt_get ho]
  refine PC.body (c := Tryz.f156.body.getD .skip) (fun _ => false) mixed Tryz.func156 rfl (by kernel_rfl) ?_
  unfold Tryz.f156
  simp only [Option.getD_some]
  simp only [go_sem]
  refine adraw_q (by rfl) (by kernel_rfl) ?_
  simp only [go_sem, getD_map ho, b1, hok]
  refine ⟨_, (hg o).q rfl, ?_⟩
  simp only [go_sem]
  exact .refl _
theorem togetherP_c (o : Order) : PC Tryz.prog 157 [.agg (encOrder o)] (int o.pick.place) := by
  refine PC.body (c := Tryz.f157.body.getD .skip) (fun _ => false) mixed Tryz.func157 rfl (by kernel_rfl) ?_
  unfold Tryz.f157
  simp only [Option.getD_some]
  simp only [go_sem]
  exact .refl _
theorem togetherD_c (o : Order) : PC Tryz.prog 158 [.agg (encOrder o)] (int o.drop.place) := by
  refine PC.body (c := Tryz.f158.body.getD .skip) (fun _ => false) mixed Tryz.func158 rfl (by kernel_rfl) ?_
  unfold Tryz.f158
  simp only [Option.getD_some]
  simp only [go_sem]
  exact .refl _
theorem together1_c (x : Instance) (g : Nat) (q : Order → Int) (ms : List Int) (hm : Memb x.orders ms) (hl : ms.length ≤ 1048576) (hok : callOk Tryz.prog g = true) (hg : ∀ o, PC Tryz.prog g [.agg (encOrder o)] (int (q o))) :
    PC Tryz.prog 154 [.v (.func (.func g) #[] #[]), .rp [.sl (ms.map encInt)] 0, .rp (encInstance x) 0] (boo (!(ms.any fun i => decide (q (orderAt x.orders i) ≥ 0)))) := by
  refine PC.body (c := Tryz.f154.body.getD .skip) (fun _ => false) mixed Tryz.func154 rfl (by kernel_rfl) ?_
  unfold Tryz.f154
  simp only [Option.getD_some]
  simp only [go_sem]
  refine PC.use (containsFuncI_c (p := fun i => decide (q (orderAt x.orders i) ≥ 0)) ms hl (by kernel_rfl) (fun i hi => together11_c x g q i (hm i hi) hok hg)) ?_
  simp only [go_sem]
  exact .refl _
def togP (x : Instance) (ms : List Int) : Bool := !(ms.any fun i => decide ((orderAt x.orders i).pick.place ≥ 0)) || !(ms.any fun i => decide ((orderAt x.orders i).drop.place ≥ 0))
theorem together_c (x : Instance) (ms : List Int) (hm : Memb x.orders ms) (hl : ms.length ≤ 1048576) : PC Tryz.prog 86 [.agg (encInstance x), .sl (ms.map encInt)] (boo (togP x ms)) := by
  refine PC.body (c := Tryz.f86.body.getD .skip) (fun _ => false) mixed Tryz.func86 rfl (by kernel_rfl) ?_
  unfold Tryz.f86
  simp only [Option.getD_some]
  simp only [go_sem]
  refine PC.use (together1_c x _ (fun o => o.pick.place) ms hm hl (by kernel_rfl) togetherP_c) ?_
  simp only [go_sem]
  refine ⟨_, fun _ => (together1_c x _ (fun o => o.drop.place) ms hm hl (by kernel_rfl) togetherD_c).q rfl, ?_⟩
  simp only [go_sem]
  exact .refl _
end Go.Proofs.YtbcfajfngdmgnaaGreatDoor.Nu
end

section
set_option linter.unusedSimpArgs false
set_option linter.unusedVariables false
namespace Go.Proofs.YtbcfajfngdmgnaaGreatDoor.Nu
open Go.Aw Go.Aw.D Go.Proofs Ty Go.Nu
set_option maxRecDepth 100000
def tripsF : List Int → List Int → Int → Int × Int
  | n :: a, c :: l, t => if n ≤ 0 then tripsF a l t else if c = 0 then (0, 24) else tripsF a l (imax t ((n + c - 1).tdiv c))
  | _, _, t => (t, 0)
def tripsL (a c : List Int) : Int × Int := if a.length ≠ c.length then (0, 2) else if c.any (fun n => decide (n < 0)) = true then (0, 2) else tripsF a c 0
def Mid (n : Int) : Prop := -1099511627776 ≤ n ∧ n ≤ 1099511627776
theorem ltrips_c (a c : List Int) (hl : a.length ≤ 1048576) (hl2 : c.length ≤ 1048576) (ha : ∀ n ∈ a, Mid n) (hc : ∀ n ∈ c, Mid n) :
    PC Tryz.prog 159 [.sl (a.map encInt), .sl (c.map encInt)] (.tup [int (tripsL a c).1, int (tripsL a c).2]) := by
  refine PC.body (c := Tryz.f159.body.getD .skip) (fun _ => false) mixed Tryz.func159 rfl (by kernel_rfl) ?_
  unfold Tryz.f159
  simp only [Option.getD_some]
  simp only [go_sem]
  refine acond_i (fun hb => ?_) (fun hb => ?_)
  · have hb : a.length ≠ c.length := neN hb
    simp only [go_sem]
    rw [show tripsL a c = (0, 2) from if_pos hb]
    exact .refl _
  have hb : a.length = c.length := eqN hb
  have e0 : tripsL a c = if c.any (fun n => decide (n < 0)) = true then (0, 2) else tripsF a c 0 := if_neg (by simp [hb])
  rw [e0]
  simp only [go_sem, List.length_map]
  refine ⟨fun ρ H => ∃ (k : Nat), k ≤ c.length ∧ ρ 0 = .sl (a.map encInt) ∧ ρ 1 = .sl (c.map encInt) ∧ ρ 17 = .sl (c.map encInt) ∧ ρ 18 = int (c.length : Nat) ∧ ρ 19 = int k ∧ ∀ n ∈ c.take k, 0 ≤ n, fun ρ _ => c.length - natOf (ρ 19), ⟨0, Nat.zero_le _, by simp only [go_sem], by simp only [go_sem], by simp only [go_sem], by simp only [go_sem, List.length_map], (by simp only [go_sem]; rfl), by simp⟩, ?_⟩
  rintro ρ H ⟨k, hk, e0, e1, e17, e18, e19, hz⟩
  simp only [go_sem, e0, e1, e17, e18, e19]
  refine acond_i (fun hlt => ?_) (fun hge => ?_)
  · have hlt := ltB hlt
    obtain ⟨n, hn⟩ := getIn hlt
    have b1 := inB hlt
    simp only [go_sem, e0, e1, e17, e18, e19, getD_map hn, b1]
    refine acond_i (fun hd => ?_) (fun hd => ?_)
    · simp only [go_sem]
      rw [if_pos (any_yes hn hd)]
      exact .refl _
    · simp only [go_sem, e0, e1, e17, e18, e19, wrapS (show k ≤ 4611686018427387904 by omega)]
      exact ⟨⟨k + 1, hlt, rfl, take_all' hn (by simpa using hd) hz⟩, by simp only [natOf_int]; omega⟩
  have hge := geB hk hge
  subst hge
  rw [List.take_length] at hz
  rw [if_neg (by rw [any_none fun n hn => by simpa using hz n hn]; simp)]
  simp only [go_sem, e0, e1, e17, e18, e19, List.length_map]
  refine ⟨fun ρ H => ∃ (k : Nat) (t:Int), k ≤ a.length ∧ ρ 1 = .sl (c.map encInt) ∧ ρ 26 = .sl (a.map encInt) ∧ ρ 27 = int (a.length : Nat) ∧ ρ 28 = int k ∧ ρ 8 = int t ∧ tripsF a c 0 = tripsF (a.drop k) (c.drop k) t, fun ρ _ => a.length - natOf (ρ 28), ⟨0, 0, Nat.zero_le _, by simp only [go_sem, e0, e1, e17, e18, e19], by simp only [go_sem, e0, e1, e17, e18, e19], by simp only [go_sem, List.length_map, e0, e1, e17, e18, e19], (by simp only [go_sem, e0, e1, e17, e18, e19]; rfl), by simp only [go_sem], rfl⟩, ?_⟩
  rintro ρ H ⟨k, t, hk, e1, e26, e27, e28, e8, hi⟩
  simp only [go_sem, e1, e26, e27, e28, e8]
  refine acond_i (fun hlt => ?_) (fun hge => ?_)
  · have hlt := ltB hlt
    obtain ⟨n, hn⟩ := getIn hlt
    obtain ⟨m, hm⟩ := getIn (l := c) (k := k) (by omega)
    have b1 := inB hlt
    have b2 := inB (show k < c.length by omega)
    have hn1 := ha n (List.mem_of_getElem? hn)
    have hm1 := hc m (List.mem_of_getElem? hm)
    have hm0 := hz m (List.mem_of_getElem? hm)
    unfold Mid at hn1 hm1
    rw [drop_at hn, drop_at hm, tripsF] at hi
    simp only [go_sem, e1, e26, e27, e28, e8, getD_map hn, getD_map hm, b1, b2]
    refine acond_i (fun hd => ?_) (fun hd => ?_)
    · rw [if_pos (by simpa using hd)] at hi
      simp only [go_sem, e1, e26, e27, e28, e8, wrapS (show k ≤ 4611686018427387904 by omega)]
      exact ⟨⟨k + 1, t, hlt, rfl, rfl, hi⟩, by simp only [natOf_int]; omega⟩
    have hd : ¬ n ≤ 0 := by simpa using hd
    rw [if_neg hd] at hi
    simp only [go_sem, e1, e26, e27, e28, e8]
    refine acond_i (fun h0 => ?_) (fun h0 => ?_)
    · rw [if_pos (by simpa using h0)] at hi
      rw [hi]
      simp only [go_sem]
      exact .refl _
    have h0 : m ≠ 0 := by simpa using h0
    rw [if_neg h0] at hi
    have w1 : IntKind.i64.wrap (n + m) = n + m := wrap_in (by omega)
    have w2 : IntKind.i64.wrap (n + m - 1) = n + m - 1 := wrap_in (by omega)
    have w3 : IntKind.i64.wrap ((n + m - 1).tdiv m) = (n + m - 1).tdiv m := wrap_in (by
      have h1 := Int.tdiv_nonneg (a := n + m - 1) (b := m) (by omega) (by omega)
      have h2 := Int.tdiv_le_self m (a := n + m - 1) (by omega)
      omega)
    simp only [go_sem, e1, e26, e27, e28, e8, w1, w2, w3, wrapS (show k ≤ 4611686018427387904 by omega)]
    exact ⟨h0, ⟨k + 1, _, hlt, rfl, rfl, hi⟩, by simp only [natOf_int]; omega⟩
  · have hge := geB hk hge
    subst hge
    have ea : a.drop a.length = [] := List.drop_length
    have : tripsF a c 0 = (t, 0) := by rw [hi, ea]; unfold tripsF; rfl
    rw [this]
    simp only [go_sem, e1, e26, e27, e28, e8]
    exact .refl _
def loadOf (l : List Order) (dim : Nat) (i : Int) : Int := (orderAt l i).load.getD dim 0
def loadSum (l : List Order) (ms : List Int) (dim : Nat) : Int := (ms.map (loadOf l dim)).sum
def capMax (l : List VType) (dim : Nat) : Int := l.foldl (fun c t => imax c (t.cap.getD dim 0)) 0
def tripsD (x : Instance) (ms : List Int) (dim : Nat) : Int := if (tripsL [loadSum x.orders ms dim] [capMax x.types dim]).2 ≠ 0 then 0 else (tripsL [loadSum x.orders ms dim] [capMax x.types dim]).1
structure LoadsOk (x : Instance) (d : Nat) : Prop where
  dims : d ≤ 3
  orders : x.orders.length ≤ 62
  types : x.types.length ≤ 1048576
  load : ∀ o ∈ x.orders, o.load.length = d ∧ ∀ n ∈ o.load, 0 ≤ n ∧ n ≤ 1000
  cap : ∀ t ∈ x.types, t.cap.length = d ∧ ∀ n ∈ t.cap, 0 ≤ n ∧ n ≤ 1000
theorem loadOf_in {x : Instance} {d dim : Nat} (h : LoadsOk x d) (hd : dim < d) {i : Int} (hi : 0 ≤ i ∧ i < (x.orders.length : Int)) : 0 ≤ loadOf x.orders dim i ∧ loadOf x.orders dim i ≤ 1000 := by
  obtain ⟨n, rfl⟩ := Int.eq_ofNat_of_zero_le hi.1
  obtain ⟨o, ho⟩ := getIn (show n < x.orders.length by omega)
  unfold loadOf
  rw [orderAt_get ho]
  obtain ⟨h1, h2⟩ := h.load o (List.mem_of_getElem? ho)
  obtain ⟨v, hv⟩ := getIn (show dim < o.load.length by omega)
  rw [List.getD, hv]
  exact h2 v (List.mem_of_getElem? hv)
theorem loadSum_in {x : Instance} {d dim : Nat} (h : LoadsOk x d) (hd : dim < d) : ∀ {ms : List Int}, Memb x.orders ms → 0 ≤ loadSum x.orders ms dim ∧ loadSum x.orders ms dim ≤ 1000 * ms.length
  | [], _ => by simp [loadSum]
  | i :: ms, hm => by
    have h1 := loadOf_in h hd (hm i (by simp))
    have h2 := loadSum_in h hd (ms := ms) fun j hj => hm j (by simp [hj])
    unfold loadSum at h2 ⊢
    rw [List.map_cons, List.sum_cons, List.length_cons]
    omega
theorem loadSum_snoc (l : List Order) (ms : List Int) (i : Int) (dim : Nat) : loadSum l (ms ++ [i]) dim = loadSum l ms dim + loadOf l dim i := by simp [loadSum]
theorem capMax_snoc (l : List VType) (t : VType) (dim : Nat) : capMax (l ++ [t]) dim = imax (capMax l dim) (t.cap.getD dim 0) := by simp [capMax]
theorem imax_in {a b c : Int} (h1 : 0 ≤ a ∧ a ≤ c) (h2 : 0 ≤ b ∧ b ≤ c) : 0 ≤ imax a b ∧ imax a b ≤ c := by unfold imax; split <;> omega
theorem capMax_in {x : Instance} {d dim : Nat} (h : LoadsOk x d) (hd : dim < d) : ∀ k, 0 ≤ capMax (x.types.take k) dim ∧ capMax (x.types.take k) dim ≤ 1000
  | 0 => by simp [capMax]
  | k + 1 => by
    have ih := capMax_in h hd k
    rcases Nat.lt_or_ge k x.types.length with hk | hk
    · obtain ⟨t, ht⟩ := getIn hk
      rw [take_succ ht, capMax_snoc]
      obtain ⟨h1, h2⟩ := h.cap t (List.mem_of_getElem? ht)
      obtain ⟨v, hv⟩ := getIn (show dim < t.cap.length by omega)
      refine imax_in ih ?_
      rw [List.getD, hv]
      exact h2 v (List.mem_of_getElem? hv)
    · rw [List.take_of_length_le (by omega)] at ih ⊢; exact ih
theorem trips_c (x : Instance) (ms : List Int) (dim d : Nat) (h : LoadsOk x d) (hd : dim < d) (hm : Memb x.orders ms) (hl : ms.length ≤ 63) :
    PC Tryz.prog 87 [.agg (encInstance x), .sl (ms.map encInt), int dim] (int (tripsD x ms dim)) := by
  have ho62 := h.orders
  have ht62 := h.types
  refine PC.body (c := Tryz.f87.body.getD .skip) (fun _ => false) mixed Tryz.func87 rfl (by kernel_rfl) ?_
  unfold Tryz.f87
  simp only [Option.getD_some]
  simp only [go_sem]
  refine ⟨fun ρ H => ∃ (k : Nat), k ≤ ms.length ∧ ρ 2 = int dim ∧ ρ 3 = .rp (encInstance x) 0 ∧ ρ 8 = int 0 ∧ ρ 15 = .sl (ms.map encInt) ∧ ρ 16 = int (ms.length : Nat) ∧ ρ 17 = int k ∧ ρ 7 = int (loadSum x.orders (ms.take k) dim), fun ρ _ => ms.length - natOf (ρ 17), ⟨0, Nat.zero_le _, by simp only [go_sem], by simp only [go_sem], by simp only [go_sem], by simp only [go_sem], by simp only [go_sem, List.length_map], (by simp only [go_sem]; rfl), by simp only [go_sem]; rfl⟩, ?_⟩
  rintro ρ H ⟨k, hk, e2, e3, e8, e15, e16, e17, e7⟩
  simp only [go_sem, e2, e3, e8, e15, e16, e17, e7]
  refine acond_i (fun hlt => ?_) (fun hge => ?_)
  · have hlt := ltB hlt
    obtain ⟨i, hi⟩ := getIn hlt
    have b1 := inB hlt
    have him := hm i (List.mem_of_getElem? hi)
    have hlo := loadOf_in h hd him
    have hls := loadSum_in h hd (ms := ms.take k) fun j hj => hm j (List.mem_of_mem_take hj)
    have hnx := loadSum_snoc x.orders (ms.take k) i dim
    rw [← take_succ hi] at hnx
    obtain ⟨n, rfl⟩ := Int.eq_ofNat_of_zero_le him.1
    have hn : n < x.orders.length := by omega
    obtain ⟨o, hor⟩ := getIn hn
    obtain ⟨ho1, ho2⟩ := h.load o (List.mem_of_getElem? hor)
    obtain ⟨v, hv⟩ := getIn (show dim < o.load.length by omega)
    have hlv : loadOf x.orders dim (n : Int) = v := by unfold loadOf; rw [orderAt_get hor, List.getD, hv]; rfl
    have b2 := inB hn
    have b3 := inB (show dim < o.load.length by omega)
    have hkl : (ms.take k).length ≤ 63 := by rw [List.length_take]; omega
    have w1 : IntKind.i64.wrap (loadSum x.orders (ms.take k) dim + v) = loadSum x.orders (ms.take (k + 1)) dim := by rw [hnx, hlv, wrap_in (by omega)]
    simp only [go_sem, e2, e3, e8, e15, e16, e17, e7, getD_map hi, b1, getD_map hor, b2, getD_map hv, b3, w1, wrapS (show k ≤ 4611686018427387904 by omega)]
    exact ⟨⟨k + 1, hlt, rfl, rfl⟩, by simp only [natOf_int]; omega⟩
  have hge := geB hk hge
  subst hge
  rw [List.take_length] at e7
  simp only [go_sem, e2, e3, e8, e15, e16, e17, e7, List.length_map]
  refine ⟨fun ρ H => ∃ (k : Nat), k ≤ x.types.length ∧ ρ 2 = int dim ∧ ρ 7 = int (loadSum x.orders ms dim) ∧ ρ 34 = .sl (x.types.map encVType) ∧ ρ 35 = int (x.types.length : Nat) ∧ ρ 36 = int k ∧ ρ 8 = int (capMax (x.types.take k) dim), fun ρ _ => x.types.length - natOf (ρ 36), ⟨0, Nat.zero_le _, by simp only [go_sem, e2, e3, e8, e15, e16, e17, e7], by simp only [go_sem, e2, e3, e8, e15, e16, e17, e7], by simp only [go_sem, e2, e3, e8, e15, e16, e17, e7], by simp only [go_sem, List.length_map, e2, e3, e8, e15, e16, e17, e7], (by simp only [go_sem, e2, e3, e8, e15, e16, e17, e7]; rfl), by simp only [go_sem, e8]; rfl⟩, ?_⟩
  rintro ρ H ⟨k, hk, e2, e7, e34, e35, e36, e8⟩
  simp only [go_sem, e2, e7, e34, e35, e36, e8]
  refine acond_i (fun hlt => ?_) (fun hge => ?_)
  · have hlt := ltB hlt
    obtain ⟨t, ht⟩ := getIn hlt
    have b1 := inB hlt
    obtain ⟨h1, h2⟩ := h.cap t (List.mem_of_getElem? ht)
    obtain ⟨v, hv⟩ := getIn (show dim < t.cap.length by omega)
    have b3 := inB (show dim < t.cap.length by omega)
    simp only [go_sem, e2, e7, e34, e35, e36, e8, getD_map ht, b1]
    refine anew_i fun j hj0 => ?_
    simp only [go_sem, e2, e7, e34, e35, e36, e8, getD_map ht, b1]
    refine wputE_n (updH_same _ _ _) (by simp [encVType_len]) ?_
    generalize hGj : updH (updH _ j _) j _ = HGj
    have R : HGj j = some (typeRow t) := by rw [← hGj, updH_same]; rfl
    clear hGj hj0
    simp only [go_sem, e2, e7, e34, e35, e36, e8, getD_map ht, b1, R]
    simp only [go_sem, e2, e7, e34, e35, e36, e8, getD_map hv, b3, wrapS (show k ≤ 4611686018427387904 by omega)]
    refine ⟨⟨k + 1, hlt, rfl, ?_⟩, by simp only [natOf_int]; omega⟩
    rw [take_succ ht, capMax_snoc, List.getD, hv]
    rfl
  have hge := geB hk hge
  subst hge
  rw [List.take_length] at e8
  have hL := loadSum_in h hd hm
  have hC := capMax_in h hd x.types.length
  rw [List.take_length] at hC
  simp only [go_sem, e2, e7, e34, e35, e36, e8]
  have hm1 : ∀ n ∈ [loadSum x.orders ms dim], Mid n := fun n hn => by rw [List.mem_singleton.1 hn]; unfold Mid; omega
  have hm2 : ∀ n ∈ [capMax x.types dim], Mid n := fun n hn => by rw [List.mem_singleton.1 hn]; unfold Mid; omega
  refine PC.use (ltrips_c [loadSum x.orders ms dim] [capMax x.types dim] (by simp) (by simp) hm1 hm2) ?_
  unfold tripsD
  generalize tripsL [loadSum x.orders ms dim] [capMax x.types dim] = T
  simp only [go_sem]
  refine acond_i (fun hb => ?_) (fun hb => ?_)
  · simp only [go_sem]
    rw [if_pos (by simpa using hb)]
    exact .refl _
  · simp only [go_sem]
    rw [if_neg (by simpa using hb)]
    exact .refl _
end Go.Proofs.YtbcfajfngdmgnaaGreatDoor.Nu
end
