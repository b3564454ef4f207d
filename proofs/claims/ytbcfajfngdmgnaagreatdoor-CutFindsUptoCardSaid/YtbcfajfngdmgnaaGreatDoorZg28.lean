/- Texts joined by a program: CuAcc, CuD, CuE, CuF. -/
import Derived.Test.YtbcfajfngdmgnaaGreatDoorZg24
import Derived.Test.YtbcfajfngdmgnaaGreatDoorZg27

section
set_option linter.unusedSimpArgs false
set_option linter.unusedVariables false
namespace Go.Proofs.YtbcfajfngdmgnaaGreatDoor
open Go.Aw Go.Aw.D Go.Proofs Ty
set_option maxRecDepth 100000
theorem opt_nil {α : Type} {b : Bool} {f : α} (h : opt b f = []) : b = false := by cases b <;> simp [opt] at h ⊢
theorem inR_iff {n a b : Int} : inR n a b = true ↔ a ≤ n ∧ n ≤ b := by
  unfold inR
  simp only [Bool.and_eq_true, decide_eq_true_eq]
theorem not_f {b : Bool} (h : (!b) = false) : b = true := by simpa using h
structure TypeB (t : VType) (d : Int) : Prop where
  cap : capR t.cap d = true
  skills : 0 ≤ t.skills ∧ t.skills ≤ 1073741823
  start : 0 ≤ t.start ∧ t.start ≤ t.close
  close : t.close ≤ 4096
  drive : 1 ≤ t.drive ∧ t.drive ≤ 4096
  rest : 0 ≤ t.rest ∧ t.rest ≤ 4096
  count : 0 ≤ t.count ∧ t.count ≤ 10
theorem typeB_of {n : Network} {l : List VType} {k : Nat} {t : VType} (h : typeErrs n l k t = []) : TypeB t (dimsR l) := by
  unfold typeErrs at h
  simp only [List.nil_append, List.append_eq_nil_iff] at h
  obtain ⟨⟨⟨⟨⟨⟨⟨⟨_, _⟩, h3⟩, _⟩, h5⟩, h6⟩, h7⟩, h8⟩, h9⟩ := h
  have e3 := inR_iff.1 (not_f (opt_nil h3))
  have e5 := not_f (opt_nil h5)
  have e6 := inR_iff.1 (not_f (opt_nil h6))
  have e7 := Bool.or_eq_false_iff.1 (opt_nil h7)
  have e8 := Bool.or_eq_false_iff.1 (opt_nil h8)
  have q7 := inR_iff.1 (not_f e7.1)
  have q72 : ¬ t.close > 4096 := by simpa using e7.2
  exact ⟨e5, e6, q7, by omega, inR_iff.1 (not_f e8.1), inR_iff.1 (not_f e8.2), e3⟩
structure OrdB (o : Order) (d : Int) : Prop where
  load : rightL o.load d = true
  pick : -1 ≤ o.pick.place
  drop : -1 ≤ o.drop.place
  both : (o.pick.place == -1 && o.drop.place == -1) = false
  wpick : windowR o.pick = 0
  wdrop : windowR o.drop = 0
  skills : 0 ≤ o.skills ∧ o.skills ≤ 1073741823
  penalty : -1 ≤ o.penalty ∧ o.penalty ≤ 1000000
theorem ordB_of {P : Nat} {d T : Int} {l : List Order} {k : Nat} {o : Order} (h : orderErrs P d T l k o = []) : OrdB o d := by
  unfold orderErrs at h
  simp only [List.nil_append, List.append_eq_nil_iff] at h
  obtain ⟨⟨⟨⟨⟨⟨⟨_, _⟩, h3⟩, h4⟩, h5⟩, h6⟩, h7⟩, h8⟩ := h
  have e4 := Bool.or_eq_false_iff.1 (opt_nil h4)
  have e6 := Bool.or_eq_false_iff.1 (opt_nil h6)
  have e8 := opt_nil h8
  simp only [Bool.or_eq_false_iff] at e8
  refine ⟨not_f (opt_nil h3), (inR_iff.1 (not_f e4.1)).1, (inR_iff.1 (not_f e4.2)).1, opt_nil h5, by simpa using e6.1, by simpa using e6.2, inR_iff.1 (not_f (opt_nil h7)), inR_iff.1 (not_f e8.1.1.1.1.1.1)⟩
structure ArcOk (a : Arc) : Prop where
  travel : travelR a.travel = []
  slow : a.slow.length ≤ 16
  pt : ∀ p ∈ a.slow, (0 ≤ p.t ∧ p.t ≤ 4096) ∧ 0 ≤ p.a ∧ p.a ≤ 4096
theorem arcOk_of {n : Network} {k : Nat} {a : Arc} (ha : n.arcs[k]? = some a) (h : arcR n k = []) : ArcOk a := by
  unfold arcR at h
  rw [arcAt_get ha] at h
  simp only [List.nil_append, List.append_eq_nil_iff, List.map_eq_nil_iff] at h
  obtain ⟨⟨⟨_, h4⟩, h5⟩, h6⟩ := h
  have e5 : ¬ (a.slow.length : Int) > 16 := by simpa using opt_nil h5
  refine ⟨h4, by omega, fun p hp => ?_⟩
  obtain ⟨i, hi, rfl⟩ := List.getElem_of_mem hp
  have := List.flatMap_eq_nil_iff.1 h6 i (List.mem_range.2 hi)
  have hb := opt_nil this
  unfold badSlow at hb
  rw [ptAt_get (List.getElem?_eq_getElem hi)] at hb
  simp only [Bool.or_eq_false_iff] at hb
  exact ⟨inR_iff.1 (not_f hb.1.1), inR_iff.1 (not_f hb.1.2)⟩
structure PairB (N : Int) (q : Pair) : Prop where
  a : 0 ≤ q.a ∧ q.a < N
  b : 0 ≤ q.b ∧ q.b < N
  ne : q.a ≠ q.b
theorem pairB_of {N : Int} {l : List Pair} {w : ByteArray} {s : Bool} (h : pairsR N l w s = []) : l.length ≤ 16 ∧ ∀ q ∈ l, PairB N q := by
  unfold pairsR at h
  rw [List.append_eq_nil_iff] at h
  have e1 : ¬ (l.length : Int) > 16 := by simpa using opt_nil h.1
  refine ⟨by omega, fun q hq => ?_⟩
  obtain ⟨i, hi, rfl⟩ := List.getElem_of_mem hq
  have := List.flatMap_eq_nil_iff.1 h.2 i (List.mem_range.2 hi)
  unfold pairFaults at this
  have ep : pAt l i = l[i] := by simp [pAt, List.getD, hi]
  rw [ep] at this
  split at this
  · simp at this
  · rename_i hb
    unfold Go.Proofs.YtbcfajfngdmgnaaGreatDoor.badPair at hb
    simp only [Bool.or_eq_false_iff, decide_eq_false_iff_not] at hb
    exact ⟨by omega, by omega, by simpa using hb.2⟩
structure Acc (x : Instance) : Prop where
  arcs : x.net.arcs.length ≤ 1024
  arc : ∀ a ∈ x.net.arcs, ArcOk a
  types : 1 ≤ x.types.length ∧ x.types.length ≤ 6
  type : ∀ t ∈ x.types, TypeB t (dimsR x.types)
  orders : x.orders.length ≤ 10
  order : ∀ o ∈ x.orders, OrdB o (dimsR x.types)
  apart : x.apart.length ≤ 16
  apartB : ∀ q ∈ x.apart, PairB x.orders.length q
  before : x.before.length ≤ 16
  beforeB : ∀ q ∈ x.before, PairB x.orders.length q
theorem acc_of {x : Instance} (h : checkR x = []) : Acc x := by
  unfold checkR at h
  simp only [List.append_eq_nil_iff, List.map_eq_nil_iff] at h
  obtain ⟨⟨⟨hn, ht⟩, ho⟩, hr⟩ := h
  unfold netR at hn
  simp only [List.append_eq_nil_iff] at hn
  unfold typesR at ht
  rw [List.append_eq_nil_iff] at ht
  unfold ordersR at ho
  rw [List.append_eq_nil_iff] at ho
  unfold rulesR at hr
  rw [List.append_eq_nil_iff] at hr
  obtain ⟨r1, r2⟩ := pairB_of hr.1
  obtain ⟨r3, r4⟩ := pairB_of hr.2
  have e1 : ¬ (x.net.arcs.length : Int) > 1024 := by simpa using opt_nil hn.1.2
  have e2 := inR_iff.1 (not_f (opt_nil ht.1))
  have e3 : ¬ (x.orders.length : Int) > 10 := by simpa using opt_nil ho.1
  refine ⟨by omega, fun a ha => ?_, by omega, fun t htm => ?_, by omega, fun o hom => ?_, r1, r2, r3, r4⟩
  · obtain ⟨i, hi, rfl⟩ := List.getElem_of_mem ha
    exact arcOk_of (List.getElem?_eq_getElem hi) (List.flatMap_eq_nil_iff.1 hn.2 i (List.mem_range.2 hi))
  · obtain ⟨i, hi, rfl⟩ := List.getElem_of_mem htm
    have := List.flatMap_eq_nil_iff.1 ht.2 i (List.mem_range.2 hi)
    unfold typeFaults at this
    rw [List.map_eq_nil_iff, vtAt_get (List.getElem?_eq_getElem hi)] at this
    exact typeB_of this
  · obtain ⟨i, hi, rfl⟩ := List.getElem_of_mem hom
    have := List.flatMap_eq_nil_iff.1 ho.2 i (List.mem_range.2 hi)
    unfold orderFaults at this
    rw [List.map_eq_nil_iff, orAt_get (List.getElem?_eq_getElem hi)] at this
    exact ordB_of this
end Go.Proofs.YtbcfajfngdmgnaaGreatDoor
end

section
set_option linter.unusedSimpArgs false
set_option linter.unusedVariables false
namespace Go.Proofs.YtbcfajfngdmgnaaGreatDoor.Nu
open Go.Aw Go.Aw.D Go.Proofs Ty Go.Nu
set_option maxRecDepth 100000
def bitsN (p : Nat → Bool) : Nat → Nat
  | 0 => 0
  | k + 1 => bitsN p k + (if p k = true then 2 ^ k else 0)
theorem bitsN_lt (p : Nat → Bool) : ∀ k, bitsN p k < 2 ^ k
  | 0 => by simp [bitsN]
  | k + 1 => by have := bitsN_lt p k; rw [bitsN, Nat.pow_succ]; split <;> omega
theorem bitsN_test (p : Nat → Bool) : ∀ k i, (bitsN p k).testBit i = (decide (i < k) && p i)
  | 0, i => by simp [bitsN]
  | k + 1, i => by
    have hlt := bitsN_lt p k
    have ih := bitsN_test p k i
    rw [bitsN]
    have hs : bitsN p k + (if p k = true then 2 ^ k else 0) = bitsN p k ||| (if p k = true then 2 ^ k else 0) := by
      split
      · rw [Nat.add_comm, Nat.or_comm]; have := Nat.two_pow_add_eq_or_of_lt hlt 1; simpa using this
      · simp
    rw [hs, Nat.testBit_or, ih]
    by_cases h : p k = true
    · rw [if_pos h, Nat.testBit_two_pow]
      by_cases e : k = i
      · subst e; simp [h]
      · have : (decide (i < k + 1)) = decide (i < k) := by rw [Bool.eq_iff_iff]; simp; omega
        rw [this]; simp [e]
    · rw [if_neg h]
      by_cases e : k = i
      · subst e; simp [h]
      · have : (decide (i < k + 1)) = decide (i < k) := by rw [Bool.eq_iff_iff]; simp; omega
        rw [this]; simp
theorem or_low {a k : Nat} (h : a < 2 ^ k) : a ||| 2 ^ k = a + 2 ^ k := by
  rw [Nat.or_comm, Nat.add_comm]; have := Nat.two_pow_add_eq_or_of_lt h 1; simpa using this.symm
theorem or_nat {a b : Nat} (ha : a < 2 ^ 63) (hb : b < 2 ^ 63) : bitV .or .i64 (a : Int) (b : Int) = ((a ||| b : Nat) : Int) := by
  have h : ((BitVec.ofInt 64 (a : Int) ||| BitVec.ofInt 64 (b : Int)).toNat : Int) = ((a ||| b : Nat) : Int) := by
    rw [BitVec.toNat_or, BitVec.toNat_ofInt, BitVec.toNat_ofInt]
    have h1 : ((a : Int) % ((2 ^ 64 : Nat) : Int)).toNat = a := by omega
    have h2 : ((b : Int) % ((2 ^ 64 : Nat) : Int)).toNat = b := by omega
    rw [h1, h2]
  refine Eq.trans (congrArg IntKind.i64.wrap h) ?_
  have := Nat.or_lt_two_pow ha hb
  exact wrap_in (by omega)
theorem shl_in {i : Nat} (h : i ≤ 62) : shV .shl .i64 1 (i : Int) = ((2 ^ i : Nat) : Int) := by
  show IntKind.i64.wrap (1 * 2 ^ min ((i : Int)).toNat 64) = _
  have : min ((i : Int)).toNat 64 = i := by omega
  rw [this, Int.one_mul]
  have h2 : (2 : Nat) ^ i ≤ 2 ^ 62 := Nat.pow_le_pow_right (by decide) h
  have h3 : ((2 : Int) ^ i) = ((2 ^ i : Nat) : Int) := by norm_cast
  rw [h3]
  generalize 2 ^ i = m at h2
  exact wrap_in (by omega)
theorem hasR_nat {s : Nat} {i : Nat} (h1 : i ≤ 62) : hasR (s : Int) (i : Int) = s.testBit i := by
  rw [Nat.testBit_eq_decide_div_mod_eq]
  unfold hasR
  have h3 : ((2 : Int) ^ i) = ((2 ^ i : Nat) : Int) := by norm_cast
  rw [Int.toNat_natCast, h3]
  have : ((s : Int) / ((2 ^ i : Nat) : Int)) = ((s / 2 ^ i : Nat) : Int) := rfl
  rw [this]
  generalize s / 2 ^ i = m
  rw [Bool.eq_iff_iff]
  simp only [beq_iff_eq, decide_eq_true_eq, Bool.and_eq_true]
  omega
theorem within_nat {a b : Nat} (ha : a < 2 ^ 63) (hb : b < 2 ^ 63) : (bitV .andNot .i64 (a : Int) (b : Int) == 0) = decide (a &&& b = a) := by
  have e : bitV .andNot .i64 (a : Int) (b : Int) = ((a - (a &&& b) : Nat) : Int) := by
    have h1 : ((a : Int) % ((2 ^ 64 : Nat) : Int)).toNat = a := by omega
    have h2 : ((b : Int) % ((2 ^ 64 : Nat) : Int)).toNat = b := by omega
    have h : ((BitVec.ofInt 64 (a : Int) &&& ~~~(BitVec.ofInt 64 (b : Int))).toNat : Int) = ((a - (a &&& b) : Nat) : Int) := by
      have hle : a &&& b ≤ a := Nat.and_le_left
      have hx : BitVec.ofInt 64 (a : Int) &&& ~~~(BitVec.ofInt 64 (b : Int)) = BitVec.ofNat 64 (a - (a &&& b)) := by
        have h3 : BitVec.ofInt 64 (a : Int) = BitVec.ofNat 64 a := by apply BitVec.eq_of_toNat_eq; rw [BitVec.toNat_ofInt, BitVec.toNat_ofNat, h1, Nat.mod_eq_of_lt (by omega)]
        have h4 : BitVec.ofInt 64 (b : Int) = BitVec.ofNat 64 b := by apply BitVec.eq_of_toNat_eq; rw [BitVec.toNat_ofInt, BitVec.toNat_ofNat, h2, Nat.mod_eq_of_lt (by omega)]
        rw [h3, h4]
        have h5 : (BitVec.ofNat 64 a &&& ~~~BitVec.ofNat 64 b) &&& BitVec.ofNat 64 (a &&& b) = 0#64 := by
          apply BitVec.eq_of_getLsbD_eq
          intro i hi
          simp only [BitVec.getLsbD_and, BitVec.getLsbD_not, BitVec.getLsbD_ofNat, Nat.testBit_and, hi, decide_true, Bool.true_and, BitVec.getLsbD_zero]
          cases a.testBit i <;> cases b.testBit i <;> simp
        have h6 : (BitVec.ofNat 64 a &&& ~~~BitVec.ofNat 64 b) ||| BitVec.ofNat 64 (a &&& b) = BitVec.ofNat 64 a := by
          apply BitVec.eq_of_getLsbD_eq
          intro i hi
          simp only [BitVec.getLsbD_or, BitVec.getLsbD_and, BitVec.getLsbD_not, BitVec.getLsbD_ofNat, Nat.testBit_and, hi, decide_true, Bool.true_and]
          cases a.testBit i <;> cases b.testBit i <;> rfl
        have h7 := congrArg BitVec.toNat ((BitVec.add_eq_or_of_and_eq_zero _ _ h5).trans h6)
        rw [BitVec.toNat_add, BitVec.toNat_ofNat, BitVec.toNat_ofNat, Nat.mod_eq_of_lt (by omega : a < 2 ^ 64), Nat.mod_eq_of_lt (by omega : a &&& b < 2 ^ 64)] at h7
        apply BitVec.eq_of_toNat_eq
        rw [BitVec.toNat_ofNat, Nat.mod_eq_of_lt (by omega)]
        have hl := (BitVec.ofNat 64 a &&& ~~~BitVec.ofNat 64 b).isLt
        have hle2 : (BitVec.ofNat 64 a &&& ~~~BitVec.ofNat 64 b).toNat ≤ a := by
          rw [BitVec.toNat_and, BitVec.toNat_ofNat, Nat.mod_eq_of_lt (by omega : a < 2 ^ 64)]
          exact Nat.and_le_left
        omega
      rw [hx, BitVec.toNat_ofNat, Nat.mod_eq_of_lt (by omega)]
    refine Eq.trans (congrArg IntKind.i64.wrap h) ?_
    exact wrap_in (by omega)
  rw [e, Bool.eq_iff_iff]
  have hle : a &&& b ≤ a := Nat.and_le_left
  simp only [beq_iff_eq, decide_eq_true_eq]
  omega
theorem swithin_c (a b : Nat) (ha : a < 2 ^ 63) (hb : b < 2 ^ 63) : PC Tryz.prog 83 [int a, int b] (boo (decide (a &&& b = a))) := by
  refine PC.body (c := Tryz.f83.body.getD .skip) (fun _ => false) mixed Tryz.func83 rfl (by kernel_rfl) ?_
  unfold Tryz.f83
  simp only [Option.getD_some]
  simp only [go_sem]
  exact cB (within_nat ha hb)
def suchB (q : Order → Bool) (l : List Order) (i : Nat) : Bool := match l[i]? with | some o => !o.off && q o | none => false
theorem suchB_at {q : Order → Bool} {l : List Order} {i : Nat} {o : Order} (h : l[i]? = some o) : suchB q l i = (!o.off && q o) := by unfold suchB; rw [h]
def suchN (q : Order → Bool) (l : List Order) : Nat := bitsN (suchB q l) l.length
theorem such_c {g : Nat} {q : Order → Bool} (x : Instance) (hx : x.orders.length ≤ 62) (hok : callOk Tryz.prog g = true) (hg : ∀ o ∈ x.orders, PC Tryz.prog g [.agg (encOrder o)] (boo (q o))) :
    PC Tryz.prog 151 [.agg (encInstance x), .v (.func (.func g) #[] #[])] (int (suchN q x.orders : Nat)) := by
  refine PC.body (c := Tryz.f151.body.getD .skip) (fun _ => false) mixed Tryz.func151 rfl (by kernel_rfl) ?_
  unfold Tryz.f151
  simp only [Option.getD_some]
  simp only [go_sem]
  unfold suchN
  generalize hp : suchB q x.orders = p
  refine ⟨fun ρ H => ∃ (k : Nat), k ≤ x.orders.length ∧ ρ 1 = .v (.func (.func g) #[] #[]) ∧ ρ 9 = .sl (x.orders.map encOrder) ∧ ρ 10 = int (x.orders.length : Nat) ∧ ρ 11 = int k ∧ ρ 5 = int (bitsN p k : Nat), fun ρ _ => x.orders.length - natOf (ρ 11), ⟨0, Nat.zero_le _, by simp only [go_sem], by simp only [go_sem], by simp only [go_sem, List.length_map], (by simp only [go_sem]; rfl), by simp only [go_sem]; rfl⟩, ?_⟩
  rintro ρ H ⟨k, hk, e1, e9, e10, e11, e5⟩
  simp only [go_sem, e1, e9, e10, e11, e5]
  refine acond_i (fun hlt => ?_) (fun hge => ?_)
  · have hlt := ltB hlt
    obtain ⟨o, ho⟩ := getIn hlt
    have b1 := inB hlt
    have hpk : p k = (!o.off && q o) := by rw [← hp]; exact suchB_at ho
    have hbl := bitsN_lt p k
    have hk2 : 2 ^ k ≤ 2 ^ 62 := Nat.pow_le_pow_right (by decide) (by omega)
    simp only [go_sem, e1, e9, e10, e11, e5, getD_map ho, b1]
    refine anew_i fun j hj => ?_
    simp only [go_sem, e1, e9, e10, e11, e5, getD_map ho, b1]
    refine wputE_n (updH_same _ _ _) (by simp [encOrder]) ?_
    simp only [go_sem, e1, e9, e10, e11, e5, getD_map ho, b1, hok]
    refine ⟨_, fun _ => (hg o (List.mem_of_getElem? ho)).q rfl, ?_⟩
    simp only [go_sem, e1, e9, e10, e11, e5]
    refine acond_i (fun hb => ?_) (fun hb => ?_)
    · have q1 := shl_in (i := k) (by omega)
      have q2 := or_nat (a := bitsN p k) (b := 2 ^ k) (by omega) (by omega)
      simp only [go_sem, e1, e9, e10, e11, e5, q1, q2, wrapS (show k ≤ 4611686018427387904 by omega)]
      refine ⟨by omega, ⟨k + 1, hlt, rfl, ?_⟩, by simp only [natOf_int]; omega⟩
      rw [or_low hbl, bitsN, hpk, if_pos hb]
    · simp only [go_sem, e1, e9, e10, e11, e5, wrapS (show k ≤ 4611686018427387904 by omega)]
      refine ⟨⟨k + 1, hlt, rfl, ?_⟩, by simp only [natOf_int]; omega⟩
      rw [bitsN, hpk, if_neg (by rw [hb]; simp), Nat.add_zero]
  · have hge := geB hk hge
    subst hge
    simp only [go_sem, e1, e9, e10, e11, e5]
    exact .refl _
def allO (x : Instance) : Nat := suchN (fun _ => true) x.orders
def mustO (x : Instance) : Nat := suchN (fun o => o.penalty == -1) x.orders
theorem all1_c (o : Order) : PC Tryz.prog 165 [.agg (encOrder o)] (boo true) := by
  refine PC.body (c := Tryz.f165.body.getD .skip) (fun _ => false) mixed Tryz.func165 rfl (by kernel_rfl) ?_
  unfold Tryz.f165
  simp only [Option.getD_some]
  simp only [go_sem]
  exact .refl _
theorem must1_c (o : Order) : PC Tryz.prog 152 [.agg (encOrder o)] (boo (o.penalty == -1)) := by
  refine PC.body (c := Tryz.f152.body.getD .skip) (fun _ => false) mixed Tryz.func152 rfl (by kernel_rfl) ?_
  unfold Tryz.f152
  simp only [Option.getD_some]
  simp only [go_sem]
  exact .refl _
theorem all_c (x : Instance) (hx : x.orders.length ≤ 62) : PC Tryz.prog 99 [.agg (encInstance x)] (int (allO x : Nat)) := by
  refine PC.body (c := Tryz.f99.body.getD .skip) (fun _ => false) mixed Tryz.func99 rfl (by kernel_rfl) ?_
  unfold Tryz.f99
  simp only [Option.getD_some]
  simp only [go_sem]
  refine PC.use (such_c x hx (by kernel_rfl) fun o _ => all1_c o) ?_
  simp only [go_sem]
  exact .refl _
theorem must_c (x : Instance) (hx : x.orders.length ≤ 62) : PC Tryz.prog 84 [.agg (encInstance x)] (int (mustO x : Nat)) := by
  refine PC.body (c := Tryz.f84.body.getD .skip) (fun _ => false) mixed Tryz.func84 rfl (by kernel_rfl) ?_
  unfold Tryz.f84
  simp only [Option.getD_some]
  simp only [go_sem]
  refine PC.use (such_c x hx (by kernel_rfl) fun o _ => must1_c o) ?_
  simp only [go_sem]
  exact .refl _
def existP (n : Nat) (set : Int) : Bool := decide (set ≥ 0) && (set / 2 ^ n == 0)
theorem exist_c (x : Instance) (set : Int) (hx : x.orders.length ≤ 62) : PC Tryz.prog 78 [.agg (encInstance x), int set] (boo (existP x.orders.length set)) := by
  refine PC.body (c := Tryz.f78.body.getD .skip) (fun _ => false) mixed Tryz.func78 rfl (by kernel_rfl) ?_
  unfold Tryz.f78
  simp only [Option.getD_some]
  simp only [go_sem]
  refine ⟨by omega, ?_⟩
  refine cB ?_
  rw [shr_in hx]
  rfl
end Go.Proofs.YtbcfajfngdmgnaaGreatDoor.Nu
end

section
set_option linter.unusedSimpArgs false
set_option linter.unusedVariables false
namespace Go.Proofs.YtbcfajfngdmgnaaGreatDoor.Nu
open Go.Aw Go.Aw.D Go.Proofs Ty Go.Nu
set_option maxRecDepth 100000
theorem indexFuncI_c {g : Nat} {cap : List AV} {p : Int → Bool} (l : List Int) (hl : l.length ≤ 1048576) (hok : callOk Tryz.prog g = true) (hg : ∀ v ∈ l, PC Tryz.prog g (int v :: cap) (boo (p v))) :
    ∃ n : Int, decide (n ≥ 0) = l.any p ∧ PC Tryz.prog 225 [.sl (l.map encInt), .fn g cap] (int n) := by
  refine ⟨match l.findIdx? p with | some i => (i : Int) | none => -1, ?_, ?_⟩
  · cases h : l.findIdx? p with
    | none =>
      have := List.findIdx?_eq_none_iff.1 h
      simp only
      rw [List.any_eq_false.2 (fun x hx => by rw [this x hx]; simp)]
      rfl
    | some i =>
      obtain ⟨hi, hp, _⟩ := List.findIdx?_eq_some_iff_getElem.1 h
      simp only
      rw [List.any_eq_true.2 ⟨l[i], List.getElem_mem hi, hp⟩]
      simp
  ·
    refine PC.body (c := Tryz.f225.body.getD .skip) (fun _ => false) mixed Tryz.func225 rfl (by kernel_rfl) ?_
    unfold Tryz.f225
    simp only [Option.getD_some]
    simp only [go_sem]
    refine ⟨fun ρ H => ∃ (k : Nat), k ≤ l.length ∧ ρ 0 = .sl (l.map encInt) ∧ ρ 1 = .fn g cap ∧ ρ 7 = int (l.length : Nat) ∧ ρ 8 = int k ∧ ∀ u ∈ l.take k, p u = false, fun ρ _ => l.length - natOf (ρ 8), ⟨0, Nat.zero_le _, by simp only [go_sem], by simp only [go_sem], by simp only [go_sem, List.length_map], (by simp only [go_sem]; rfl), by simp⟩, ?_⟩
    rintro ρ H ⟨k, hk, e0, e1, e7, e8, hz⟩
    simp only [go_sem, e0, e1, e7, e8]
    refine acond_i (fun hlt => ?_) (fun hge => ?_)
    · have hlt := ltB hlt
      obtain ⟨u, hu⟩ := getIn hlt
      have b1 := inB hlt
      simp only [go_sem, e0, e1, e7, e8, getD_map hu, b1, hok]
      refine PC.use (hg u (List.mem_of_getElem? hu)) ?_
      simp only [go_sem, e0, e1, e7, e8]
      refine acond_i (fun hb => ?_) (fun hb => ?_)
      · simp only [go_sem, e0, e1, e7, e8]
        have : l.findIdx? p = some k := by
          have hk' : k < l.length := hlt
          refine List.findIdx?_eq_some_iff_getElem.2 ⟨hk', ?_, fun j hj => ?_⟩
          · have := (List.getElem?_eq_some_iff.1 hu).2; rw [this]; exact hb
          · have := hz l[j] (List.mem_take_iff_getElem.2 ⟨j, by omega, rfl⟩); rw [this]; simp
        rw [this]
        exact .refl _
      · simp only [go_sem, e0, e1, e7, e8, wrapS (show k ≤ 4611686018427387904 by omega)]
        exact ⟨⟨k + 1, hlt, rfl, take_all' (p := fun u => p u = false) hu hb hz⟩, by simp only [natOf_int]; omega⟩
    · have hge := geB hk hge
      subst hge
      rw [List.take_length] at hz
      simp only [go_sem]
      rw [List.findIdx?_eq_none_iff.2 hz]
      exact .refl _
theorem containsFuncI_c {g : Nat} {cap : List AV} {p : Int → Bool} (l : List Int) (hl : l.length ≤ 1048576) (hok : callOk Tryz.prog g = true) (hg : ∀ v ∈ l, PC Tryz.prog g (int v :: cap) (boo (p v))) :
    PC Tryz.prog 155 [.sl (l.map encInt), .fn g cap] (boo (l.any p)) := by
  obtain ⟨n, hn, hc⟩ := indexFuncI_c l hl hok hg
  refine PC.body (c := Tryz.f155.body.getD .skip) (fun _ => false) mixed Tryz.func155 rfl (by kernel_rfl) ?_
  unfold Tryz.f155
  simp only [Option.getD_some]
  simp only [go_sem]
  refine PC.use hc ?_
  simp only [go_sem]
  exact cB hn
def orderAt (l : List Order) (i : Int) : Order := l.getD i.toNat ⟨ByteArray.empty, [], ⟨0, 0, 0, 0⟩, ⟨0, 0, 0, 0⟩, 0, 0, 0, 0, 0, false⟩
theorem orderAt_get {l : List Order} {i : Nat} {o : Order} (h : l[i]? = some o) : orderAt l (i : Int) = o := by simp [orderAt, List.getD, h]
def Memb (l : List Order) (ms : List Int) : Prop := ∀ i ∈ ms, 0 ≤ i ∧ i < (l.length : Int)
theorem together11_c (x : Instance) (g : Nat) (q : Order → Int) (i : Int) (hi : 0 ≤ i ∧ i < (x.orders.length : Int)) (hok : callOk Tryz.prog g = true) (hg : ∀ o, PC Tryz.prog g [.agg (encOrder o)] (int (q o))) :
    PC Tryz.prog 156 [int i, .rp [.v (.func (.func g) #[] #[])] 0, .rp (encInstance x) 0] (boo (decide (q (orderAt x.orders i) ≥ 0))) := by
  obtain ⟨n, rfl⟩ := Int.eq_ofNat_of_zero_le hi.1
  have hlt : n < x.orders.length := by omega
  obtain ⟨o, ho⟩ := getIn hlt
  have b1 := inB hlt
  rw [orderAt_get ho]
  refine PC.body (c := Tryz.f156.body.getD .skip) (fun _ => false) mixed Tryz.func156 rfl (by kernel_rfl) ?_
  unfold Tryz.f156
  simp only [Option.getD_some]
  simp only [go_sem]
  refine adraw_q (by rfl) (by kernel_rfl) ?_
  simp only [go_sem, getD_map ho, b1, hok]
  refine ⟨_, (hg o).q rfl, ?_⟩
  simp only [go_sem]
  exact .refl _
theorem togetherP_c (o : Order) : PC Tryz.prog 157 [.agg (encOrder o)] (int o.pick.place) := by
  refine PC.body (c := Tryz.f157.body.getD .skip) (fun _ => false) mixed Tryz.func157 rfl (by kernel_rfl) ?_
  unfold Tryz.f157
  simp only [Option.getD_some]
  simp only [go_sem]
  exact .refl _
theorem togetherD_c (o : Order) : PC Tryz.prog 158 [.agg (encOrder o)] (int o.drop.place) := by
  refine PC.body (c := Tryz.f158.body.getD .skip) (fun _ => false) mixed Tryz.func158 rfl (by kernel_rfl) ?_
  unfold Tryz.f158
  simp only [Option.getD_some]
  simp only [go_sem]
  exact .refl _
theorem together1_c (x : Instance) (g : Nat) (q : Order → Int) (ms : List Int) (hm : Memb x.orders ms) (hl : ms.length ≤ 1048576) (hok : callOk Tryz.prog g = true) (hg : ∀ o, PC Tryz.prog g [.agg (encOrder o)] (int (q o))) :
    PC Tryz.prog 154 [.v (.func (.func g) #[] #[]), .rp [.sl (ms.map encInt)] 0, .rp (encInstance x) 0] (boo (!(ms.any fun i => decide (q (orderAt x.orders i) ≥ 0)))) := by
  refine PC.body (c := Tryz.f154.body.getD .skip) (fun _ => false) mixed Tryz.func154 rfl (by kernel_rfl) ?_
  unfold Tryz.f154
  simp only [Option.getD_some]
  simp only [go_sem]
  refine PC.use (containsFuncI_c (p := fun i => decide (q (orderAt x.orders i) ≥ 0)) ms hl (by kernel_rfl) (fun i hi => together11_c x g q i (hm i hi) hok hg)) ?_
  simp only [go_sem]
  exact .refl _
def togP (x : Instance) (ms : List Int) : Bool := !(ms.any fun i => decide ((orderAt x.orders i).pick.place ≥ 0)) || !(ms.any fun i => decide ((orderAt x.orders i).drop.place ≥ 0))
theorem together_c (x : Instance) (ms : List Int) (hm : Memb x.orders ms) (hl : ms.length ≤ 1048576) : PC Tryz.prog 86 [.agg (encInstance x), .sl (ms.map encInt)] (boo (togP x ms)) := by
  refine PC.body (c := Tryz.f86.body.getD .skip) (fun _ => false) mixed Tryz.func86 rfl (by kernel_rfl) ?_
  unfold Tryz.f86
  simp only [Option.getD_some]
  simp only [go_sem]
  refine PC.use (together1_c x _ (fun o => o.pick.place) ms hm hl (by kernel_rfl) togetherP_c) ?_
  simp only [go_sem]
  refine ⟨_, fun _ => (together1_c x _ (fun o => o.drop.place) ms hm hl (by kernel_rfl) togetherD_c).q rfl, ?_⟩
  simp only [go_sem]
  exact .refl _
end Go.Proofs.YtbcfajfngdmgnaaGreatDoor.Nu
end

section
set_option linter.unusedSimpArgs false
set_option linter.unusedVariables false
namespace Go.Proofs.YtbcfajfngdmgnaaGreatDoor.Nu
open Go.Aw Go.Aw.D Go.Proofs Ty Go.Nu
set_option maxRecDepth 100000
def tripsF : List Int → List Int → Int → Int × Int
  | n :: a, c :: l, t => if n ≤ 0 then tripsF a l t else if c = 0 then (0, 24) else tripsF a l (imax t ((n + c - 1).tdiv c))
  | _, _, t => (t, 0)
def tripsL (a c : List Int) : Int × Int := if a.length ≠ c.length then (0, 2) else if c.any (fun n => decide (n < 0)) = true then (0, 2) else tripsF a c 0
def Mid (n : Int) : Prop := -1099511627776 ≤ n ∧ n ≤ 1099511627776
theorem ltrips_c (a c : List Int) (hl : a.length ≤ 1048576) (hl2 : c.length ≤ 1048576) (ha : ∀ n ∈ a, Mid n) (hc : ∀ n ∈ c, Mid n) :
    PC Tryz.prog 159 [.sl (a.map encInt), .sl (c.map encInt)] (.tup [int (tripsL a c).1, int (tripsL a c).2]) := by
  refine PC.body (c := Tryz.f159.body.getD .skip) (fun _ => false) mixed Tryz.func159 rfl (by kernel_rfl) ?_
  unfold Tryz.f159
  simp only [Option.getD_some]
  simp only [go_sem]
  refine acond_i (fun hb => ?_) (fun hb => ?_)
  · have hb : a.length ≠ c.length := neN hb
    simp only [go_sem]
    rw [show tripsL a c = (0, 2) from if_pos hb]
    exact .refl _
  have hb : a.length = c.length := eqN hb
  have e0 : tripsL a c = if c.any (fun n => decide (n < 0)) = true then (0, 2) else tripsF a c 0 := if_neg (by simp [hb])
  rw [e0]
  simp only [go_sem, List.length_map]
  refine ⟨fun ρ H => ∃ (k : Nat), k ≤ c.length ∧ ρ 0 = .sl (a.map encInt) ∧ ρ 1 = .sl (c.map encInt) ∧ ρ 17 = .sl (c.map encInt) ∧ ρ 18 = int (c.length : Nat) ∧ ρ 19 = int k ∧ ∀ n ∈ c.take k, 0 ≤ n, fun ρ _ => c.length - natOf (ρ 19), ⟨0, Nat.zero_le _, by simp only [go_sem], by simp only [go_sem], by simp only [go_sem], by simp only [go_sem, List.length_map], (by simp only [go_sem]; rfl), by simp⟩, ?_⟩
  rintro ρ H ⟨k, hk, e0, e1, e17, e18, e19, hz⟩
  simp only [go_sem, e0, e1, e17, e18, e19]
  refine acond_i (fun hlt => ?_) (fun hge => ?_)
  · have hlt := ltB hlt
    obtain ⟨n, hn⟩ := getIn hlt
    have b1 := inB hlt
    simp only [go_sem, e0, e1, e17, e18, e19, getD_map hn, b1]
    refine acond_i (fun hd => ?_) (fun hd => ?_)
    · simp only [go_sem]
      rw [if_pos (any_yes hn hd)]
      exact .refl _
    · simp only [go_sem, e0, e1, e17, e18, e19, wrapS (show k ≤ 4611686018427387904 by omega)]
      exact ⟨⟨k + 1, hlt, rfl, take_all' hn (by simpa using hd) hz⟩, by simp only [natOf_int]; omega⟩
  have hge := geB hk hge
  subst hge
  rw [List.take_length] at hz
  rw [if_neg (by rw [any_none fun n hn => by simpa using hz n hn]; simp)]
  simp only [go_sem, e0, e1, e17, e18, e19, List.length_map]
  refine ⟨fun ρ H => ∃ (k : Nat) (t:Int), k ≤ a.length ∧ ρ 1 = .sl (c.map encInt) ∧ ρ 26 = .sl (a.map encInt) ∧ ρ 27 = int (a.length : Nat) ∧ ρ 28 = int k ∧ ρ 8 = int t ∧ tripsF a c 0 = tripsF (a.drop k) (c.drop k) t, fun ρ _ => a.length - natOf (ρ 28), ⟨0, 0, Nat.zero_le _, by simp only [go_sem, e0, e1, e17, e18, e19], by simp only [go_sem, e0, e1, e17, e18, e19], by simp only [go_sem, List.length_map, e0, e1, e17, e18, e19], (by simp only [go_sem, e0, e1, e17, e18, e19]; rfl), by simp only [go_sem], rfl⟩, ?_⟩
  rintro ρ H ⟨k, t, hk, e1, e26, e27, e28, e8, hi⟩
  simp only [go_sem, e1, e26, e27, e28, e8]
  refine acond_i (fun hlt => ?_) (fun hge => ?_)
  · have hlt := ltB hlt
    obtain ⟨n, hn⟩ := getIn hlt
    obtain ⟨m, hm⟩ := getIn (l := c) (k := k) (by omega)
    have b1 := inB hlt
    have b2 := inB (show k < c.length by omega)
    have hn1 := ha n (List.mem_of_getElem? hn)
    have hm1 := hc m (List.mem_of_getElem? hm)
    have hm0 := hz m (List.mem_of_getElem? hm)
    unfold Mid at hn1 hm1
    rw [drop_at hn, drop_at hm, tripsF] at hi
    simp only [go_sem, e1, e26, e27, e28, e8, getD_map hn, getD_map hm, b1, b2]
    refine acond_i (fun hd => ?_) (fun hd => ?_)
    · rw [if_pos (by simpa using hd)] at hi
      simp only [go_sem, e1, e26, e27, e28, e8, wrapS (show k ≤ 4611686018427387904 by omega)]
      exact ⟨⟨k + 1, t, hlt, rfl, rfl, hi⟩, by simp only [natOf_int]; omega⟩
    have hd : ¬ n ≤ 0 := by simpa using hd
    rw [if_neg hd] at hi
    simp only [go_sem, e1, e26, e27, e28, e8]
    refine acond_i (fun h0 => ?_) (fun h0 => ?_)
    · rw [if_pos (by simpa using h0)] at hi
      rw [hi]
      simp only [go_sem]
      exact .refl _
    have h0 : m ≠ 0 := by simpa using h0
    rw [if_neg h0] at hi
    have w1 : IntKind.i64.wrap (n + m) = n + m := wrap_in (by omega)
    have w2 : IntKind.i64.wrap (n + m - 1) = n + m - 1 := wrap_in (by omega)
    have w3 : IntKind.i64.wrap ((n + m - 1).tdiv m) = (n + m - 1).tdiv m := wrap_in (by
      have h1 := Int.tdiv_nonneg (a := n + m - 1) (b := m) (by omega) (by omega)
      have h2 := Int.tdiv_le_self m (a := n + m - 1) (by omega)
      omega)
    simp only [go_sem, e1, e26, e27, e28, e8, w1, w2, w3, wrapS (show k ≤ 4611686018427387904 by omega)]
    exact ⟨h0, ⟨k + 1, _, hlt, rfl, rfl, hi⟩, by simp only [natOf_int]; omega⟩
  · have hge := geB hk hge
    subst hge
    have ea : a.drop a.length = [] := List.drop_length
    have : tripsF a c 0 = (t, 0) := by rw [hi, ea]; unfold tripsF; rfl
    rw [this]
    simp only [go_sem, e1, e26, e27, e28, e8]
    exact .refl _
def loadOf (l : List Order) (dim : Nat) (i : Int) : Int := (orderAt l i).load.getD dim 0
def loadSum (l : List Order) (ms : List Int) (dim : Nat) : Int := (ms.map (loadOf l dim)).sum
def capMax (l : List VType) (dim : Nat) : Int := l.foldl (fun c t => imax c (t.cap.getD dim 0)) 0
def tripsD (x : Instance) (ms : List Int) (dim : Nat) : Int := if (tripsL [loadSum x.orders ms dim] [capMax x.types dim]).2 ≠ 0 then 0 else (tripsL [loadSum x.orders ms dim] [capMax x.types dim]).1
structure LoadsOk (x : Instance) (d : Nat) : Prop where
  dims : d ≤ 3
  orders : x.orders.length ≤ 62
  types : x.types.length ≤ 1048576
  load : ∀ o ∈ x.orders, o.load.length = d ∧ ∀ n ∈ o.load, 0 ≤ n ∧ n ≤ 1000
  cap : ∀ t ∈ x.types, t.cap.length = d ∧ ∀ n ∈ t.cap, 0 ≤ n ∧ n ≤ 1000
theorem loadOf_in {x : Instance} {d dim : Nat} (h : LoadsOk x d) (hd : dim < d) {i : Int} (hi : 0 ≤ i ∧ i < (x.orders.length : Int)) : 0 ≤ loadOf x.orders dim i ∧ loadOf x.orders dim i ≤ 1000 := by
  obtain ⟨n, rfl⟩ := Int.eq_ofNat_of_zero_le hi.1
  obtain ⟨o, ho⟩ := getIn (show n < x.orders.length by omega)
  unfold loadOf
  rw [orderAt_get ho]
  obtain ⟨h1, h2⟩ := h.load o (List.mem_of_getElem? ho)
  obtain ⟨v, hv⟩ := getIn (show dim < o.load.length by omega)
  rw [List.getD, hv]
  exact h2 v (List.mem_of_getElem? hv)
theorem loadSum_in {x : Instance} {d dim : Nat} (h : LoadsOk x d) (hd : dim < d) : ∀ {ms : List Int}, Memb x.orders ms → 0 ≤ loadSum x.orders ms dim ∧ loadSum x.orders ms dim ≤ 1000 * ms.length
  | [], _ => by simp [loadSum]
  | i :: ms, hm => by
    have h1 := loadOf_in h hd (hm i (by simp))
    have h2 := loadSum_in h hd (ms := ms) fun j hj => hm j (by simp [hj])
    unfold loadSum at h2 ⊢
    rw [List.map_cons, List.sum_cons, List.length_cons]
    omega
theorem loadSum_snoc (l : List Order) (ms : List Int) (i : Int) (dim : Nat) : loadSum l (ms ++ [i]) dim = loadSum l ms dim + loadOf l dim i := by simp [loadSum]
theorem capMax_snoc (l : List VType) (t : VType) (dim : Nat) : capMax (l ++ [t]) dim = imax (capMax l dim) (t.cap.getD dim 0) := by simp [capMax]
theorem imax_in {a b c : Int} (h1 : 0 ≤ a ∧ a ≤ c) (h2 : 0 ≤ b ∧ b ≤ c) : 0 ≤ imax a b ∧ imax a b ≤ c := by unfold imax; split <;> omega
theorem capMax_in {x : Instance} {d dim : Nat} (h : LoadsOk x d) (hd : dim < d) : ∀ k, 0 ≤ capMax (x.types.take k) dim ∧ capMax (x.types.take k) dim ≤ 1000
  | 0 => by simp [capMax]
  | k + 1 => by
    have ih := capMax_in h hd k
    rcases Nat.lt_or_ge k x.types.length with hk | hk
    · obtain ⟨t, ht⟩ := getIn hk
      rw [take_succ ht, capMax_snoc]
      obtain ⟨h1, h2⟩ := h.cap t (List.mem_of_getElem? ht)
      obtain ⟨v, hv⟩ := getIn (show dim < t.cap.length by omega)
      refine imax_in ih ?_
      rw [List.getD, hv]
      exact h2 v (List.mem_of_getElem? hv)
    · rw [List.take_of_length_le (by omega)] at ih ⊢; exact ih
theorem trips_c (x : Instance) (ms : List Int) (dim d : Nat) (h : LoadsOk x d) (hd : dim < d) (hm : Memb x.orders ms) (hl : ms.length ≤ 63) :
    PC Tryz.prog 87 [.agg (encInstance x), .sl (ms.map encInt), int dim] (int (tripsD x ms dim)) := by
  have ho62 := h.orders
  have ht62 := h.types
  refine PC.body (c := Tryz.f87.body.getD .skip) (fun _ => false) mixed Tryz.func87 rfl (by kernel_rfl) ?_
  unfold Tryz.f87
  simp only [Option.getD_some]
  simp only [go_sem]
  refine ⟨fun ρ H => ∃ (k : Nat), k ≤ ms.length ∧ ρ 2 = int dim ∧ ρ 3 = .rp (encInstance x) 0 ∧ ρ 8 = int 0 ∧ ρ 15 = .sl (ms.map encInt) ∧ ρ 16 = int (ms.length : Nat) ∧ ρ 17 = int k ∧ ρ 7 = int (loadSum x.orders (ms.take k) dim), fun ρ _ => ms.length - natOf (ρ 17), ⟨0, Nat.zero_le _, by simp only [go_sem], by simp only [go_sem], by simp only [go_sem], by simp only [go_sem], by simp only [go_sem, List.length_map], (by simp only [go_sem]; rfl), by simp only [go_sem]; rfl⟩, ?_⟩
  rintro ρ H ⟨k, hk, e2, e3, e8, e15, e16, e17, e7⟩
  simp only [go_sem, e2, e3, e8, e15, e16, e17, e7]
  refine acond_i (fun hlt => ?_) (fun hge => ?_)
  · have hlt := ltB hlt
    obtain ⟨i, hi⟩ := getIn hlt
    have b1 := inB hlt
    have him := hm i (List.mem_of_getElem? hi)
    have hlo := loadOf_in h hd him
    have hls := loadSum_in h hd (ms := ms.take k) fun j hj => hm j (List.mem_of_mem_take hj)
    have hnx := loadSum_snoc x.orders (ms.take k) i dim
    rw [← take_succ hi] at hnx
    obtain ⟨n, rfl⟩ := Int.eq_ofNat_of_zero_le him.1
    have hn : n < x.orders.length := by omega
    obtain ⟨o, hor⟩ := getIn hn
    obtain ⟨ho1, ho2⟩ := h.load o (List.mem_of_getElem? hor)
    obtain ⟨v, hv⟩ := getIn (show dim < o.load.length by omega)
    have hlv : loadOf x.orders dim (n : Int) = v := by unfold loadOf; rw [orderAt_get hor, List.getD, hv]; rfl
    have b2 := inB hn
    have b3 := inB (show dim < o.load.length by omega)
    have hkl : (ms.take k).length ≤ 63 := by rw [List.length_take]; omega
    have w1 : IntKind.i64.wrap (loadSum x.orders (ms.take k) dim + v) = loadSum x.orders (ms.take (k + 1)) dim := by rw [hnx, hlv, wrap_in (by omega)]
    simp only [go_sem, e2, e3, e8, e15, e16, e17, e7, getD_map hi, b1, getD_map hor, b2, getD_map hv, b3, w1, wrapS (show k ≤ 4611686018427387904 by omega)]
    exact ⟨⟨k + 1, hlt, rfl, rfl⟩, by simp only [natOf_int]; omega⟩
  have hge := geB hk hge
  subst hge
  rw [List.take_length] at e7
  simp only [go_sem, e2, e3, e8, e15, e16, e17, e7, List.length_map]
  refine ⟨fun ρ H => ∃ (k : Nat), k ≤ x.types.length ∧ ρ 2 = int dim ∧ ρ 7 = int (loadSum x.orders ms dim) ∧ ρ 34 = .sl (x.types.map encVType) ∧ ρ 35 = int (x.types.length : Nat) ∧ ρ 36 = int k ∧ ρ 8 = int (capMax (x.types.take k) dim), fun ρ _ => x.types.length - natOf (ρ 36), ⟨0, Nat.zero_le _, by simp only [go_sem, e2, e3, e8, e15, e16, e17, e7], by simp only [go_sem, e2, e3, e8, e15, e16, e17, e7], by simp only [go_sem, e2, e3, e8, e15, e16, e17, e7], by simp only [go_sem, List.length_map, e2, e3, e8, e15, e16, e17, e7], (by simp only [go_sem, e2, e3, e8, e15, e16, e17, e7]; rfl), by simp only [go_sem, e8]; rfl⟩, ?_⟩
  rintro ρ H ⟨k, hk, e2, e7, e34, e35, e36, e8⟩
  simp only [go_sem, e2, e7, e34, e35, e36, e8]
  refine acond_i (fun hlt => ?_) (fun hge => ?_)
  · have hlt := ltB hlt
    obtain ⟨t, ht⟩ := getIn hlt
    have b1 := inB hlt
    obtain ⟨h1, h2⟩ := h.cap t (List.mem_of_getElem? ht)
    obtain ⟨v, hv⟩ := getIn (show dim < t.cap.length by omega)
    have b3 := inB (show dim < t.cap.length by omega)
    simp only [go_sem, e2, e7, e34, e35, e36, e8, getD_map ht, b1]
    refine anew_i fun j hj0 => ?_
    simp only [go_sem, e2, e7, e34, e35, e36, e8, getD_map ht, b1]
    refine wputE_n (updH_same _ _ _) (by simp [encVType_len]) ?_
    generalize hGj : updH (updH _ j _) j _ = HGj
    have R : HGj j = some (typeRow t) := by rw [← hGj, updH_same]; rfl
    clear hGj hj0
    simp only [go_sem, e2, e7, e34, e35, e36, e8, getD_map ht, b1, R]
    simp only [go_sem, e2, e7, e34, e35, e36, e8, getD_map hv, b3, wrapS (show k ≤ 4611686018427387904 by omega)]
    refine ⟨⟨k + 1, hlt, rfl, ?_⟩, by simp only [natOf_int]; omega⟩
    rw [take_succ ht, capMax_snoc, List.getD, hv]
    rfl
  have hge := geB hk hge
  subst hge
  rw [List.take_length] at e8
  have hL := loadSum_in h hd hm
  have hC := capMax_in h hd x.types.length
  rw [List.take_length] at hC
  simp only [go_sem, e2, e7, e34, e35, e36, e8]
  have hm1 : ∀ n ∈ [loadSum x.orders ms dim], Mid n := fun n hn => by rw [List.mem_singleton.1 hn]; unfold Mid; omega
  have hm2 : ∀ n ∈ [capMax x.types dim], Mid n := fun n hn => by rw [List.mem_singleton.1 hn]; unfold Mid; omega
  refine PC.use (ltrips_c [loadSum x.orders ms dim] [capMax x.types dim] (by simp) (by simp) hm1 hm2) ?_
  unfold tripsD
  generalize tripsL [loadSum x.orders ms dim] [capMax x.types dim] = T
  simp only [go_sem]
  refine acond_i (fun hb => ?_) (fun hb => ?_)
  · simp only [go_sem]
    rw [if_pos (by simpa using hb)]
    exact .refl _
  · simp only [go_sem]
    rw [if_neg (by simpa using hb)]
    exact .refl _
end Go.Proofs.YtbcfajfngdmgnaaGreatDoor.Nu
end
