/- Texts joined by a program: CuAcc, ChP, ChR, CuQ, ChQ, CuA, CuB. -/
import Derived.Test.YtbcfajfngdmgnaaGreatDoorZh13
import Derived.Test.YtbcfajfngdmgnaaGreatDoorZh20
import Derived.Test.YtbcfajfngdmgnaaGreatDoorZh23
import Derived.Test.YtbcfajfngdmgnaaGreatDoorZh29

section
set_option linter.unusedSimpArgs false
set_option linter.unusedVariables false
namespace Go.Proofs.YtbcfajfngdmgnaaGreatDoor
open Go.Aw Go.Aw.D Go.Proofs Ty
set_option maxRecDepth 100000
theorem opt_nil {α : Type} {b : Bool} {f : α} (h : opt b f = []) : b = false := by cases b <;> simp [opt] at h ⊢
theorem inR_iff {n a b : Int} : inR n a b = true ↔ a ≤ n ∧ n ≤ b := by
  unfold inR
  simp only [Bool.and_eq_true, decide_eq_true_eq]
theorem not_f {b : Bool} (h : (!b) = false) : b = true := by simpa using h
structure TypeB (t : VType) (d : Int) : Prop where
  cap : capR t.cap d = true
  skills : 0 ≤ t.skills ∧ t.skills ≤ 1073741823
  start : 0 ≤ t.start ∧ t.start ≤ t.close
  close : t.close ≤ 4096
  drive : 1 ≤ t.drive ∧ t.drive ≤ 4096
  rest : 0 ≤ t.rest ∧ t.rest ≤ 4096
  count : 0 ≤ t.count ∧ t.count ≤ 10
theorem typeB_of {n : Network} {l : List VType} {k : Nat} {t : VType} (h : typeErrs n l k t = []) : TypeB t (dimsR l) := by
  unfold typeErrs at h
  simp only [List.nil_append, List.append_eq_nil_iff] at h
  obtain ⟨⟨⟨⟨⟨⟨⟨⟨_, _⟩, h3⟩, _⟩, h5⟩, h6⟩, h7⟩, h8⟩, h9⟩ := h
  have e3 := inR_iff.1 (not_f (opt_nil h3))
  have e5 := not_f (opt_nil h5)
  have e6 := inR_iff.1 (not_f (opt_nil h6))
  have e7 := Bool.or_eq_false_iff.1 (opt_nil h7)
  have e8 := Bool.or_eq_false_iff.1 (opt_nil h8)
  have q7 := inR_iff.1 (not_f e7.1)
  have q72 : ¬ t.close > 4096 := by simpa using e7.2
  exact ⟨e5, e6, q7, by omega, inR_iff.1 (not_f e8.1), inR_iff.1 (not_f e8.2), e3⟩
structure OrdB (o : Order) (d : Int) : Prop where
  load : rightL o.load d = true
  pick : -1 ≤ o.pick.place
  drop : -1 ≤ o.drop.place
  both : (o.pick.place == -1 && o.drop.place == -1) = false
  wpick : windowR o.pick = 0
  wdrop : windowR o.drop = 0
  skills : 0 ≤ o.skills ∧ o.skills ≤ 1073741823
  penalty : -1 ≤ o.penalty ∧ o.penalty ≤ 1000000
theorem ordB_of {P : Nat} {d T : Int} {l : List Order} {k : Nat} {o : Order} (h : orderErrs P d T l k o = []) : OrdB o d := by
  unfold orderErrs at h
  simp only [List.nil_append, List.append_eq_nil_iff] at h
  obtain ⟨⟨⟨⟨⟨⟨⟨_, _⟩, h3⟩, h4⟩, h5⟩, h6⟩, h7⟩, h8⟩ := h
  have e4 := Bool.or_eq_false_iff.1 (opt_nil h4)
  have e6 := Bool.or_eq_false_iff.1 (opt_nil h6)
  have e8 := opt_nil h8
  simp only [Bool.or_eq_false_iff] at e8
  refine ⟨not_f (opt_nil h3), (inR_iff.1 (not_f e4.1)).1, (inR_iff.1 (not_f e4.2)).1, opt_nil h5, by simpa using e6.1, by simpa using e6.2, inR_iff.1 (not_f (opt_nil h7)), inR_iff.1 (not_f e8.1.1.1.1.1.1)⟩
structure ArcOk (a : Arc) : Prop where
  travel : travelR a.travel = []
  slow : a.slow.length ≤ 16
  pt : ∀ p ∈ a.slow, (0 ≤ p.t ∧ p.t ≤ 4096) ∧ 0 ≤ p.a ∧ p.a ≤ 4096
theorem arcOk_of {n : Network} {k : Nat} {a : Arc} (ha : n.arcs[k]? = some a) (h : arcR n k = []) : ArcOk a := by
  unfold arcR at h
  rw [arcAt_get ha] at h
  simp only [List.nil_append, List.append_eq_nil_iff, List.map_eq_nil_iff] at h
  obtain ⟨⟨⟨_, h4⟩, h5⟩, h6⟩ := h
  have e5 : ¬ (a.slow.length : Int) > 16 := by simpa using opt_nil h5
  refine ⟨h4, by omega, fun p hp => ?_⟩
  obtain ⟨i, hi, rfl⟩ := List.getElem_of_mem hp
  have := List.flatMap_eq_nil_iff.1 h6 i (List.mem_range.2 hi)
  have hb := opt_nil this
  unfold badSlow at hb
  rw [ptAt_get (List.getElem?_eq_getElem hi)] at hb
  simp only [Bool.or_eq_false_iff] at hb
  exact ⟨inR_iff.1 (not_f hb.1.1), inR_iff.1 (not_f hb.1.2)⟩
structure PairB (N : Int) (q : Pair) : Prop where
  a : 0 ≤ q.a ∧ q.a < N
  b : 0 ≤ q.b ∧ q.b < N
  ne : q.a ≠ q.b
theorem pairB_of {N : Int} {l : List Pair} {w : ByteArray} {s : Bool} (h : pairsR N l w s = []) : l.length ≤ 16 ∧ ∀ q ∈ l, PairB N q := by
  unfold pairsR at h
  rw [List.append_eq_nil_iff] at h
  have e1 : ¬ (l.length : Int) > 16 := by simpa using opt_nil h.1
  refine ⟨by omega, fun q hq => ?_⟩
  obtain ⟨i, hi, rfl⟩ := List.getElem_of_mem hq
  have := List.flatMap_eq_nil_iff.1 h.2 i (List.mem_range.2 hi)
  unfold pairFaults at this
  have ep : pAt l i = l[i] := by simp [pAt, List.getD, hi]
  rw [ep] at this
  split at this
  · simp at this
  · rename_i hb
    unfold Go.Proofs.YtbcfajfngdmgnaaGreatDoor.badPair at hb
    simp only [Bool.or_eq_false_iff, decide_eq_false_iff_not] at hb
    exact ⟨by omega, by omega, by simpa using hb.2⟩
structure Acc (x : Instance) : Prop where
  arcs : x.net.arcs.length ≤ 1024
  arc : ∀ a ∈ x.net.arcs, ArcOk a
  types : 1 ≤ x.types.length ∧ x.types.length ≤ 6
  type : ∀ t ∈ x.types, TypeB t (dimsR x.types)
  orders : x.orders.length ≤ 10
  order : ∀ o ∈ x.orders, OrdB o (dimsR x.types)
  apart : x.apart.length ≤ 16
  apartB : ∀ q ∈ x.apart, PairB x.orders.length q
  before : x.before.length ≤ 16
  beforeB : ∀ q ∈ x.before, PairB x.orders.length q
theorem acc_of {x : Instance} (h : checkR x = []) : Acc x := by
  unfold checkR at h
  simp only [List.append_eq_nil_iff, List.map_eq_nil_iff] at h
  obtain ⟨⟨⟨hn, ht⟩, ho⟩, hr⟩ := h
  unfold netR at hn
  simp only [List.append_eq_nil_iff] at hn
  unfold typesR at ht
  rw [List.append_eq_nil_iff] at ht
  unfold ordersR at ho
  rw [List.append_eq_nil_iff] at ho
  unfold rulesR at hr
  rw [List.append_eq_nil_iff] at hr
  obtain ⟨r1, r2⟩ := pairB_of hr.1
  obtain ⟨r3, r4⟩ := pairB_of hr.2
  have e1 : ¬ (x.net.arcs.length : Int) > 1024 := by simpa using opt_nil hn.1.2
  have e2 := inR_iff.1 (not_f (opt_nil ht.1))
  have e3 : ¬ (x.orders.length : Int) > 10 := by simpa using opt_nil ho.1
  refine ⟨by omega, fun a ha => ?_, by omega, fun t htm => ?_, by omega, fun o hom => ?_, r1, r2, r3, r4⟩
  · obtain ⟨i, hi, rfl⟩ := List.getElem_of_mem ha
    exact arcOk_of (List.getElem?_eq_getElem hi) (List.flatMap_eq_nil_iff.1 hn.2 i (List.mem_range.2 hi))
  · obtain ⟨i, hi, rfl⟩ := List.getElem_of_mem htm
    have := List.flatMap_eq_nil_iff.1 ht.2 i (List.mem_range.2 hi)
    unfold typeFaults at this
    rw [List.map_eq_nil_iff, vtAt_get (List.getElem?_eq_getElem hi)] at this
    exact typeB_of this
  · obtain ⟨i, hi, rfl⟩ := List.getElem_of_mem hom
    have := List.flatMap_eq_nil_iff.1 ho.2 i (List.mem_range.2 hi)
    unfold orderFaults at this
    rw [List.map_eq_nil_iff, orAt_get (List.getElem?_eq_getElem hi)] at this
    exact ordB_of this
end Go.Proofs.YtbcfajfngdmgnaaGreatDoor
end

section
set_option linter.unusedSimpArgs false
set_option linter.unusedVariables false
namespace Go.Nu
def sumK : Nat → (Nat → Int) → Int
  | 0, _ => 0
  | n + 1, f => sumK n f + f n
theorem sumK_add (f g : Nat → Int) : ∀ n, sumK n (fun i => f i + g i) = sumK n f + sumK n g
  | 0 => rfl
  | n + 1 => by simp only [sumK, sumK_add f g n]; omega
theorem sumK_le {f g : Nat → Int} : ∀ {n}, (∀ i, i < n → f i ≤ g i) → sumK n f ≤ sumK n g
  | 0, _ => Int.le_refl _
  | n + 1, h => by
    have := sumK_le (n := n) fun i hi => h i (by omega)
    have := h n (by omega)
    simp only [sumK]; omega
theorem sumK_congr {f g : Nat → Int} : ∀ {n}, (∀ i, i < n → f i = g i) → sumK n f = sumK n g
  | 0, _ => rfl
  | n + 1, h => by simp only [sumK, sumK_congr (n := n) fun i hi => h i (by omega), h n (by omega)]
theorem sumK_zero : ∀ n, sumK n (fun _ => 0) = 0
  | 0 => rfl
  | n + 1 => by simp only [sumK, sumK_zero n]; rfl
theorem sumK_nonneg {f : Nat → Int} {n : Nat} (h : ∀ i, i < n → 0 ≤ f i) : 0 ≤ sumK n f := by
  have := sumK_le h
  rwa [sumK_zero] at this
theorem sumK_term {f : Nat → Int} {i : Nat} : ∀ {n : Nat}, (∀ i, i < n → 0 ≤ f i) → i < n → f i ≤ sumK n f
  | n + 1, h, hi => by
    have h0 := sumK_nonneg (n := n) fun i hi => h i (by omega)
    have h1 := h n (by omega)
    show f i ≤ sumK n f + f n
    by_cases e : i = n
    · subst e; omega
    · have := sumK_term (n := n) (fun i hi => h i (by omega)) (show i < n by omega)
      omega
theorem sumK_cut {f : Nat → Int} {n : Nat} (h : ∀ i, n ≤ i → f i = 0) : ∀ m, sumK (n + m) f = sumK n f
  | 0 => rfl
  | m + 1 => by
    show sumK (n + m) f + f (n + m) = _
    rw [sumK_cut h m, h _ (by omega)]; omega
def meetW (k : Nat) (w : Nat → Int) (S s : Nat) : Int := sumK k fun i => if (S.testBit i && s.testBit i) = true then w i else 0
def cntI (l : List Nat) (i : Nat) : Nat := l.countP fun s => s.testBit i
theorem meet_swap (k : Nat) (w : Nat → Int) (S : Nat) : ∀ l : List Nat, (l.map (meetW k w S)).sum = sumK k fun i => if S.testBit i = true then (cntI l i : Int) * w i else 0
  | [] => by
    rw [List.map_nil, List.sum_nil]
    refine (sumK_zero k).symm.trans (sumK_congr fun i _ => ?_)
    have e : (cntI [] i : Int) = 0 := rfl
    rw [e, Int.zero_mul, ite_self]
  | s :: l => by
    rw [List.map_cons, List.sum_cons, meet_swap k w S l]
    unfold meetW
    rw [← sumK_add]
    refine sumK_congr fun i _ => ?_
    unfold cntI
    rw [List.countP_cons]
    cases S.testBit i <;> cases s.testBit i <;> simp
    rw [Int.add_mul]; omega
theorem meet_le {k : Nat} {w : Nat → Int} {S : Nat} {l : List Nat} (hw : ∀ i, i < k → 0 ≤ w i) (h : ∀ i, i < k → S.testBit i = true → cntI l i ≤ 1) : (l.map (meetW k w S)).sum ≤ sumK k fun i => if S.testBit i = true then w i else 0 := by
  rw [meet_swap]
  refine sumK_le fun i hi => ?_
  by_cases hs : S.testBit i = true
  · rw [if_pos hs, if_pos hs]
    have h1 := h i hi hs
    have h2 := hw i hi
    have : (cntI l i : Int) = 0 ∨ (cntI l i : Int) = 1 := by omega
    rcases this with e | e <;> rw [e] <;> omega
  · rw [if_neg hs, if_neg hs]; exact Int.le_refl _
theorem meet_eq {k : Nat} {w : Nat → Int} {S : Nat} {l : List Nat} (h : ∀ i, i < k → S.testBit i = true → cntI l i = 1) : (l.map (meetW k w S)).sum = sumK k fun i => if S.testBit i = true then w i else 0 := by
  rw [meet_swap]
  refine sumK_congr fun i hi => ?_
  by_cases hs : S.testBit i = true
  · rw [if_pos hs, if_pos hs, h i hi hs]; omega
  · rw [if_neg hs, if_neg hs]
theorem sum_le {α : Type} {f g : α → Int} : ∀ {l : List α}, (∀ a ∈ l, f a ≤ g a) → (l.map f).sum ≤ (l.map g).sum
  | [], _ => Int.le_refl _
  | a :: l, h => by
    simp only [List.map_cons, List.sum_cons]
    have := sum_le (l := l) fun b hb => h b (List.mem_cons_of_mem _ hb)
    have := h a (List.mem_cons_self ..)
    omega
theorem sum_mul {α : Type} (c : Int) (f : α → Int) : ∀ l : List α, (l.map fun a => c * f a).sum = c * (l.map f).sum
  | [] => by simp
  | a :: l => by simp only [List.map_cons, List.sum_cons, sum_mul c f l, Int.mul_add]
theorem sum_nonneg {α : Type} {f : α → Int} : ∀ {l : List α}, (∀ a ∈ l, 0 ≤ f a) → 0 ≤ (l.map f).sum
  | [], _ => by simp
  | a :: l, h => by
    simp only [List.map_cons, List.sum_cons]
    have := sum_nonneg (l := l) fun b hb => h b (List.mem_cons_of_mem _ hb)
    have := h a (List.mem_cons_self ..)
    omega
theorem sum_len_le {α : Type} {f : α → Int} {l : List α} (h : ∀ a ∈ l, f a ≤ 1) : (l.map f).sum ≤ l.length := by
  have h1 := sum_le (g := fun _ => 1) h
  have h2 : (l.map fun _ => (1 : Int)).sum = l.length := by
    clear h h1
    induction l with
    | nil => rfl
    | cons a l ih => simp only [List.map_cons, List.sum_cons, ih, List.length_cons]; omega
  omega
theorem sum_mem {α : Type} {f : α → Int} {l : List α} {a : α} (h : ∀ a ∈ l, 0 ≤ f a) (ha : a ∈ l) : f a ≤ (l.map f).sum := by
  induction l with
  | nil => cases ha
  | cons b l ih =>
    simp only [List.map_cons, List.sum_cons]
    have h0 := h b (List.mem_cons_self ..)
    have h1 := sum_nonneg (l := l) fun b hb => h b (List.mem_cons_of_mem _ hb)
    rcases List.mem_cons.1 ha with rfl | ha
    · omega
    · have := ih (fun b hb => h b (List.mem_cons_of_mem _ hb)) ha
      omega
theorem three_once {k S : Nat} {l : List Nat} {c : Nat → Int} (h3 : (sumK k fun i => if S.testBit i = true then 1 else 0) ≤ 3)
    (h : ∀ i, i < k → S.testBit i = true → cntI l i ≤ 1) (hc : ∀ s ∈ l, 2 * c s ≤ meetW k (fun _ => 1) S s) : (l.map c).sum ≤ 1 := by
  have h1 := meet_le (w := fun _ => 1) (fun _ _ => by omega) h
  have h2 := sum_le hc
  rw [sum_mul] at h2
  omega
theorem carried {k S : Nat} {l : List Nat} {c : Nat → Int} {w : Nat → Int} {C : Int}
    (h : ∀ i, i < k → S.testBit i = true → cntI l i = 1) (hc : ∀ s ∈ l, meetW k w S s ≤ C * c s) : (sumK k fun i => if S.testBit i = true then w i else 0) ≤ C * (l.map c).sum := by
  rw [← meet_eq h, ← sum_mul]
  exact sum_le hc
end Go.Nu
end

section
set_option linter.unusedSimpArgs false
set_option linter.unusedVariables false
namespace Go.Proofs.YtbcfajfngdmgnaaGreatDoor.Sq
open Go.Aw Go.Aw.D Go.Proofs Ty
open Go.Nu (sumK sumK_le sumK_congr sumK_nonneg)
set_option maxRecDepth 100000
theorem W_add (a b : Int) : W (W a + b) = W (a + b) := by
  show IntKind.i64.wrap (IntKind.i64.wrap a + b) = IntKind.i64.wrap (a + b)
  have e : ∀ n : Int, IntKind.i64.wrap n = if n % 18446744073709551616 ≥ 9223372036854775808 then n % 18446744073709551616 - 18446744073709551616 else n % 18446744073709551616 := fun n => by
    show (if (true && decide (n % 18446744073709551616 ≥ 9223372036854775808)) = true then n % 18446744073709551616 - 18446744073709551616 else n % 18446744073709551616) = _
    simp
  simp only [e]
  repeat' split
  all_goals omega
def hasV (l : List Visit) (o : Int) : Bool := l.any fun v => v.order == o
def loadJ (x : Instance) (j i : Nat) : Int := match x.orders[i]? with | some o => o.load.getD j 0 | none => 0
def stB (l : List Visit) (i : Int) (b : Bool) (k : Nat) : Bool := (l.take k).foldl (fun s v => if (v.order != i) = true then s else !v.drop) b
theorem stB_succ {l : List Visit} {i : Int} {b : Bool} {k : Nat} {v : Visit} (h : l[k]? = some v) : stB l i b (k + 1) = if (v.order != i) = true then stB l i b k else !v.drop := by
  unfold stB; rw [take_succ h, List.foldl_append]; rfl
theorem stB_spec (l : List Visit) (i : Int) (b : Bool) : ∀ k, k ≤ l.length → ((∀ u ∈ l.take k, u.order ≠ i) ∧ stB l i b k = b) ∨ ∃ m u, m < k ∧ l[m]? = some u ∧ u.order = i ∧ stB l i b k = !u.drop
  | 0, _ => .inl ⟨by simp, rfl⟩
  | k + 1, hk => by
    obtain ⟨v, hv⟩ := getIn (show k < l.length by omega)
    rw [stB_succ hv]
    by_cases h : v.order = i
    · right
      rw [if_neg (by simp [h])]
      exact ⟨k, v, by omega, hv, h, rfl⟩
    · rw [if_pos (by simp [h])]
      rcases stB_spec l i b k (by omega) with ⟨h1, h2⟩ | ⟨m, u, h1, h2, h3, h4⟩
      · left
        refine ⟨fun u hu => ?_, h2⟩
        rw [take_succ hv] at hu
        rcases List.mem_append.1 hu with hu | hu
        · exact h1 u hu
        · simp at hu; subst hu; exact h
      · right; exact ⟨m, u, by omega, h2, h3, h4⟩
theorem onTo_eq (l : List Visit) (i : Int) (n : Nat) (b : Bool) : ∀ m, m ≤ l.length → onTo l i n b m = (stB l i b (min n m), hasV (l.take m) i)
  | 0, _ => by rw [Nat.min_zero]; rfl
  | m + 1, hm => by
    obtain ⟨v, hv⟩ := getIn (show m < l.length by omega)
    rw [onTo_succ hv, onTo_eq l i n b m (by omega)]
    have e : hasV (l.take (m + 1)) i = (hasV (l.take m) i || v.order == i) := by unfold hasV; rw [take_succ hv, List.any_append]; simp
    rw [e]
    unfold onS
    by_cases h : v.order = i
    · rw [if_neg (by simp [h])]
      by_cases hn : m < n
      · rw [if_pos (by simp; omega), show min n (m + 1) = m + 1 by omega, stB_succ hv, if_neg (by simp [h])]
        simp [h]
      · rw [if_neg (by simp; omega), show min n (m + 1) = min n m by omega]
        simp [h]
    · rw [if_pos (by simp [h])]
      have : (v.order == i) = false := by simpa using h
      rw [this, Bool.or_false]
      by_cases hn : m < n
      · rw [show min n (m + 1) = m + 1 by omega, stB_succ hv, if_pos (by simp [h]), show min n m = m by omega]
      · rw [show min n (m + 1) = min n m by omega]
theorem onB_eq (l : List Visit) (k i : Nat) (o : Order) (hk : k ≤ l.length) : onB l k i o = (stB l i (decide (o.pick.place < 0)) k && hasV l i) := by
  unfold onB
  have : onAt l i k (decide (o.pick.place < 0)) = onTo l i k (decide (o.pick.place < 0)) l.length := rfl
  rw [this, onTo_eq l i k _ _ (Nat.le_refl _), List.take_length, show min k l.length = k by omega]
def onK (x : Instance) (l : List Visit) (k i : Nat) : Bool := match x.orders[i]? with | some o => stB l i (decide (o.pick.place < 0)) k && hasV l i | none => false
def termK (x : Instance) (l : List Visit) (k j i : Nat) : Int := if onK x l k i = true then loadJ x j i else 0
theorem sumAt_snoc (ll : List (List Int)) (a : List Int) (j : Nat) : sumAt (ll ++ [a]) j = W (sumAt ll j + a.getD j 0) := by unfold sumAt; rw [List.foldl_append]; rfl
theorem board_sum (x : Instance) (l : List Visit) (k j : Nat) (hk : k ≤ l.length) : ∀ n, n ≤ x.orders.length → sumAt (boardTo x.orders l k n) j = W (sumK n (termK x l k j))
  | 0, _ => rfl
  | n + 1, hn => by
    obtain ⟨o, ho⟩ := getIn (show n < x.orders.length by omega)
    have ih := board_sum x l k j hk n (by omega)
    rw [boardTo_succ ho]
    show _ = W (sumK n (termK x l k j) + termK x l k j n)
    have e : onK x l k n = onB l k n o := by unfold onK; rw [ho, onB_eq l k n o hk]
    have et : termK x l k j n = if onB l k n o = true then o.load.getD j 0 else 0 := by unfold termK loadJ; rw [e, ho]
    rw [et]
    by_cases h : onB l k n o = true
    · rw [if_pos h, if_pos h, sumAt_snoc, ih, W_add]
    · rw [if_neg h, if_neg h, List.append_nil, ih, Int.add_zero]
theorem firstE_zero {l : List Int} : firstE l = 0 ↔ ∀ e ∈ l, e = 0 := by
  induction l with
  | nil => simp [firstE]
  | cons a r ih =>
    simp only [firstE]
    by_cases h : (a != 0) = true
    · rw [if_pos h]
      have h' : a ≠ 0 := by simpa using h
      exact ⟨fun e => absurd e h', fun e => absurd (e a (by simp)) h'⟩
    · rw [if_neg h, ih]
      have h' : a = 0 := by simpa using h
      constructor
      · intro e b hb
        rcases List.mem_cons.1 hb with rfl | hb
        · exact h'
        · exact e b hb
      · intro e b hb; exact e b (by simp [hb])
theorem fits_sum {x : Instance} {r : Route} {d : Nat} {t : VType} (hf : fits17 x r = 0) (ht : x.types[r.type.toNat]? = some t) (hd : t.cap.length = d) (h10 : x.orders.length ≤ 10)
    (hl : ∀ o ∈ x.orders, o.load.length = d ∧ ∀ n ∈ o.load, 0 ≤ n ∧ n ≤ 1000) {k j : Nat} (hk : k ≤ r.visits.length) (hj : j < d) : sumK x.orders.length (termK x r.visits k j) ≤ t.cap.getD j 0 := by
  unfold fits17 at hf
  split at hf
  · cases hf
  split at hf
  · next h1 => rw [hf] at h1; cases h1
  next h1 =>
  split at hf
  · cases hf
  next h2 =>
  unfold loads17 at h1 h2
  split at h1
  · next h3 => exact absurd h3 h1
  next h3 =>
  rw [if_neg h3] at h2
  split at h1
  · next h4 => exact absurd h4 h1
  next h4 =>
  rw [if_neg h4] at h2
  have h4' : firstE (aftE x r.visits) = 0 := by simpa using h4
  have e0 : (after17 x r.visits k).2 = 0 := firstE_zero.1 h4' _ (List.mem_of_getElem? (aftE_get hk))
  have hm : (after17 x r.visits k).1 ∈ aftL x r.visits (r.visits.length + 1) := List.mem_map.2 ⟨k, List.mem_range.2 (by omega), rfl⟩
  have h5 := List.any_eq_false.1 (Bool.eq_false_iff.2 h2) _ hm
  have hcap : capAt x r.type = t.cap := by unfold capAt; rw [ht]
  have h6 : fits06 (after17 x r.visits k).1 t.cap = true := by rw [← hcap]; simpa using h5
  unfold fits06 at h6
  rw [Bool.and_eq_true, List.all_eq_true] at h6
  have hlen : (after17 x r.visits k).1.length = d := by have := h6.1; simp at this; omega
  have h7 := h6.2 j (List.mem_range.2 (by omega))
  unfold after17 sum06 at e0 h7 hlen
  split at e0
  · next he =>
    rw [if_pos he] at h7 hlen
    simp only [List.length_map, List.length_range] at hlen
    have h8 : ((List.range (dims17 x).toNat).map (sumAt (boardTo x.orders r.visits k x.orders.length))).getD j 0 = sumAt (boardTo x.orders r.visits k x.orders.length) j := by
      rw [List.getD, List.getElem?_map, List.getElem?_range (by omega)]; rfl
    rw [h8, board_sum x r.visits k j hk _ (Nat.le_refl _)] at h7
    have hb : ∀ i, i < x.orders.length → 0 ≤ termK x r.visits k j i ∧ termK x r.visits k j i ≤ 1000 := by
      intro i hi
      obtain ⟨o, ho⟩ := getIn hi
      unfold termK loadJ
      rw [ho]
      split
      · obtain ⟨l1, l2⟩ := hl o (List.mem_of_getElem? ho)
        obtain ⟨v, hv⟩ := getIn (show j < o.load.length by omega)
        show 0 ≤ o.load.getD j 0 ∧ o.load.getD j 0 ≤ 1000
        rw [List.getD, hv]
        exact l2 v (List.mem_of_getElem? hv)
      · omega
    have b1 := sumK_nonneg fun i hi => (hb i hi).1
    have b2 : sumK x.orders.length (termK x r.visits k j) ≤ 10000 := by
      have : ∀ n, n ≤ x.orders.length → sumK n (termK x r.visits k j) ≤ 1000 * n := by
        intro n hn
        induction n with
        | zero => exact Int.le_refl _
        | succ n ih =>
          have := ih (by omega)
          have := (hb n (by omega)).2
          show sumK n _ + _ ≤ _
          omega
      have := this _ (Nat.le_refl _)
      omega
    rw [show W (sumK x.orders.length (termK x r.visits k j)) = sumK x.orders.length (termK x r.visits k j) from wrap_in (by omega)] at h7
    simpa using h7
  · cases e0
theorem eval_parts {x : Instance} {r : Route} (h : (eval21 x r).2.2 = 0) : check16 x r.visits = 0 ∧ fits17 x r = 0 ∧ ∃ t, x.types[r.type.toNat]? = some t := by
  unfold eval21 at h
  split at h
  · cases h
  cases ht : x.types[r.type.toNat]? with
  | none => rw [ht] at h; cases h
  | some t =>
    rw [ht] at h
    have h : (evalT x r t).2.2 = 0 := h
    unfold evalT at h
    split at h
    · next h1 => have h : check16 x r.visits = 0 := h; rw [h] at h1; cases h1
    next h1 =>
    split at h
    · cases h
    split at h
    · next h3 => have h : fits17 x r = 0 := h; rw [h] at h3; cases h3
    next h3 =>
    exact ⟨by simpa using h1, by simpa using h3, t, rfl⟩
theorem check_pair {x : Instance} {l : List Visit} (h : check16 x l = 0) : paired16 x l = true := by
  unfold check16 at h
  repeat' split at h
  all_goals first | (exfalso; omega) | skip
  rename_i h1 h2 h3 h4 h5 h6 h7
  simpa using h5
theorem no_drop {x : Instance} {l : List Visit} (h : check16 x l = 0) {u : Visit} (hu : u ∈ l) {o : Order} (ho : x.orders[u.order.toNat]? = some o) (hd : o.drop.place = -1) : u.drop = false := by
  have hp := List.all_eq_true.1 (check_pair h) u hu
  unfold Sq.badPair at hp
  simp only [Bool.not_eq_true', Bool.or_eq_false_iff, decide_eq_false_iff_not] at hp
  have h1 := hp.1.1
  unfold visAt at h1
  rw [ho] at h1
  cases hdr : u.drop with
  | false => rfl
  | true =>
    refine absurd ?_ h1
    have hm : ∀ y ∈ visits16 o u.order, sameV u y = false := by
      intro y hy
      unfold visits16 at hy
      rw [if_neg (show ¬ (o.drop.place != -1) = true by rw [hd]; simp), List.append_nil] at hy
      split at hy
      · simp only [List.mem_singleton] at hy
        rw [hy]
        unfold sameV
        rw [hdr]
        simp
      · cases hy
    show index16 (visits16 o u.order) u < 0
    unfold index16
    rw [idxF_miss hm]
    decide
theorem on_start {x : Instance} {l : List Visit} {i : Nat} {o : Order} (ho : x.orders[i]? = some o) (hv : hasV l i = true) (hp : o.pick.place < 0) : onK x l 0 i = true := by
  unfold onK
  rw [ho]
  show (stB l i (decide (o.pick.place < 0)) 0 && hasV l i) = true
  rw [hv, decide_eq_true hp]
  rfl
theorem on_end {x : Instance} {l : List Visit} (h : check16 x l = 0) {i : Nat} {o : Order} (ho : x.orders[i]? = some o) (hv : hasV l i = true) (hp : o.drop.place = -1) : onK x l l.length i = true := by
  unfold onK
  rw [ho]
  show (stB l i (decide (o.pick.place < 0)) l.length && hasV l i) = true
  rw [hv, Bool.and_true]
  rcases stB_spec l i (decide (o.pick.place < 0)) l.length (Nat.le_refl _) with ⟨h1, _⟩ | ⟨m, u, h1, h2, h3, h4⟩
  · rw [List.take_length] at h1
    obtain ⟨u, hu, hu2⟩ := List.any_eq_true.1 hv
    exact absurd (by simpa using hu2) (h1 u hu)
  · rw [h4, no_drop h (List.mem_of_getElem? h2) (o := o) (by rw [h3]; exact ho) hp]; rfl
structure PlanOk (x : Instance) (p : Plan) : Prop where
  ev : ∀ r ∈ p.routes, check16 x r.visits = 0 ∧ fits17 x r = 0 ∧ ∃ t, x.types[r.type.toNat]? = some t
  once : ∀ i, i < x.orders.length → onA p i ≤ 1
  must : ∀ (i : Nat) (o : Order), x.orders[i]? = some o → o.off = false → o.penalty = -1 → onA p i = 1
theorem planOk_of {x : Instance} {p : Plan} (h : check23 x p = 0) : PlanOk x p := by
  unfold check23 at h
  repeat' split at h
  all_goals first | (exfalso; omega) | skip
  · next h1 => exfalso; rw [h] at h1; cases h1
  rename_i h1 h2 h3 h4 h5 h6
  have h1' : firstE (p.routes.map fun r => (eval21 x r).2.2) = 0 := by simpa using h1
  have htw : ∀ i, i < x.orders.length → onA p i + onU p i ≤ 1 := by
    intro i hi
    have := List.any_eq_false.1 (Bool.eq_false_iff.2 h3) i (List.mem_range.2 hi)
    unfold twice23 at this
    simp only [decide_eq_true_eq] at this
    omega
  refine ⟨fun r hr => eval_parts (firstE_zero.1 h1' _ (List.mem_map.2 ⟨r, hr, rfl⟩)), fun i hi => by have := htw i hi; omega, fun i o ho hoff hpen => ?_⟩
  have hi : i < x.orders.length := (List.getElem?_eq_some_iff.1 ho).1
  have := htw i hi
  have hm := List.any_eq_false.1 (Bool.eq_false_iff.2 h6) i (List.mem_range.2 hi)
  unfold miss23 at hm
  rw [ho] at hm
  simp only [hoff, hpen, Bool.not_false, Bool.and_true, beq_self_eq_true, Bool.or_eq_true, not_or, beq_iff_eq, decide_eq_true_eq] at hm
  omega
end Go.Proofs.YtbcfajfngdmgnaaGreatDoor.Sq
end

section
set_option linter.unusedSimpArgs false
set_option linter.unusedVariables false
namespace Go.Nu
open Go Go.Lib
theorem add_bound (x y : Rat) : (x+y).den ≤ x.den*y.den ∧ (x+y).num.natAbs ≤ (x.num*y.den + y.num*x.den).natAbs := by
  rw [Rat.add_def, Rat.normalize_eq]
  refine ⟨Nat.div_le_self _ _, ?_⟩
  exact Int.natAbs_ediv_le_natAbs _ _
structure Bd (E k : Nat) (x : Rat) : Prop where
  den : x.den ≤ E ^ k
  num : x.num.natAbs ≤ k * E ^ k
theorem bd_sum {E k : Nat} {x y : Rat} (hx : Bd E k x) (hd : y.den ≤ E) (hn : y.num.natAbs ≤ E) :
    Bd E (k + 1) (x + y) ∧ (x.num * y.den).natAbs ≤ (k + 1) * E ^ (k + 1) ∧ (y.num * x.den).natAbs ≤ (k + 1) * E ^ (k + 1) ∧ (x.num * y.den + y.num * x.den).natAbs ≤ (k + 1) * E ^ (k + 1) ∧ x.den * y.den ≤ E ^ (k + 1) := by
  have h1 : x.num.natAbs * y.den ≤ (k * E ^ k) * E := Nat.mul_le_mul hx.num hd
  have h2 : y.num.natAbs * x.den ≤ E * E ^ k := Nat.mul_le_mul hn hx.den
  have h3 : x.den * y.den ≤ E ^ k * E := Nat.mul_le_mul hx.den hd
  have e1 : (x.num * y.den).natAbs = x.num.natAbs * y.den := by rw [Int.natAbs_mul, Int.natAbs_natCast]
  have e2 : (y.num * x.den).natAbs = y.num.natAbs * x.den := by rw [Int.natAbs_mul, Int.natAbs_natCast]
  have e3 : (k + 1) * E ^ (k + 1) = (k * E ^ k) * E + E * E ^ k := by rw [Nat.pow_succ, Nat.add_mul, Nat.one_mul, Nat.mul_assoc, Nat.mul_comm E]
  have e4 : (x.num * y.den + y.num * x.den).natAbs ≤ (x.num * y.den).natAbs + (y.num * x.den).natAbs := Int.natAbs_add_le _ _
  obtain ⟨b1, b2⟩ := add_bound x y
  refine ⟨⟨?_, ?_⟩, ?_, ?_, ?_, ?_⟩
  · rw [Nat.pow_succ]; omega
  · omega
  · omega
  · omega
  · omega
  · rw [Nat.pow_succ]; exact h3
theorem zed_rat (c : Int) : zed c = ratS (c : Rat) := by
  unfold ratS
  rw [if_pos (Rat.den_intCast c), Rat.num_intCast]
def E12 : Nat := 10 ^ 12
theorem small_lt {n : Nat} (h : n ≤ 41 * E12 ^ 41) : n < maxN := by
  refine lt_max (k := 500) (Nat.lt_of_le_of_lt h ?_) (by omega)
  decide +kernel
theorem kE_mono {k m : Nat} (h : k ≤ m) : k * E12 ^ k ≤ m * E12 ^ m := Nat.mul_le_mul h (Nat.pow_le_pow_right (by decide) h)
theorem E_le {k : Nat} (h : k ≤ 41) : E12 ^ k ≤ 41 * E12 ^ 41 := by
  have := Nat.pow_le_pow_right (n := E12) (by decide) h
  omega
theorem big_no {n : Int} (h : n.natAbs < maxN) : bigI n = false := by unfold bigI; simp [h]
theorem sum_ok {k : Nat} {x y : Rat} (hk : k ≤ 40) (hx : Bd E12 k x) (hd : y.den ≤ E12) (hn : y.num.natAbs ≤ E12) : sumR x y = (ratS (x + y), 0) ∧ Bd E12 (k + 1) (x + y) := by
  obtain ⟨h1, h2, h3, h4, h5⟩ := bd_sum hx hd hn
  have hm := kE_mono (show k + 1 ≤ 41 by omega)
  have hE := E_le (show k + 1 ≤ 41 by omega)
  refine ⟨?_, h1⟩
  unfold sumR
  rw [big_no (small_lt (Nat.le_trans h2 hm)), big_no (small_lt (Nat.le_trans h3 hm)), big_no (small_lt (Nat.le_trans h4 hm))]
  rw [big_no (n := (x.den : Int) * y.den) (small_lt (by rw [← Int.natCast_mul, Int.natAbs_natCast]; exact Nat.le_trans h5 hE))]
  rfl
theorem zed_right {c : Int} (h : c.natAbs < maxN) : rightR (zed c) = true := by
  rw [zed_rat]
  exact rightR_ratS ⟨by rw [Rat.num_intCast]; exact h, by rw [Rat.den_intCast]; exact lt_max (k := 1) (by decide) (by decide)⟩
end Go.Nu
end

section
set_option linter.unusedSimpArgs false
set_option linter.unusedVariables false
namespace Go.Nu
open Go Go.Lib
theorem hE12 : (1048576 : Nat) ≤ E12 := by decide +kernel
theorem E12_le : E12 ≤ 41 * E12 ^ 41 := by have := E_le (show 1 ≤ 41 by decide); rwa [Nat.pow_one] at this
theorem int_small {m : Int} (h : m.natAbs ≤ 1048576) : m.natAbs < maxN := small_lt (Nat.le_trans (Nat.le_trans h hE12) E12_le)
theorem bd_int {m : Int} (h : m.natAbs ≤ 1048576) : Bd E12 1 (m : Rat) :=
  ⟨by rw [Rat.den_intCast, Nat.pow_one]; exact Nat.le_trans (by decide) hE12, by rw [Rat.num_intCast, Nat.pow_one, Nat.one_mul]; exact Nat.le_trans h hE12⟩
theorem sum_int {m c : Int} (hm : m.natAbs ≤ 1048576) (hc : c.natAbs ≤ 1048576) : sumR (m : Rat) (c : Rat) = (ratS ((m + c : Int) : Rat), 0) := by
  rw [(sum_ok (k := 1) (by decide) (bd_int hm) (by rw [Rat.den_intCast]; exact Nat.le_trans (by decide) hE12) (by rw [Rat.num_intCast]; exact Nat.le_trans hc hE12)).1, Rat.intCast_add]
theorem add_int {m c : Int} (hm : m.natAbs ≤ 1048576) (hc : c.natAbs ≤ 1048576) : addR (zed m) (zed c) = (zed (m + c), 0) := by
  unfold addR
  rw [zed_right (int_small hm), zed_right (int_small hc), if_pos (show (true && true) = true from rfl), zed_rat m, zed_rat c, valR_ratS, valR_ratS, sum_int hm hc, ← zed_rat]
theorem sub_int {m c : Int} (hm : m.natAbs ≤ 1048576) (hc : c.natAbs ≤ 1048576) : subR (zed m) (zed c) = (zed (m - c), 0) := by
  unfold subR
  rw [zed_right (int_small hm), zed_right (int_small hc), if_pos (show (true && true) = true from rfl), zed_rat m, zed_rat c, valR_ratS, valR_ratS, ← Rat.intCast_neg, sum_int hm (by rw [Int.natAbs_neg]; exact hc), ← zed_rat, ← Int.sub_eq_add_neg]
theorem sign_int {m : Int} (h : m.natAbs ≤ 1048576) : signR (zed m) = m.sign := by
  unfold signR
  rw [if_pos (zed_right (int_small h)), zed_rat, valR_ratS, Rat.num_intCast]
theorem mul_one01 {c : Int} (h : c = 0 ∨ c = 1) : mulR (zed c) (dec 1) = (zed c, 0) := by
  rcases h with rfl | rfl <;> decide +kernel
theorem one_right : rightR (dec 1) = true := by decide +kernel
theorem times_ones : ∀ (l : List Int) (m : Int), (∀ c ∈ l, c = 0 ∨ c = 1) → 0 ≤ m → m + l.length ≤ 1000 → timesF (l.zip (List.replicate l.length (dec 1))) (zed m) = (zed (m + l.sum), 0)
  | [], m, _, _, _ => by rw [List.sum_nil, Int.add_zero]; rfl
  | c :: l, m, hl, hm, hk => by
    have hc := hl c (List.mem_cons_self ..)
    rw [List.length_cons] at hk
    rw [List.length_cons, List.replicate_succ, List.zip_cons_cons, timesF]
    simp only [mul_one01 hc, ne_eq, not_true_eq_false, if_false]
    rw [add_int (m := m) (c := c) (by omega) (by omega)]
    simp only [ne_eq, not_true_eq_false, if_false]
    rw [times_ones l (m + c) (fun a ha => hl a (List.mem_cons_of_mem _ ha)) (by omega) (by omega), List.sum_cons, Int.add_assoc]
end Go.Nu
end

section
set_option linter.unusedSimpArgs false
set_option linter.unusedVariables false
namespace Go.Proofs.YtbcfajfngdmgnaaGreatDoor.Nu
open Go.Aw Go.Aw.D Go.Proofs Ty Go.Nu
set_option maxRecDepth 100000
theorem and1 (x : Int) : bitV .and .i64 x 1 = x % 2 := by
  have h : ((BitVec.ofInt 64 x &&& BitVec.ofInt 64 1).toNat : Int) = x % 2 := by
    rw [BitVec.toNat_and, BitVec.toNat_ofInt, BitVec.toNat_ofInt]
    have : ((1 : Int) % ((2 ^ 64 : Nat) : Int)).toNat = 1 := by decide
    rw [this, Nat.and_one_is_mod]
    omega
  refine Eq.trans (congrArg IntKind.i64.wrap h) ?_
  exact wrap_in (by omega)
theorem and_nat {a b : Nat} (ha : a < 2 ^ 63) (hb : b < 2 ^ 63) : bitV .and .i64 (a : Int) (b : Int) = ((a &&& b : Nat) : Int) := by
  have h : ((BitVec.ofInt 64 (a : Int) &&& BitVec.ofInt 64 (b : Int)).toNat : Int) = ((a &&& b : Nat) : Int) := by
    rw [BitVec.toNat_and, BitVec.toNat_ofInt, BitVec.toNat_ofInt]
    have h1 : ((a : Int) % ((2 ^ 64 : Nat) : Int)).toNat = a := by omega
    have h2 : ((b : Int) % ((2 ^ 64 : Nat) : Int)).toNat = b := by omega
    rw [h1, h2]
  refine Eq.trans (congrArg IntKind.i64.wrap h) ?_
  have := Nat.and_lt_two_pow a hb
  exact wrap_in (by omega)
theorem shr_in {x : Int} {i : Nat} (h : i ≤ 62) : shV .shr .i64 x (i : Int) = x / 2 ^ i := by
  show x.fdiv (2 ^ min ((i : Int)).toNat 64) = _
  have : min ((i : Int)).toNat 64 = i := by omega
  rw [this, Int.fdiv_eq_ediv_of_nonneg _ (by exact Int.le_of_lt (Int.pow_pos (by decide)))]
def hasR (set i : Int) : Bool := decide (i ≥ 0) && decide (i ≤ 62) && ((set / 2 ^ i.toNat) % 2 == 1)
theorem sHas_c (set i : Int) : PC Tryz.prog 153 [int set, int i] (boo (hasR set i)) := by
  refine PC.body (c := Tryz.f153.body.getD .skip) (fun _ => false) mixed Tryz.func153 rfl (by kernel_rfl) ?_
  unfold Tryz.f153
  simp only [Option.getD_some]
  simp only [go_sem]
  refine ⟨fun h => ?_, ?_⟩
  · simp at h; omega
  · refine cB ?_
    unfold hasR
    rw [and1]
    by_cases h : 0 ≤ i ∧ i ≤ 62
    · obtain ⟨h0, h1⟩ := h
      have e := shr_in (x := set) (i := i.toNat) (by omega)
      rw [Int.toNat_of_nonneg h0] at e
      rw [e]
    · have : (decide (i ≥ 0) && decide (i ≤ 62)) = false := by simp; omega
      rw [this]; rfl
def memU (set : Int) (k : Nat) : List Int := ((List.range k).filter fun i : Nat => hasR set (i : Int)).map fun i : Nat => (i : Int)
def memS (set : Int) : List Int := memU set 63
theorem memU_succ (set : Int) (k : Nat) : memU set (k + 1) = memU set k ++ (if hasR set (k : Int) = true then [(k : Int)] else []) := by
  unfold memU
  rw [List.range_succ, List.filter_append, List.map_append]
  by_cases h : hasR set (k : Int) = true
  · simp [h]
  · simp [h]
theorem memU_len (set : Int) (k : Nat) : (memU set k).length ≤ k := by
  unfold memU
  rw [List.length_map]
  exact Nat.le_trans (List.length_filter_le _ _) (by simp)
def intRow (l : List Int) : Row := ⟨3, 1, l.map encInt⟩
theorem members_c (set : Int) : PC Tryz.prog 85 [int set] (.sl ((memS set).map encInt)) := by
  refine PC.body (c := Tryz.f85.body.getD .skip) (fun t => t == 3) mixed Tryz.func85 rfl (by kernel_rfl) ?_
  unfold Tryz.f85
  simp only [Option.getD_some]
  simp only [go_sem]
  refine anew_i fun j hj => ?_
  simp only [go_sem]
  refine ⟨fun ρ H => ∃ k : Nat, k ≤ 63 ∧ ρ 0 = int set ∧ ρ 5 = int k ∧ ∃ j, ρ 3 = .os j ∧ H j = some (intRow (memU set k)), fun ρ _ => 63 - natOf (ρ 5), ⟨0, Nat.zero_le _, rfl, rfl, j, rfl, updH_same _ _ _⟩, ?_⟩
  clear hj
  rintro ρ H ⟨k, hk, h0, h5, j, h3, R⟩
  simp only [go_sem, h0, h5, h3]
  refine acond_i (fun hlt => ?_) (fun hge => ?_)
  · have hlt : k < 63 := by simp at hlt; omega
    simp only [go_sem, h0, h5, h3]
    refine PC.use (sHas_c set k) ?_
    simp only [go_sem, h0, h5, h3]
    refine acond_i (fun hb => ?_) (fun hb => ?_)
    · simp only [go_sem, h0, h5, h3]
      refine wappE_i R ⟨rfl, rfl⟩ ⟨rfl, trivial⟩ (by have := memU_len set k; simp [intRow]; omega) (fun j' hj' => ?_)
      simp only [go_sem, h0, h5, h3, wrapS (show k ≤ 4611686018427387904 by omega)]
      refine ⟨⟨k + 1, hlt, rfl, j', rfl, ?_⟩, by simp only [natOf_int]; omega⟩
      rw [memU_succ, if_pos hb, updH_same]
      simp only [intRow, List.map_append, List.map_cons, List.map_nil]
      rfl
    · simp only [go_sem, h0, h5, h3, wrapS (show k ≤ 4611686018427387904 by omega)]
      refine ⟨⟨k + 1, hlt, rfl, j, rfl, ?_⟩, by simp only [natOf_int]; omega⟩
      rw [memU_succ, if_neg (by rw [hb]; simp), List.append_nil]
      exact R
  · have hge : k = 63 := by simp at hge; omega
    subst hge
    simp only [go_sem, h3]
    exact .row _ _ _ R (ConvE.refl _)
def popK : Nat → Nat → Nat
  | 0, _ => 0
  | k + 1, n => n % 2 + popK k (n / 2)
theorem popK_snoc : ∀ (k n : Nat), popK (k + 1) n = popK k n + (n / 2 ^ k) % 2
  | 0, n => by simp [popK]
  | k + 1, n => by
    rw [popK, popK_snoc k (n / 2), popK, Nat.div_div_eq_div_mul, show 2 * 2 ^ k = 2 ^ (k + 1) by rw [Nat.pow_succ, Nat.mul_comm]]
    omega
theorem popK_le : ∀ k n : Nat, popK k n ≤ k
  | 0, _ => Nat.le_refl 0
  | k + 1, n => by have := popK_le k (n / 2); rw [popK]; omega
theorem memU_pop (n : Nat) : ∀ k : Nat, k ≤ 63 → (memU (n : Int) k).length = popK k n
  | 0, _ => rfl
  | k + 1, hk => by
    rw [memU_succ, List.length_append, memU_pop n k (by omega), popK_snoc]
    have h : hasR (n : Int) (k : Int) = decide ((n / 2 ^ k) % 2 = 1) := by
      unfold hasR
      rw [show decide ((k : Int) ≥ 0) = true by simp, show decide ((k : Int) ≤ 62) = true by simp; omega, Int.toNat_natCast, Bool.true_and, Bool.true_and]
      rw [Bool.eq_iff_iff, beq_iff_eq, decide_eq_true_iff]
      have : ((n : Int) / 2 ^ k) = ((n / 2 ^ k : Nat) : Int) := by norm_cast
      rw [this]
      omega
    rw [h]
    by_cases h2 : (n / 2 ^ k) % 2 = 1
    · simp [h2]
    · have : (n / 2 ^ k) % 2 = 0 := by omega
      simp [this]
theorem size_c (n : Nat) : PC Tryz.prog 79 [int n] (int (popK 63 n : Nat)) := by
  have hm := memU_pop n 63 (Nat.le_refl _)
  have hle := popK_le 63 n
  refine PC.body (c := Tryz.f79.body.getD .skip) (fun _ => false) mixed Tryz.func79 rfl (by kernel_rfl) ?_
  unfold Tryz.f79
  simp only [Option.getD_some]
  simp only [go_sem]
  refine PC.use (members_c n) ?_
  simp only [go_sem, List.length_map, memS, hm]
  generalize popK 63 n = P at *
  refine ⟨fun ρ _ => ∃ k : Nat, k ≤ P ∧ ρ 3 = int k ∧ ρ 6 = int (P : Nat) ∧ ρ 7 = int k, fun ρ _ => P - natOf (ρ 7), ⟨0, Nat.zero_le _, by simp only [go_sem]; rfl, by simp only [go_sem], by simp only [go_sem]; rfl⟩, ?_⟩
  rintro ρ H ⟨k, hk, h3, h6, h7⟩
  simp only [go_sem, h3, h6, h7]
  refine acond_i (fun hlt => ?_) (fun hge => ?_)
  · have hlt := ltB hlt
    simp only [go_sem, h3, h6, h7, wrapS (show k ≤ 4611686018427387904 by omega)]
    exact ⟨⟨k + 1, hlt, rfl⟩, by simp only [natOf_int]; omega⟩
  · have hge := geB hk hge
    subst hge
    simp only [go_sem, h3]
    exact .refl _
end Go.Proofs.YtbcfajfngdmgnaaGreatDoor.Nu
end

section
set_option linter.unusedSimpArgs false
set_option linter.unusedVariables false
namespace Go.Proofs.YtbcfajfngdmgnaaGreatDoor.Nu
open Go.Aw Go.Aw.D Go.Proofs Ty Go.Nu
set_option maxRecDepth 100000
def encKV (p : Int × Int) : List AV := [int p.1, int p.2]
def idxM (m : List (Int × Int)) (o : Int) : Option Nat := m.findIdx? fun p => p.1 == o
def getM (m : List (Int × Int)) (o : Int) : Int := ((m.find? fun p => p.1 == o).map (·.2)).getD 0
def putM (m : List (Int × Int)) (o v : Int) : List (Int × Int) := match idxM m o with
  | some i => m.set i (o, v)
  | none => m ++ [(o, v)]
abbrev mapRow (m : List (Int × Int)) : Row := ⟨0, 2, m.map encKV⟩
theorem mfind_int (o : Int) : ∀ (m : List (Int × Int)) (i : Nat), mfind (keyEq Tryz.prog 3 (int o)) (m.map encKV) i = some ((idxM m o).map (· + i))
  | [], i => rfl
  | p :: m, i => by
    have ih := mfind_int o m (i + 1)
    have hk : keyEq Tryz.prog 3 (int o) ((encKV p).getD 0 .any) = some (o == p.1) := by
      show keyEq Tryz.prog 3 (int o) (int p.1) = _
      unfold keyEq
      simp only [kk3]
      simp [eqCell]
    rw [List.map_cons, mfind, hk]
    unfold idxM at *
    rw [List.findIdx?_cons]
    by_cases h : o = p.1
    · subst h; simp
    · have h1 : (o == p.1) = false := by simpa using h
      have h2 : (p.1 == o) = false := by simpa using fun e => h e.symm
      rw [h1, h2]
      simp only [Bool.false_eq_true, if_false]
      rw [ih]
      cases m.findIdx? (fun p => p.1 == o) with
      | none => rfl
      | some j => simp; omega
theorem mfind_int0 (o : Int) (m : List (Int × Int)) : mfind (keyEq Tryz.prog 3 (int o)) (m.map encKV) 0 = some (idxM m o) := by
  rw [mfind_int]; cases idxM m o <;> rfl
theorem plain_int (o : Int) : plainKey Tryz.prog 3 (int o) = true := by
  simp only [plainKey, kk3]; rfl
theorem mget_int (m : List (Int × Int)) (o : Int) : mget false (int 0) (m.map encKV) (idxM m o) = int (getM m o) := by
  unfold mget getM idxM
  induction m with
  | nil => rfl
  | cons p m ih =>
    rw [List.findIdx?_cons, List.find?_cons]
    cases h : p.1 == o with
    | true => simp [encKV]
    | false =>
      cases hi : m.findIdx? (fun p => p.1 == o) with
      | none =>
        rw [hi] at ih
        simpa using ih
      | some j =>
        rw [hi] at ih
        simp at ih ⊢
        exact ih
theorem mput_int (m : List (Int × Int)) (o v : Int) : mput (m.map encKV) (idxM m o) (int o) (int v) = (putM m o v).map encKV := by
  unfold mput putM
  cases idxM m o with
  | none => simp [encKV]
  | some i => simp [List.map_set, encKV]
def needN (k : Int) : Nat := if k = 1 then 2 else if k = 2 then 1 else 0
def coefB (k : Int) (P : Nat) : Bool := decide (needN k > 0) && decide (needN k ≤ P)
def coefP (k : Int) (n : Nat) : Int := if coefB k (popK 63 n) = true then 1 else 0
theorem coef_c (k m : Int) (a b : Nat) (ha : a < 2 ^ 63) (hb : b < 2 ^ 63) : PC Tryz.prog 30 [.agg [int k, int a, int m], int b] (int (coefP k (a &&& b))) := by
  have hs := size_c (a &&& b)
  have hle := popK_le 63 (a &&& b)
  refine PC.body (c := Tryz.f30.body.getD .skip) (fun _ => false) mixed Tryz.func30 rfl (by kernel_rfl) ?_
  unfold Tryz.f30
  simp only [Option.getD_some]
  simp only [go_sem]
  refine anew_i fun jm hjm => ?_
  generalize hG : updH noRows jm _ = HM
  have Rm : HM jm = some (mapRow []) := by rw [← hG, updH_same]; rfl
  clear hG hjm
  simp only [go_sem]
  refine wmapU_i Rm ma141 (plain_int _) (mfind_int0 _ _) ?_
  rw [mput_int]
  generalize hG : updH HM jm _ = HN
  have Rn : HN jm = some (mapRow [(1, 2)]) := by rw [← hG, updH_same]; rfl
  clear hG Rm
  simp only [go_sem]
  refine wmapU_i Rn ma141 (plain_int _) (mfind_int0 _ _) ?_
  rw [mput_int]
  generalize hG : updH HN jm _ = HO
  have Ro : HO jm = some (mapRow [(1, 2), (2, 1)]) := by rw [← hG, updH_same]; rfl
  clear hG Rn
  simp only [go_sem]
  refine alookup_i Ro ma141 (plain_int _) (mfind_int0 _ _) zv3 ?_
  rw [mget_int]
  have hk : getM [(1, 2), (2, 1)] k = (needN k : Nat) := by
    unfold getM needN
    by_cases h1 : k = 1
    · subst h1; rfl
    · by_cases h2 : k = 2
      · subst h2; rfl
      · have e1 : ((1 : Int) == k) = false := by simpa using fun e => h1 e.symm
        have e2 : ((2 : Int) == k) = false := by simpa using fun e => h2 e.symm
        simp [List.find?, e1, e2, h1, h2]
  rw [hk]
  simp only [go_sem]
  rw [and_nat ha hb]
  refine ⟨_, fun _ => hs.q rfl, ?_⟩
  unfold coefP
  generalize popK 63 (a &&& b) = P at *
  simp only [go_sem]
  have hc : (decide (((needN k : Nat) : Int) > 0) && decide ((P : Int) ≥ ((needN k : Nat) : Int))) = coefB k P := by
    unfold coefB
    rw [Bool.eq_iff_iff]; simp
  rw [hc]
  refine acond_i (fun h => ?_) (fun h => ?_)
  · simp only [go_sem]
    exact cI (by rw [if_pos h])
  · simp only [go_sem]
    exact cI (by rw [if_neg (by rw [h]; simp)])
end Go.Proofs.YtbcfajfngdmgnaaGreatDoor.Nu
end
