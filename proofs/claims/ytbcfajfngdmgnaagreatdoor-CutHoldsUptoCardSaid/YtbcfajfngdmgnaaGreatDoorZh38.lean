/- Texts joined by a program: ChS, ChV, EndCH. -/
import Derived.Test.YtbcfajfngdmgnaaGreatDoorZh30
import Derived.Test.YtbcfajfngdmgnaaGreatDoorZh35
import Derived.Test.YtbcfajfngdmgnaaGreatDoorZh37

section
set_option linter.unusedSimpArgs false
set_option linter.unusedVariables false
namespace Go.Proofs.YtbcfajfngdmgnaaGreatDoor.Nu
open Go.Aw Go.Aw.D Go.Proofs Ty Go.Nu
open Sq (hasV PlanOk termK onK loadJ)
set_option maxRecDepth 100000
theorem or_new63 {s i : Nat} (hs : s < 2 ^ 63) (hi : i < 63) (h : s.testBit i = false) : s ||| 2 ^ i = s + 2 ^ i := by
  have h2 : 2 ^ i < 2 ^ 63 := Nat.pow_lt_pow_right (by decide) hi
  have hb := BitVec.add_eq_or_of_and_eq_zero (w := 64) (BitVec.ofNat 64 s) (BitVec.ofNat 64 (2 ^ i)) (by
    apply BitVec.eq_of_toNat_eq
    rw [BitVec.toNat_and, BitVec.toNat_ofNat, BitVec.toNat_ofNat, Nat.mod_eq_of_lt (by omega), Nat.mod_eq_of_lt (by omega)]
    apply Nat.eq_of_testBit_eq
    intro k
    rw [Nat.testBit_and, Nat.testBit_two_pow]
    by_cases hk : i = k
    · subst hk; simp [h]
    · simp [hk])
  have := congrArg BitVec.toNat hb
  rw [BitVec.toNat_add, BitVec.toNat_or, BitVec.toNat_ofNat, BitVec.toNat_ofNat, Nat.mod_eq_of_lt (show s < 2 ^ 64 by omega), Nat.mod_eq_of_lt (show 2 ^ i < 2 ^ 64 by omega), Nat.mod_eq_of_lt (by omega)] at this
  exact this.symm
def setS (s : Nat) (v : Visit) : Nat := if (decide (v.order ≥ 0) && decide (v.order < 63) && !s.testBit v.order.toNat) = true then s + 2 ^ v.order.toNat else s
def setC (l : List Visit) : Nat := l.foldl setS 0
theorem setS_spec {s : Nat} {v : Visit} (hs : s < 2 ^ 63) : setS s v < 2 ^ 63 ∧ ∀ i, (setS s v).testBit i = (s.testBit i || (decide (i < 63) && v.order == (i : Int))) := by
  unfold setS
  split
  · next h =>
    simp only [Bool.and_eq_true, decide_eq_true_eq, Bool.not_eq_true'] at h
    obtain ⟨⟨h1, h2⟩, h3⟩ := h
    obtain ⟨n, hn⟩ := Int.eq_ofNat_of_zero_le h1
    rw [hn] at h2 h3 ⊢
    rw [Int.toNat_natCast] at h3 ⊢
    have hn63 : n < 63 := by omega
    rw [← or_new63 hs hn63 h3]
    refine ⟨Nat.or_lt_two_pow hs (Nat.pow_lt_pow_right (by decide) hn63), fun i => ?_⟩
    rw [Nat.testBit_or, Nat.testBit_two_pow]
    congr 1
    by_cases hi : n = i
    · subst hi; simp [hn63]
    · have : ¬ ((n : Int) = (i : Int)) := by omega
      simp [hi, this]
  · next h =>
    refine ⟨hs, fun i => ?_⟩
    by_cases hi : (decide (i < 63) && v.order == (i : Int)) = true
    · rw [hi, Bool.or_true]
      simp only [Bool.and_eq_true, decide_eq_true_eq, beq_iff_eq] at hi
      rw [hi.2] at h
      have hx : ¬ (s.testBit i = false) := fun hf => h (by rw [Int.toNat_natCast, hf]; simp; omega)
      simpa using hx
    · rw [Bool.eq_false_iff.2 hi, Bool.or_false]
theorem setC_spec (l : List Visit) : setC l < 2 ^ 63 ∧ ∀ i, (setC l).testBit i = (decide (i < 63) && hasV l (i : Int)) := by
  unfold setC
  suffices ∀ (l : List Visit) (s : Nat), s < 2 ^ 63 → l.foldl setS s < 2 ^ 63 ∧ ∀ i, (l.foldl setS s).testBit i = (s.testBit i || (decide (i < 63) && hasV l (i : Int))) from by
    have h := this l 0 (by decide)
    exact ⟨h.1, fun i => by rw [h.2 i]; simp⟩
  intro l
  induction l with
  | nil => intro s hs; exact ⟨hs, fun i => by simp [hasV]⟩
  | cons v l ih =>
    intro s hs
    rw [List.foldl_cons]
    obtain ⟨h1, h2⟩ := setS_spec (v := v) hs
    obtain ⟨h3, h4⟩ := ih (setS s v) h1
    refine ⟨h3, fun i => ?_⟩
    rw [h4, h2]
    unfold hasV
    rw [List.any_cons, Bool.and_or_distrib_left, Bool.or_assoc]
theorem setC_succ {l : List Visit} {k : Nat} {v : Visit} (h : l[k]? = some v) : setC (l.take (k + 1)) = setS (setC (l.take k)) v := by
  unfold setC; rw [take_succ h, List.foldl_append]; rfl
def colOf (r : Route) : Column := ⟨r.type, (setC r.visits : Nat), 0, r⟩
theorem pop_sum (S : Nat) : ∀ k, (popK k S : Int) = sumK k fun i => if S.testBit i = true then 1 else 0
  | 0 => rfl
  | k + 1 => by
    rw [popK_snoc]
    show _ = sumK k (fun i => if S.testBit i = true then 1 else 0) + (if S.testBit k = true then 1 else 0)
    rw [← pop_sum S k]
    rw [Nat.testBit_eq_decide_div_mod_eq]
    rcases Nat.mod_two_eq_zero_or_one (S / 2 ^ k) with e | e <;> rw [e] <;> simp
theorem pop_meet (S s : Nat) (k : Nat) : (popK k (S &&& s) : Int) = meetW k (fun _ => 1) S s := by
  rw [pop_sum]
  unfold meetW
  exact sumK_congr fun i _ => by rw [Nat.testBit_and]
theorem cnt_on (p : Plan) {i : Nat} (hi : i < 63) : cntI (p.routes.map fun r => setC r.visits) i = Sq.onA p i := by
  unfold cntI Sq.onA Sq.cntB
  rw [List.countP_map]
  congr 1
  funext r
  show (setC r.visits).testBit i = _
  rw [(setC_spec r.visits).2 i, decide_eq_true hi]; rfl
theorem coefs_eq (c : Cut) (p : Plan) : coefsP c (p.routes.map colOf) = (p.routes.map fun r => setC r.visits).map fun s => coefP c.kind (c.set.toNat &&& s) := by
  unfold coefsP
  rw [List.map_map, List.map_map]
  exact List.map_congr_left fun r _ => by simp [colOf]
theorem coef_bin (k : Int) (n : Nat) : coefP k n = 0 ∨ coefP k n = 1 := by
  unfold coefP
  split <;> simp
theorem coef_ge (k : Int) (n : Nat) : 0 ≤ coefP k n := by rcases coef_bin k n with h | h <;> omega
theorem coef_three (n : Nat) : 2 * coefP 1 n ≤ (popK 63 n : Int) := by
  unfold coefP coefB needN
  rw [if_pos rfl]
  split
  · next h => simp at h; omega
  · omega
theorem need_two : needN 2 = 1 := by decide
theorem coef_cover {n : Nat} (h : 1 ≤ popK 63 n) : coefP 2 n = 1 := by
  unfold coefP coefB
  rw [need_two, if_pos (by simp; exact h)]
theorem coef_none {n : Nat} (h : popK 63 n = 0) : coefP 2 n = 0 := by
  unfold coefP coefB
  rw [need_two, if_neg (by simp; omega)]
theorem load_sum {x : Instance} {d j S : Nat} (h : LoadsOk x d) (hS : S < 2 ^ x.orders.length) : loadSum x.orders (memS (S : Int)) j = sumK 63 fun i => if S.testBit i = true then loadJ x j i else 0 := by
  unfold memS
  have : ∀ k, k ≤ 63 → loadSum x.orders (memU (S : Int) k) j = sumK k fun i => if S.testBit i = true then loadJ x j i else 0 := by
    intro k hk
    induction k with
    | zero => rfl
    | succ k ih =>
      have ih := ih (by omega)
      rw [memU_succ, hasR_nat (by omega)]
      show _ = sumK k (fun i => if S.testBit i = true then loadJ x j i else 0) + (if S.testBit k = true then loadJ x j k else 0)
      rw [← ih]
      by_cases hb : S.testBit k = true
      · rw [if_pos hb, if_pos hb, loadSum_snoc]
        congr 1
        have hlt : k < x.orders.length := by
          refine Decidable.byContradiction fun hc => ?_
          have : S < 2 ^ k := Nat.lt_of_lt_of_le hS (Nat.pow_le_pow_right (by decide) (by omega))
          rw [Nat.testBit_lt_two_pow this] at hb; cases hb
        obtain ⟨o, ho⟩ := getIn hlt
        unfold loadOf loadJ
        rw [orderAt_get ho, ho]
      · rw [if_neg hb, if_neg hb, List.append_nil, Int.add_zero]
  exact this 63 (Nat.le_refl _)
theorem imax_le {a b c : Int} (h1 : a ≤ c) (h2 : b ≤ c) : imax a b ≤ c := by unfold imax; split <;> omega
theorem imax_left (a b : Int) : a ≤ imax a b := by unfold imax; split <;> omega
theorem imax_right (a b : Int) : b ≤ imax a b := by unfold imax; split <;> omega
theorem capMax_ge {l : List VType} {t : VType} {j : Nat} (h : t ∈ l) : t.cap.getD j 0 ≤ capMax l j := by
  unfold capMax
  suffices ∀ (l : List VType) (c : Int), c ≤ l.foldl (fun c t => imax c (t.cap.getD j 0)) c ∧ (t ∈ l → t.cap.getD j 0 ≤ l.foldl (fun c t => imax c (t.cap.getD j 0)) c) from (this l 0).2 h
  intro l
  induction l with
  | nil => intro c; exact ⟨Int.le_refl _, fun h => by cases h⟩
  | cons u l ih =>
    intro c
    obtain ⟨h1, h2⟩ := ih (imax c (u.cap.getD j 0))
    have h3 := imax_left c (u.cap.getD j 0)
    have h4 := imax_right c (u.cap.getD j 0)
    rw [List.foldl_cons]
    refine ⟨by omega, fun hm => ?_⟩
    rcases List.mem_cons.1 hm with rfl | hm
    · omega
    · exact h2 hm
theorem tripsD_le {x : Instance} {ms : List Int} {j : Nat} {s : Int} (hs : 0 ≤ s) (hC : 0 ≤ capMax x.types j) (h : loadSum x.orders ms j ≤ capMax x.types j * s) : tripsD x ms j ≤ s := by
  unfold tripsD
  generalize loadSum x.orders ms j = L at *
  generalize capMax x.types j = C at *
  have e : tripsL [L] [C] = tripsF [L] [C] 0 := by
    unfold tripsL
    rw [if_neg (by simp), if_neg (by simp; omega)]
  rw [e]
  by_cases h1 : L ≤ 0
  · rw [show tripsF [L] [C] 0 = (0, 0) from if_pos h1]; simpa using hs
  by_cases h2 : C = 0
  · rw [show tripsF [L] [C] 0 = (0, 24) from (if_neg h1).trans (if_pos h2)]; simpa using hs
  rw [show tripsF [L] [C] 0 = (imax 0 ((L + C - 1).tdiv C), 0) from (if_neg h1).trans (if_neg h2)]
  simp only [ne_eq, not_true_eq_false, if_false]
  refine imax_le hs ?_
  rw [Int.tdiv_eq_ediv_of_nonneg (by omega)]
  refine Int.lt_add_one_iff.1 ((Int.ediv_lt_iff_lt_mul (by omega)).2 ?_)
  rw [Int.add_mul, Int.mul_comm s C]
  omega
theorem dimF_le {x : Instance} {ms : List Int} {s : Int} (h1 : 1 ≤ s) : ∀ k, (∀ j, j < k → tripsD x ms j ≤ s) → dimF x ms k ≤ s
  | 0, _ => h1
  | k + 1, h => by
    rw [dimF_succ]
    exact imax_le (dimF_le h1 k fun j hj => h j (by omega)) (h k (by omega))
theorem must_bit {x : Instance} {i : Nat} (h : (mustO x).testBit i = true) : ∃ o, x.orders[i]? = some o ∧ o.off = false ∧ o.penalty = -1 := by
  unfold mustO suchN at h
  rw [bitsN_test, Bool.and_eq_true] at h
  have h2 := h.2
  unfold suchB at h2
  split at h2
  · next o ho => simp at h2; exact ⟨o, ho, h2⟩
  · cases h2
theorem meet_none {k : Nat} {w : Nat → Int} {S s : Nat} (h : popK k (S &&& s) = 0) : meetW k w S s = 0 := by
  have hp := pop_meet S s k
  unfold meetW at hp ⊢
  have hp : ((popK k (S &&& s) : Nat) : Int) = sumK k fun i => if (S.testBit i && s.testBit i) = true then (1 : Int) else 0 := hp
  refine Eq.trans (sumK_congr fun i hi => ?_) (sumK_zero k)
  have := sumK_term (f := fun i => if (S.testBit i && s.testBit i) = true then (1 : Int) else 0) (n := k) (i := i) (fun i _ => by split <;> omega) hi
  split at this
  · omega
  · next hn => rw [if_neg hn]
theorem pop_hit {k S s i : Nat} (hi : i < k) (h1 : S.testBit i = true) (h2 : s.testBit i = true) : 1 ≤ popK k (S &&& s) := by
  have hp := pop_meet S s k
  unfold meetW at hp
  have := sumK_term (f := fun i => if (S.testBit i && s.testBit i) = true then (1 : Int) else 0) (n := k) (i := i) (fun i _ => by split <;> omega) hi
  have e : (if (S.testBit i && s.testBit i) = true then (1 : Int) else 0) = 1 := by rw [h1, h2]; rfl
  rw [e] at this
  have hp : ((popK k (S &&& s) : Nat) : Int) = sumK k fun i => if (S.testBit i && s.testBit i) = true then (1 : Int) else 0 := hp
  omega
theorem meet_cut {n : Nat} {w : Nat → Int} {S s : Nat} (hS : S < 2 ^ n) (hn : n ≤ 63) : meetW 63 w S s = meetW n w S s := by
  unfold meetW
  rw [show (63 : Nat) = n + (63 - n) by omega]
  refine sumK_cut (fun i hi => ?_) _
  rw [Nat.testBit_lt_two_pow (Nat.lt_of_lt_of_le hS (Nat.pow_le_pow_right (by decide) hi)), Bool.false_and, if_neg (by simp)]
theorem carries {x : Instance} {d j S : Nat} {r : Route} {t : VType} (hA : Acc x) (h : LoadsOk x d) (hj : j < d) (hS : S < 2 ^ x.orders.length) (hc : Sq.check16 x r.visits = 0) (hf : Sq.fits17 x r = 0) (ht : x.types[r.type.toNat]? = some t)
    (htog : togP x (memS (S : Int)) = true) : meetW 63 (loadJ x j) S (setC r.visits) ≤ t.cap.getD j 0 := by
  have h10 := hA.orders
  rw [meet_cut hS (by omega)]
  have hbit : ∀ i, i < x.orders.length → S.testBit i = true → (i : Int) ∈ memS (S : Int) := by
    intro i hi hb
    unfold memS memU
    refine List.mem_map.2 ⟨i, List.mem_filter.2 ⟨List.mem_range.2 (by omega), ?_⟩, rfl⟩
    rw [hasR_nat (by omega)]; exact hb
  have hk : ∃ k, k ≤ r.visits.length ∧ ∀ i, i < x.orders.length → S.testBit i = true → hasV r.visits (i : Int) = true → onK x r.visits k i = true := by
    unfold togP at htog
    rw [Bool.or_eq_true, Bool.not_eq_true', Bool.not_eq_true', List.any_eq_false, List.any_eq_false] at htog
    rcases htog with h1 | h1
    · refine ⟨0, Nat.zero_le _, fun i hi hb hv => ?_⟩
      obtain ⟨o, ho⟩ := getIn hi
      have := h1 _ (hbit i hi hb)
      rw [orderAt_get ho, decide_eq_true_eq] at this
      exact Sq.on_start ho hv (by omega)
    · refine ⟨r.visits.length, Nat.le_refl _, fun i hi hb hv => ?_⟩
      obtain ⟨o, ho⟩ := getIn hi
      have := h1 _ (hbit i hi hb)
      rw [orderAt_get ho, decide_eq_true_eq] at this
      have := (hA.order o (List.mem_of_getElem? ho)).drop
      exact Sq.on_end hc ho hv (by omega)
  obtain ⟨k, hkl, hk⟩ := hk
  refine Int.le_trans (sumK_le fun i hi => ?_) (Sq.fits_sum hf ht (h.cap t (List.mem_of_getElem? ht)).1 h10 h.load hkl hj)
  obtain ⟨o, ho⟩ := getIn hi
  have hl0 : 0 ≤ loadJ x j i := by
    have := (loadOf_in h hj (i := (i : Int)) ⟨by omega, by omega⟩).1
    unfold loadOf at this
    rw [orderAt_get ho] at this
    unfold loadJ
    rw [ho]
    exact this
  unfold termK
  split
  · next hb =>
    rw [Bool.and_eq_true] at hb
    have hv := hb.2
    rw [(setC_spec r.visits).2 i, Bool.and_eq_true] at hv
    rw [if_pos (hk i hi hb.1 hv.2)]
    exact Int.le_refl _
  · split <;> omega
theorem trips_in' {x : Instance} {d s : Nat} (h : LoadsOk x d) (hx : x.orders.length ≤ 10) : tripsP x d s ≤ 63001 := by
  unfold tripsP
  split
  · omega
  · next h1 =>
    split
    · omega
    · unfold stays at h1
      simp only [Bool.or_eq_true, not_or, Bool.not_eq_true, Bool.not_eq_false', Bool.not_eq_true'] at h1
      have hs : s < 2 ^ x.orders.length := by have := h1.1.2; rw [exist_nat] at this; simpa using this
      exact (dimF_in h (memS_in hs (by omega)) (memU_len _ 63) d (Nat.le_refl _)).2
theorem cover_sum {x : Instance} {d S : Nat} {p : Plan} (hA : Acc x) (h : LoadsOk x d) (hp : PlanOk x p) (hS : S < 2 ^ x.orders.length) (h0 : S ≠ 0) :
    tripsP x d S ≤ ((p.routes.map fun r => setC r.visits).map fun s => coefP 2 (S &&& s)).sum ∨ tripsP x d S = 0 := by
  have h10 := hA.orders
  by_cases hst : stays x (S : Int) = true
  · right; unfold tripsP; rw [if_pos hst]
  left
  have hm : S &&& mustO x = S := by
    unfold stays at hst
    simp only [Bool.or_eq_true, not_or, Bool.not_eq_true, Bool.not_eq_false', Int.toNat_natCast, Bool.not_eq_true'] at hst
    simpa using hst.2
  have hlt : ∀ i, S.testBit i = true → i < x.orders.length := by
    intro i hb
    refine Decidable.byContradiction fun hc => ?_
    rw [Nat.testBit_lt_two_pow (Nat.lt_of_lt_of_le hS (Nat.pow_le_pow_right (by decide) (by omega)))] at hb; cases hb
  have hone : ∀ i, i < 63 → S.testBit i = true → cntI (p.routes.map fun r => setC r.visits) i = 1 := by
    intro i hi hb
    rw [cnt_on p hi]
    have : (mustO x).testBit i = true := by
      rw [← hm, Nat.testBit_and, Bool.and_eq_true] at hb
      exact hb.2
    obtain ⟨o, ho, ho1, ho2⟩ := must_bit this
    exact hp.must i o ho ho1 ho2
  have hnn : ∀ s ∈ (p.routes.map fun r => setC r.visits), 0 ≤ coefP 2 (S &&& s) := fun s _ => coef_ge _ _
  have hge : 1 ≤ ((p.routes.map fun r => setC r.visits).map fun s => coefP 2 (S &&& s)).sum := by
    obtain ⟨i, hb⟩ := Nat.exists_testBit_of_ne_zero h0
    have hi := hlt i hb
    have h1 := hone i (by omega) hb
    unfold cntI at h1
    obtain ⟨s, hs, hsb⟩ := List.countP_pos_iff.1 (show 0 < List.countP (fun s => s.testBit i) (p.routes.map fun r => setC r.visits) by omega)
    have := sum_mem hnn hs
    rw [coef_cover (pop_hit (show i < 63 by omega) hb hsb)] at this
    exact this
  unfold tripsP
  rw [if_neg hst]
  by_cases ht : togP x (memS (S : Int)) = false
  · rw [if_pos ht]; exact hge
  rw [if_neg ht]
  have ht : togP x (memS (S : Int)) = true := by simpa using ht
  refine dimF_le hge d fun j hj => ?_
  have hC : 0 ≤ capMax x.types j := by have := (capMax_in h hj x.types.length).1; rwa [List.take_length] at this
  refine tripsD_le (by omega) hC ?_
  rw [load_sum h hS]
  refine carried hone fun s hs => ?_
  obtain ⟨r, hr, rfl⟩ := List.mem_map.1 hs
  obtain ⟨e1, e2, t, e3⟩ := hp.ev r hr
  by_cases hz : popK 63 (S &&& setC r.visits) = 0
  · rw [meet_none hz, coef_none hz, Int.mul_zero]; exact Int.le_refl _
  · rw [coef_cover (by omega), Int.mul_one]
    exact Int.le_trans (carries hA h hj hS e1 e2 e3 ht) (capMax_ge (List.mem_of_getElem? e3))
theorem broken_ones {c : Cut} {cols : List Column} (hk : c.kind = 1 ∨ c.kind = 2) (hn : 0 ≤ c.n ∧ c.n ≤ 100000) (hl : cols.length ≤ 40) (h1 : c.kind = 1 → (coefsP c cols).sum ≤ 1) (h2 : c.kind = 2 → c.n ≤ (coefsP c cols).sum) :
    brokenP c cols (List.replicate cols.length (dec 1)) = (dec 0, 0) := by
  have hlen : (coefsP c cols).length = cols.length := by unfold coefsP; rw [List.length_map]
  have hb : ∀ k ∈ coefsP c cols, k = 0 ∨ k = 1 := by
    intro k hk
    unfold coefsP at hk
    obtain ⟨y, _, rfl⟩ := List.mem_map.1 hk
    exact coef_bin _ _
  have ht : timesR (coefsP c cols) (List.replicate cols.length (dec 1)) = (zed (coefsP c cols).sum, 0) := by
    unfold timesR
    rw [if_neg (by rw [hlen, List.length_replicate]; simp), if_neg (by rw [List.any_replicate, one_right]; simp)]
    have := times_ones (coefsP c cols) 0 hb (Int.le_refl _) (by omega)
    rw [hlen, show zed 0 = dec 0 from zed_nat 0, Int.zero_add] at this
    exact this
  have hs0 : 0 ≤ (coefsP c cols).sum := by
    have := sum_nonneg (f := fun k : Int => k) (l := coefsP c cols) fun k hk => by rcases hb k hk with e | e <;> omega
    rwa [List.map_id'] at this
  have hs1 : (coefsP c cols).sum ≤ 40 := by
    have := sum_len_le (f := fun k : Int => k) (l := coefsP c cols) fun k hk => by rcases hb k hk with e | e <;> omega
    rw [List.map_id'] at this
    omega
  unfold brokenP
  rw [if_neg (by rw [List.length_replicate]; omega), List.take_of_length_le (by rw [List.length_replicate]; omega), ht]
  simp only [ne_eq, not_true_eq_false, if_false]
  generalize (coefsP c cols).sum = s at *
  rcases hk with e | e
  · have ho : overP c (zed s) = (zed (s - 1), 0) := by unfold overP; rw [if_pos e, sub_int (by omega) (by omega)]
    have hn : s - 1 ≤ 0 := by have := h1 e; omega
    rw [ho]
    simp only [ne_eq, not_true_eq_false, if_false]
    rw [if_pos ?_]
    rw [sign_int (by omega)]
    exact Int.sign_nonpos_iff.2 hn
  · have ho : overP c (zed s) = (zed (c.n - s), 0) := by unfold overP; rw [if_neg (by omega), if_pos e, sub_int (by omega) (by omega)]
    have hn : c.n - s ≤ 0 := by have := h2 e; omega
    rw [ho]
    simp only [ne_eq, not_true_eq_false, if_false]
    rw [if_pos ?_]
    rw [sign_int (by omega)]
    exact Int.sign_nonpos_iff.2 hn
theorem plan_holds {x : Instance} {d : Nat} {p : Plan} {c : Cut} (hA : Acc x) (h : LoadsOk x d) (hp : PlanOk x p) (hl : p.routes.length ≤ 12) (hc : rightC x d c = 0) (hs : c.set ≤ 9223372036854775807) :
    brokenP c (p.routes.map colOf) (List.replicate p.routes.length (dec 1)) = (dec 0, 0) := by
  have h10 := hA.orders
  have hbr : ∀ (hk : c.kind = 1 ∨ c.kind = 2) (hn : 0 ≤ c.n ∧ c.n ≤ 100000) (h1 : c.kind = 1 → (coefsP c (p.routes.map colOf)).sum ≤ 1) (h2 : c.kind = 2 → c.n ≤ (coefsP c (p.routes.map colOf)).sum), brokenP c (p.routes.map colOf) (List.replicate p.routes.length (dec 1)) = (dec 0, 0) := by
    intro hk hn h1 h2
    have := broken_ones (cols := p.routes.map colOf) hk hn (by rw [List.length_map]; omega) h1 h2
    rwa [List.length_map] at this
  unfold rightC at hc
  by_cases e1 : c.kind = 1
  · rw [if_pos e1] at hc
    split at hc
    · cases hc
    next h1 =>
    split at hc
    · cases hc
    next h2 =>
    have h2 : c.n = 1 := by simpa using h2
    simp only [Bool.or_eq_true, not_or, Bool.not_eq_true, Bool.not_eq_false'] at h1
    obtain ⟨S, hS, hSn⟩ := exist_spec h1.1
    have h3 : popK 63 S = 3 := by have := h1.2; rw [hS] at this; simp at this; omega
    refine hbr (.inl e1) (by omega) (fun _ => ?_) (fun e => by omega)
    rw [coefs_eq, e1, hS, Int.toNat_natCast]
    refine three_once (k := 63) (S := S) ?_ ?_ ?_
    · rw [← pop_sum, h3]; exact Int.le_refl _
    · intro i hi hb
      rw [cnt_on p hi]
      refine hp.once i ?_
      refine Decidable.byContradiction fun hcn => ?_
      rw [Nat.testBit_lt_two_pow (Nat.lt_of_lt_of_le hSn (Nat.pow_le_pow_right (by decide) (by omega)))] at hb; cases hb
    · intro s _
      rw [← pop_meet]
      exact coef_three _
  · rw [if_neg e1] at hc
    by_cases e2 : c.kind = 2
    · rw [if_pos e2] at hc
      split at hc
      · cases hc
      next h1 =>
      split at hc
      · cases hc
      next h2 =>
      simp only [Bool.or_eq_true, not_or, Bool.not_eq_true, Bool.not_eq_false'] at h1
      obtain ⟨S, hS, hSn⟩ := exist_spec h1.1
      have hS0 : S ≠ 0 := by
        intro e0
        have := h1.2
        rw [hS, e0] at this
        exact absurd this (by decide)
      rw [hS] at h2
      have h2 : 1 ≤ c.n ∧ c.n ≤ tripsP x d S := by simp at h2; omega
      have hk := trips_in' (s := S) h h10
      refine hbr (.inr e2) (by omega) (fun e => by omega) (fun _ => ?_)
      rw [coefs_eq, e2, hS, Int.toNat_natCast]
      rcases cover_sum (p := p) hA h hp hSn hS0 with h3 | h3
      · omega
      · omega
    · rw [if_neg e2] at hc; cases hc
end Go.Proofs.YtbcfajfngdmgnaaGreatDoor.Nu
end

section
set_option linter.unusedSimpArgs false
set_option linter.unusedVariables false
namespace Go.Proofs.YtbcfajfngdmgnaaGreatDoor.Nu
open Go.Aw Go.Aw.D Go.Proofs Ty Go.Nu
set_option maxRecDepth 100000
theorem trav_of {l : List Point} (h : travelR l = []) : l.length ≤ 16 ∧ ∀ p ∈ l, 0 ≤ p.t ∧ p.t ≤ 4096 := by
  unfold travelR at h
  rw [List.append_eq_nil_iff] at h
  have h1 := opt_nil h.1
  unfold badLen at h1
  simp only [Bool.or_eq_false_iff, decide_eq_false_iff_not] at h1
  refine ⟨by omega, fun p hp => ?_⟩
  obtain ⟨i, hi, rfl⟩ := List.getElem_of_mem hp
  have : pointFaults l i = [] := List.flatMap_eq_nil_iff.1 h.2 i (List.mem_range.2 hi)
  unfold pointFaults at this
  rw [List.append_eq_nil_iff] at this
  have hb := opt_nil this.1
  rw [ptAt_get (List.getElem?_eq_getElem hi)] at hb
  unfold badPoint at hb
  simp only [Bool.or_eq_false_iff, decide_eq_false_iff_not] at hb
  omega
theorem insB_of {x : Instance} (h : Acc x) : Sq.InsB x :=
  ⟨⟨by have := h.arcs; omega, fun a ha => by
      have hb := trav_of (h.arc a ha).travel
      have := (h.arc a ha).slow
      exact ⟨by omega, by omega, fun p hp => by have := hb.2 p hp; unfold Sq.i64B; omega⟩⟩,
    by have := h.types; omega, by have := h.orders; omega, by have := h.apart; omega, by have := h.before; omega⟩
def oneB : ByteArray := ⟨#[49]⟩
theorem oneB_dec : dec 1 = oneB := by decide +kernel
theorem zeroB_dec : dec 0 = ⟨#[48]⟩ := by decide +kernel
abbrev colRow (l : List Column) : Row := ⟨63, 7, l.map encColumn⟩
abbrev ratRow (l : List ByteArray) : Row := ⟨28, 1, l.map Go.Aw.D.encStr⟩
theorem cutHolds_c (x : Instance) (p : Plan) (c : Cut) (hx : InB x) (hp : Sq.PlanB p) (hcs : c.set ≤ 9223372036854775807) (hcn : -9223372036854775808 ≤ c.n ∧ c.n ≤ 9223372036854775807) :
    PC Tryz.prog 5 [.agg (encInstance x), .agg (encPlan p), .agg (encCut c)] (boo true) := by
  refine PC.body (c := Tryz.f5.body.getD .skip) (fun t => t == 7 || t == 8) mixed Tryz.func5 rfl (by kernel_rfl) ?_
  unfold Tryz.f5
  simp only [Option.getD_some]
  simp only [go_sem]
  refine PC.use (NC.pc (check_c x hx)) ?_
  simp only [go_sem, List.length_map]
  refine acond_i (fun hb => ?_) (fun hb => ?_)
  · simp only [go_sem]
    refine PC.use awake28_c ?_
    simp only [go_sem]
    exact .refl _
  have hb' : (checkR x).length = 0 ∧ p.routes.length ≤ 12 := by simp at hb; exact ⟨by simp [hb.1], by omega⟩
  have hacc := acc_of (List.eq_nil_of_length_eq_zero hb'.1)
  obtain ⟨hlo, hne⟩ := loadsOk_of hacc
  have h12 := hb'.2
  generalize (dimsR x.types).toNat = d at hlo
  clear hb hb'
  simp only [go_sem]
  refine anew_i fun j7 hj70 => ?_
  generalize hGj7 : updH _ j7 _ = HGj7
  have R7 : HGj7 j7 = some (colRow []) := by rw [← hGj7, updH_same]; rfl
  clear hGj7 hj70
  simp only [go_sem, List.length_map, R7]
  refine anew_i fun j8 hj80 => ?_
  have ne_j7_j8 : j7 ≠ j8 := ne_new R7 hj80
  generalize hGj8 : updH _ j8 _ = HGj8
  replace R7 := (congrFun hGj8.symm j7).trans ((updH_ne _ _ _ _ ne_j7_j8).trans R7)
  have R8 : HGj8 j8 = some (ratRow []) := by rw [← hGj8, updH_same]; rfl
  clear hGj8 hj80
  simp only [go_sem, R7, R8, R7]
  refine ⟨fun ρ H => ∃ (k : Nat) (j7 : Nat) (j8 : Nat), k ≤ p.routes.length ∧ ρ 3 = .rp (encInstance x) 0 ∧ ρ 4 = .rp (encPlan p) 0 ∧ ρ 5 = .rp (encCut c) 0 ∧ ρ 9 = int k ∧ ρ 7 = .os j7 ∧ ρ 8 = .os j8 ∧ H j7 = some (colRow ((p.routes.take k).map colOf)) ∧ H j8 = some (ratRow (List.replicate k oneB)), fun ρ _ => p.routes.length - natOf (ρ 9), ⟨0, j7, j8, Nat.zero_le _, by simp only [go_sem], by simp only [go_sem], by simp only [go_sem], (by simp only [go_sem]; rfl), by simp only [go_sem], by simp only [go_sem], R7, R8⟩, ?_⟩
  rintro ρ H ⟨k, j7, j8, hk, e3, e4, e5, e9, e7, e8, R7, R8⟩
  simp only [go_sem, e3, e4, e5, e9, e7, e8]
  refine acond_i (fun hlt => ?_) (fun hge => ?_)
  · have hlt := ltB (by simpa using hlt)
    obtain ⟨r, hr⟩ := getIn hlt
    have b1 := inB hlt
    simp only [go_sem, e3, e4, e5, e9, e7, e8, getD_map hr, b1]
    refine acond_i (fun hd => ?_) (fun hd => ?_)
    · simp only [go_sem]
      refine PC.use awake28_c ?_
      simp only [go_sem]
      exact .refl _
    have hv24 : r.visits.length ≤ 24 := by simp at hd; omega
    clear hd
    simp only [go_sem, e3, e4, e5, e9, e7, e8, getD_map hr, b1]
    generalize k = K at *
    refine ⟨fun ρ H => ∃ (k : Nat), k ≤ r.visits.length ∧ ρ 3 = .rp (encInstance x) 0 ∧ ρ 4 = .rp (encPlan p) 0 ∧ ρ 5 = .rp (encCut c) 0 ∧ ρ 7 = .os j7 ∧ ρ 8 = .os j8 ∧ ρ 9 = int (K : Nat) ∧ ρ 11 = int k ∧ ρ 10 = int (setC (r.visits.take k) : Nat) ∧ H j7 = some (colRow ((p.routes.take K).map colOf)) ∧ H j8 = some (ratRow (List.replicate K oneB)), fun ρ _ => r.visits.length - natOf (ρ 11), ⟨0, Nat.zero_le _, by simp only [go_sem, e3, e4, e5, e7, e8, e9], by simp only [go_sem, e3, e4, e5, e7, e8, e9], by simp only [go_sem, e3, e4, e5, e7, e8, e9], by simp only [go_sem, e3, e4, e5, e7, e8, e9], by simp only [go_sem, e3, e4, e5, e7, e8, e9], by simp only [go_sem, e3, e4, e5, e7, e8, e9], (by simp only [go_sem, e3, e4, e5, e7, e8, e9]; rfl), by simp only [go_sem]; rfl, R7, R8⟩, ?_⟩
    rintro ρ H ⟨k, hk, e3, e4, e5, e7, e8, e9, e11, e10, R7, R8⟩
    simp only [go_sem, e3, e4, e5, e7, e8, e9, e11, e10, getD_map hr, b1]
    refine acond_i (fun hlt => ?_) (fun hge => ?_)
    · have hlt := ltB (by simpa using hlt)
      obtain ⟨v, hv⟩ := getIn hlt
      have b2 := inB hlt
      obtain ⟨hs63, hbit⟩ := setC_spec (r.visits.take k)
      simp only [go_sem, e3, e4, e5, e7, e8, e9, e11, e10, getD_map hr, b1, getD_map hv, b2]
      refine ⟨boo (hasR (setC (r.visits.take k) : Nat) v.order), fun _ => (has5_c _ v.order hs63).q rfl, ?_⟩
      have hset := setC_succ hv
      have hcond : ∀ n : Nat, v.order = (n : Int) → n < 63 → hasR (setC (r.visits.take k) : Nat) v.order = (setC (r.visits.take k)).testBit n := fun n hn h => by rw [hn, hasR_nat (by omega)]
      have hpow : ∀ n : Nat, n < 63 → 2 ^ n ≤ 2 ^ 62 := fun n h => Nat.pow_le_pow_right (by decide) (by omega)
      have hnext := (setC_spec (r.visits.take (k + 1))).1
      unfold setS at hset
      simp only [go_sem, e3, e4, e5, e7, e8, e9, e11, e10]
      refine acond_i (fun hd => ?_) (fun hd => ?_)
      · have hd' : 0 ≤ v.order ∧ v.order < 63 ∧ hasR (setC (r.visits.take k) : Nat) v.order = false := by simp at hd; exact ⟨hd.1.1, hd.1.2, hd.2⟩
        obtain ⟨n, hn⟩ := Int.eq_ofNat_of_zero_le hd'.1
        have hn63 : n < 63 := by omega
        have hb := hcond n hn hn63
        rw [hd'.2.2] at hb
        rw [hn] at hset
        rw [if_pos (by rw [Int.toNat_natCast, ← hb]; simp; omega), Int.toNat_natCast] at hset
        simp only [go_sem, e3, e4, e5, e7, e8, e9, e11, e10, hn]
        refine PC.use (bit5_c n (by omega)) ?_
        have hw : IntKind.i64.wrap (((setC (r.visits.take k) : Nat) : Int) + ((2 ^ n : Nat) : Int)) = ((setC (r.visits.take (k + 1)) : Nat) : Int) := by rw [wrap_in (by omega)]; omega
        simp only [go_sem, e3, e4, e5, e7, e8, e9, e11, e10, hw, wrapS (show k ≤ 4611686018427387904 by omega)]
        exact ⟨⟨k + 1, hlt, rfl, rfl, R7, R8⟩, by simp only [natOf_int]; omega⟩
      · rw [if_neg ?_] at hset
        · simp only [go_sem, e3, e4, e5, e7, e8, e9, e11, e10, wrapS (show k ≤ 4611686018427387904 by omega)]
          exact ⟨⟨k + 1, hlt, rfl, by rw [hset], R7, R8⟩, by simp only [natOf_int]; omega⟩
        · intro hc
          simp only [Bool.and_eq_true, decide_eq_true_eq, Bool.not_eq_true'] at hc
          obtain ⟨⟨c1, c2⟩, c3⟩ := hc
          obtain ⟨n, hn⟩ := Int.eq_ofNat_of_zero_le c1
          have hb := hcond n hn (by omega)
          rw [hn, Int.toNat_natCast] at c3
          rw [hb, c3] at hd
          simp at hd; omega
    have hge := geB hk (by simpa using hge)
    subst hge
    rw [List.take_length] at e10
    simp only [go_sem, e3, e4, e5, e7, e8, e9, e11, e10]
    refine adraw_m [(0, true), (1, true), (2, true), (3, true), (4, true), (5, true), (6, true), (7, true), (8, true), (9, true), (10, true), (11, true), (12, true), (13, true), (14, false), (15, false), (16, false)] (by kernel_rfl) ?_
    simp only [go_sem, e3, e4, e5, e7, e8, e9, e11, e10, getD_map hr, b1]
    have ne_j7_j8 : j7 ≠ j8 := Sq.row_ne R7 R8 rfl
    refine wappE_i R7 ⟨rfl, rfl⟩ ⟨rfl, trivial⟩ (by simp only [List.length_map, List.length_take, List.length_cons, List.length_nil]; omega) (fun j hj0 => ?_)
    have ne_j8_j : j8 ≠ j := ne_new R8 hj0
    generalize hP : updH (updH _ j7 none) j _ = HP
    replace R8 := (congrFun hP.symm j8).trans ((updH_ne _ _ _ _ ne_j8_j).trans ((updH_ne _ _ _ _ (by first | exact ne_j8_j7 | exact ne_j7_j8.symm)).trans R8))
    have Rc : HP j = some (colRow ((p.routes.take (K + 1)).map colOf)) := by rw [← hP, updH_same]; rw [take_succ hr, List.map_append]; exact congrArg (fun l => some (⟨63, 7, l⟩ : Row)) (List.map_append (f := encColumn) (l₁ := (p.routes.take K).map colOf) (l₂ := [colOf r])).symm
    clear hP hj0
    simp only [go_sem, e3, e4, e5, e7, e8, e9, e11, e10, Rc, R8]
    refine wappE_i R8 ⟨rfl, rfl⟩ ⟨rfl, trivial⟩ (by simp only [List.length_map, List.length_replicate, List.length_cons, List.length_nil]; omega) (fun j' hj'0 => ?_)
    have ne_j_j' : j ≠ j' := ne_new Rc hj'0
    generalize hP : updH (updH _ j8 none) j' _ = HP
    replace Rc := (congrFun hP.symm j).trans ((updH_ne _ _ _ _ ne_j_j').trans ((updH_ne _ _ _ _ (by first | exact ne_j_j8 | exact ne_j8_j.symm)).trans Rc))
    have Rr : HP j' = some (ratRow (List.replicate (K + 1) oneB)) := by rw [← hP, updH_same]; rw [List.replicate_succ']; exact congrArg (fun l => some (⟨28, 1, l⟩ : Row)) (List.map_append (f := Go.Aw.D.encStr) (l₁ := List.replicate K oneB) (l₂ := [oneB])).symm
    clear hP hj'0
    simp only [go_sem, e3, e4, e5, e7, e8, e9, e11, e10, Rr, Rc]
    simp only [wrapS (show K ≤ 4611686018427387904 by omega)]
    exact ⟨⟨K + 1, j, j', hlt, rfl, rfl, rfl, Rc, Rr⟩, by simp only [natOf_int]; omega⟩
  have hge := geB hk (by simpa using hge)
  subst hge
  rw [List.take_length] at R7
  simp only [go_sem, e3, e4, e5, e7, e8, e9]
  refine PC.use (Sq.check23_c x p (insB_of hacc) hp) ?_
  simp only [go_sem, e3, e4, e5, e7, e8, e9]
  refine ⟨int (rightC x d c), fun _ => (rightC_c x d c hlo hne).q rfl, ?_⟩
  simp only [go_sem, e3, e4, e5, e7, e8, e9]
  refine acond_i (fun hb => ?_) (fun hb => ?_)
  · simp only [go_sem]
    refine PC.use awake28_c ?_
    simp only [go_sem]
    exact .refl _
  have hb' : Sq.check23 x p = 0 ∧ rightC x d c = 0 := by simp at hb; exact hb
  have hset : 0 ≤ c.set := by
    have := hb'.2
    unfold rightC existP at this
    refine Decidable.byContradiction fun hn => ?_
    rw [decide_eq_false (show ¬ c.set ≥ 0 by omega)] at this
    simp at this
    split at this
    · cases this
    · split at this
      · cases this
      · cases this
  have hok : okCut c := ⟨hset, hcs, hcn⟩
  have hcols : ColsOk (p.routes.map colOf) (List.replicate p.routes.length oneB) := ⟨fun y hy => by
      obtain ⟨r, _, rfl⟩ := List.mem_map.1 hy
      have := (setC_spec r.visits).1
      show 0 ≤ ((setC r.visits : Nat) : Int) ∧ ((setC r.visits : Nat) : Int) ≤ _
      omega, by rw [List.length_map]; omega, by rw [List.length_replicate]; omega, fun s hs => by
      rw [(List.mem_replicate.1 hs).2]; decide⟩
  have hbk := broken_a hcols hok
  have hbr := plan_holds hacc hlo (Sq.planOk_of hb'.1) h12 hb'.2 hcs
  rw [oneB_dec, zeroB_dec] at hbr
  rw [hbr] at hbk
  simp only [go_sem, e3, e4, e5, e7, e8, e9]
  refine PC.useF [j7, j8] (args' := [.agg (encCut c), .sl ((p.routes.map colOf).map encColumn), .sl ((List.replicate p.routes.length oneB).map Go.Aw.D.encStr)]) (.cons _ _ _ _ (.refl _) (.cons _ _ _ _ (.row _ _ _ (by simp; exact R7) (ConvE.refl _)) (.cons _ _ _ _ (.row _ _ _ (by simp; exact R8) (ConvE.refl _)) .nil))) hbk ?_
  simp only [go_sem, e3, e4, e5, e7, e8, e9]
  refine ⟨_, fun _ => awake28_c.q rfl, ?_⟩
  simp only [go_sem]
  exact cB (a := true) rfl
end Go.Proofs.YtbcfajfngdmgnaaGreatDoor.Nu
end

section
namespace Go.Proofs.YtbcfajfngdmgnaaGreatDoor
open Go.Aw Go.Aw.D
theorem inB_of {x : Instance} (h : bInstance 1048576 x) : InB x := by
  obtain ⟨⟨hpl, har⟩, hty, hor, hap, hbe⟩ := h
  exact ⟨hpl.1, hpl.2, har.1, fun a ha => ⟨(har.2 a ha).2.2.2.2.1.1, (har.2 a ha).2.2.2.2.2.1⟩, hty.1, fun t ht => ⟨(hty.2 t ht).1, (hty.2 t ht).2.2.2.2.1.1⟩, hor.1, fun t ht => ⟨(hor.2 t ht).1, (hor.2 t ht).2.1.1⟩, hap.1, hbe.1⟩
theorem cutHolds_holds : Rows.CutHoldsUptoCardSaid := cutHolds.card fun x p c hx hp hc => by
  refine Nu.cutHolds_c x p c (inB_of hx) ⟨hp.1.1, fun r hr => (hp.1.2 r hr).2.2.2.1, hp.2.1⟩ hc.2.1.2 ⟨hc.2.2.1, hc.2.2.2⟩
#print axioms cutHolds_holds
end Go.Proofs.YtbcfajfngdmgnaaGreatDoor
end
