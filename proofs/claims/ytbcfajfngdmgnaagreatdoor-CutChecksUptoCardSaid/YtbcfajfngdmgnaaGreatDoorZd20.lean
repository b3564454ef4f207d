/- Texts joined by a program: NuQ, NuZc, NuZd, CuA, CuB, CuC. -/
import Derived.Test.YtbcfajfngdmgnaaGreatDoorZd14
import Derived.Test.YtbcfajfngdmgnaaGreatDoorZd18
import Derived.Test.YtbcfajfngdmgnaaGreatDoorZd19

section
set_option linter.unusedSimpArgs false
set_option linter.unusedVariables false
namespace Go.Proofs.YtbcfajfngdmgnaaGreatDoor.Nu
open Go.Aw Go.Aw.D Go.Proofs Ty Go.Nu
set_option maxRecDepth 100000
theorem drop_at {α : Type} {l : List α} {k : Nat} {x : α} (h : l[k]? = some x) : l.drop k = x :: l.drop (k + 1) := by
  obtain ⟨hk, e⟩ := List.getElem?_eq_some_iff.1 h
  rw [List.drop_eq_getElem_cons hk, e]
theorem rTimes_c (ns : List Int) (xs : List ByteArray) (hn : ∀ n ∈ ns, -9223372036854775808 ≤ n ∧ n ≤ 9223372036854775807) (hl : xs.length ≤ 1048576) (hs : ∀ s ∈ xs, s.size ≤ 1048576) :
    PC Tryz.prog 56 [.sl (ns.map encInt), .sl (xs.map Go.Aw.D.encStr)] (.tup [str (timesR ns xs).1, int (timesR ns xs).2]) := by
  refine PC.body (c := Tryz.f56.body.getD .skip) (fun _ => false) mixed Tryz.func56 rfl (by kernel_rfl) ?_
  unfold Tryz.f56
  simp only [Option.getD_some]
  simp only [go_sem]
  refine acond_i (fun hne => ?_) (fun heq => ?_)
  · have hne : ns.length ≠ xs.length := neN hne
    simp only [go_sem]
    rw [show timesR ns xs = (emp, 2) from if_pos hne]
    exact .refl _
  have heq : ns.length = xs.length := eqN heq
  have e0 : timesR ns xs = if xs.any (fun x => !rightR x) = true then (emp, 3) else timesF (ns.zip xs) (dec 0) := if_neg (by simp [heq])
  rw [e0]
  simp only [go_sem, List.length_map]
  refine ⟨fun ρ H => ∃ (k : Nat), k ≤ xs.length ∧ ρ 0 = .sl (ns.map encInt) ∧ ρ 1 = .sl (xs.map Go.Aw.D.encStr) ∧ ρ 18 = .sl (xs.map Go.Aw.D.encStr) ∧ ρ 19 = int xs.length ∧ ρ 20 = int k ∧ ∀ s ∈ xs.take k, rightR s = true, fun ρ _ => xs.length - natOf (ρ 20),
    ⟨0, Nat.zero_le _, by simp only [go_sem], by simp only [go_sem], by simp only [go_sem], by simp only [go_sem, List.length_map], by simp only [go_sem]; rfl, by simp⟩, ?_⟩
  rintro ρ H ⟨k, hk, h0, h1, h18, h19, h20, hz⟩
  simp only [go_sem, h0, h1, h18, h19, h20]
  refine acond_i (fun hlt => ?_) (fun hge => ?_)
  · have hlt := ltB hlt
    obtain ⟨s, hs0⟩ := getIn hlt
    have b1 := inB hlt
    simp only [go_sem, h0, h1, h18, h19, h20, getD_map hs0, b1]
    refine PC.use (right1_c s (hs s (List.mem_of_getElem? hs0))) ?_
    simp only [go_sem, h0, h1, h18, h19, h20]
    refine acond_i (fun hb => ?_) (fun hb => ?_)
    · simp only [go_sem]
      rw [if_pos (any_yes hs0 hb)]
      exact .refl _
    · simp only [go_sem, h0, h1, h18, h19, h20, wrapS (show k ≤ 4611686018427387904 by omega)]
      exact ⟨⟨k + 1, hlt, rfl, take_all' hs0 (by simpa using hb) hz⟩, by simp only [natOf_int]; omega⟩
  have hge := geB hk hge
  subst hge
  rw [List.take_length] at hz
  have hR : xs.any (fun s => !rightR s) = false := any_none fun s hs => by rw [hz s hs]; rfl
  rw [hR]
  simp only [go_sem, h0, h1, List.length_map]
  refine ⟨fun ρ H => ∃ (k : Nat) (t : ByteArray), k ≤ xs.length ∧ ρ 0 = .sl (ns.map encInt) ∧ ρ 28 = .sl (xs.map Go.Aw.D.encStr) ∧ ρ 29 = int xs.length ∧ ρ 8 = str t ∧ ρ 30 = int k ∧ t.size ≤ 1048576 ∧ timesF (ns.zip xs) (dec 0) = timesF ((ns.zip xs).drop k) t, fun ρ _ => xs.length - natOf (ρ 30),
    ⟨0, dec 0, Nat.zero_le _, by simp only [go_sem, h0], by simp only [go_sem], by simp only [go_sem, List.length_map], by simp only [go_sem]; rw [zero_lit], by simp only [go_sem]; rfl, by rw [← zero_lit]; decide, rfl⟩, ?_⟩
  clear h0 h1 h18 h19 h20
  rintro ρ H ⟨k, t, hk, h0, h28, h29, h8, h30, ht, hinv⟩
  rw [hinv]
  have hzl : (ns.zip xs).length = xs.length := by rw [List.length_zip]; omega
  simp only [go_sem, h0, h28, h29, h8, h30]
  refine acond_i (fun hlt => ?_) (fun hge => ?_)
  · have hlt := ltB hlt
    obtain ⟨s, hs0⟩ := getIn hlt
    obtain ⟨n, hn0⟩ := getIn (l := ns) (k := k) (by omega)
    have b1 := inB hlt
    have b2 := inB (show k < ns.length by omega)
    have hss := hs s (List.mem_of_getElem? hs0)
    have hnn := hn n (List.mem_of_getElem? hn0)
    have hz0 : (ns.zip xs)[k]? = some (n, s) := by rw [List.getElem?_zip_eq_some]; exact ⟨hn0, hs0⟩
    have hnm : n.natAbs < maxN := lt_max (k := 20) (by omega) (by decide)
    have hzs := Go.Nu.zed_size hnm
    rw [drop_at hz0, timesF]
    simp only [go_sem, h0, h28, h29, h8, h30, getD_map hs0, getD_map hn0, b1, b2]
    refine PC.use (rof_c n hnn.1 hnn.2) ?_
    simp only [go_sem, h0, h28, h29, h8, h30]
    refine PC.use (rMul_c (zed n) s (by omega) hss) ?_
    simp only [go_sem, h0, h28, h29, h8, h30]
    refine acond_i (fun hb => ?_) (fun hb => ?_)
    · have hb : (mulR (zed n) s).2 ≠ 0 := by simpa using hb
      simp only [go_sem]
      rw [if_pos hb]
      exact .refl _
    have hb : (mulR (zed n) s).2 = 0 := by simpa using hb
    have hm := right_size' (mulR_small hb)
    rw [if_neg (by simp [hb])]
    generalize (mulR (zed n) s).1 = m at *
    simp only [go_sem, h0, h28, h29, h8, h30]
    refine PC.use (rAdd_c t m ht (by omega)) ?_
    simp only [go_sem, h0, h28, h29, h8, h30]
    refine acond_i (fun hb2 => ?_) (fun hb2 => ?_)
    · have hb2 : (addR t m).2 ≠ 0 := by simpa using hb2
      simp only [go_sem]
      rw [if_pos hb2]
      exact .refl _
    have hb2 : (addR t m).2 = 0 := by simpa using hb2
    have ha := right_size' (addR_small hb2)
    rw [if_neg (by simp [hb2])]
    simp only [go_sem, h0, h28, h29, h8, h30, wrapS (show k ≤ 4611686018427387904 by omega)]
    exact ⟨⟨k + 1, _, hlt, rfl, rfl, by omega, rfl⟩, by simp only [natOf_int]; omega⟩
  · have hge := geB hk hge
    subst hge
    rw [List.drop_of_length_le (by omega)]
    simp only [go_sem, h8]
    exact .refl _
end Go.Proofs.YtbcfajfngdmgnaaGreatDoor.Nu
end

section
set_option linter.unusedSimpArgs false
set_option linter.unusedVariables false
namespace Go.Proofs.YtbcfajfngdmgnaaGreatDoor.Nu
open Go.Aw Go.Aw.D Go.Proofs Ty Go.Nu
set_option maxRecDepth 100000
end Go.Proofs.YtbcfajfngdmgnaaGreatDoor.Nu
end

section
set_option linter.unusedSimpArgs false
set_option linter.unusedVariables false
namespace Go.Proofs.YtbcfajfngdmgnaaGreatDoor.Nu
open Go.Aw Go.Aw.D Go.Proofs Ty Go.Nu
set_option maxRecDepth 100000
end Go.Proofs.YtbcfajfngdmgnaaGreatDoor.Nu
end

section
set_option linter.unusedSimpArgs false
set_option linter.unusedVariables false
namespace Go.Proofs.YtbcfajfngdmgnaaGreatDoor.Nu
open Go.Aw Go.Aw.D Go.Proofs Ty Go.Nu
set_option maxRecDepth 100000
theorem and1 (x : Int) : bitV .and .i64 x 1 = x % 2 := by
  have h : ((BitVec.ofInt 64 x &&& BitVec.ofInt 64 1).toNat : Int) = x % 2 := by
    rw [BitVec.toNat_and, BitVec.toNat_ofInt, BitVec.toNat_ofInt]
    have : ((1 : Int) % ((2 ^ 64 : Nat) : Int)).toNat = 1 := by decide
    rw [this, Nat.and_one_is_mod]
    omega
  refine Eq.trans (congrArg IntKind.i64.wrap h) ?_
  exact wrap_in (by omega)
theorem and_nat {a b : Nat} (ha : a < 2 ^ 63) (hb : b < 2 ^ 63) : bitV .and .i64 (a : Int) (b : Int) = ((a &&& b : Nat) : Int) := by
  have h : ((BitVec.ofInt 64 (a : Int) &&& BitVec.ofInt 64 (b : Int)).toNat : Int) = ((a &&& b : Nat) : Int) := by
    rw [BitVec.toNat_and, BitVec.toNat_ofInt, BitVec.toNat_ofInt]
    have h1 : ((a : Int) % ((2 ^ 64 : Nat) : Int)).toNat = a := by omega
    have h2 : ((b : Int) % ((2 ^ 64 : Nat) : Int)).toNat = b := by omega
    rw [h1, h2]
  refine Eq.trans (congrArg IntKind.i64.wrap h) ?_
  have := Nat.and_lt_two_pow a hb
  exact wrap_in (by omega)
theorem shr_in {x : Int} {i : Nat} (h : i ≤ 62) : shV .shr .i64 x (i : Int) = x / 2 ^ i := by
  show x.fdiv (2 ^ min ((i : Int)).toNat 64) = _
  have : min ((i : Int)).toNat 64 = i := by omega
  rw [this, Int.fdiv_eq_ediv_of_nonneg _ (by exact Int.le_of_lt (Int.pow_pos (by decide)))]
def hasR (set i : Int) : Bool := decide (i ≥ 0) && decide (i ≤ 62) && ((set / 2 ^ i.toNat) % 2 == 1)
theorem sHas_c (set i : Int) : PC Tryz.prog 153 [int set, int i] (boo (hasR set i)) := by
  refine PC.body (c := Tryz.f153.body.getD .skip) (fun _ => false) mixed Tryz.func153 rfl (by kernel_rfl) ?_
  unfold Tryz.f153
  simp only [Option.getD_some]
  simp only [go_sem]
  refine ⟨fun h => ?_, ?_⟩
  · simp at h; omega
  · refine cB ?_
    unfold hasR
    rw [and1]
    by_cases h : 0 ≤ i ∧ i ≤ 62
    · obtain ⟨h0, h1⟩ := h
      have e := shr_in (x := set) (i := i.toNat) (by omega)
      rw [Int.toNat_of_nonneg h0] at e
      rw [e]
    · have : (decide (i ≥ 0) && decide (i ≤ 62)) = false := by simp; omega
      rw [this]; rfl
def memU (set : Int) (k : Nat) : List Int := ((List.range k).filter fun i : Nat => hasR set (i : Int)).map fun i : Nat => (i : Int)
def memS (set : Int) : List Int := memU set 63
theorem memU_succ (set : Int) (k : Nat) : memU set (k + 1) = memU set k ++ (if hasR set (k : Int) = true then [(k : Int)] else []) := by
  unfold memU
  rw [List.range_succ, List.filter_append, List.map_append]
  by_cases h : hasR set (k : Int) = true
  · simp [h]
  · simp [h]
theorem memU_len (set : Int) (k : Nat) : (memU set k).length ≤ k := by
  unfold memU
  rw [List.length_map]
  exact Nat.le_trans (List.length_filter_le _ _) (by simp)
def intRow (l : List Int) : Row := ⟨3, 1, l.map encInt⟩
theorem members_c (set : Int) : PC Tryz.prog 85 [int set] (.sl ((memS set).map encInt)) := by
  refine PC.body (c := Tryz.f85.body.getD .skip) (fun t => t == 3) mixed Tryz.func85 rfl (by kernel_rfl) ?_
  unfold Tryz.f85
  simp only [Option.getD_some]
  simp only [go_sem]
  refine anew_i fun j hj => ?_
  simp only [go_sem]
  refine ⟨fun ρ H => ∃ k : Nat, k ≤ 63 ∧ ρ 0 = int set ∧ ρ 5 = int k ∧ ∃ j, ρ 3 = .os j ∧ H j = some (intRow (memU set k)), fun ρ _ => 63 - natOf (ρ 5), ⟨0, Nat.zero_le _, rfl, rfl, j, rfl, updH_same _ _ _⟩, ?_⟩
  clear hj
  rintro ρ H ⟨k, hk, h0, h5, j, h3, R⟩
  simp only [go_sem, h0, h5, h3]
  refine acond_i (fun hlt => ?_) (fun hge => ?_)
  · have hlt : k < 63 := by simp at hlt; omega
    simp only [go_sem, h0, h5, h3]
    refine PC.use (sHas_c set k) ?_
    simp only [go_sem, h0, h5, h3]
    refine acond_i (fun hb => ?_) (fun hb => ?_)
    · simp only [go_sem, h0, h5, h3]
      refine wappE_i R ⟨rfl, rfl⟩ ⟨rfl, trivial⟩ (by have := memU_len set k; simp [intRow]; omega) (fun j' hj' => ?_)
      simp only [go_sem, h0, h5, h3, wrapS (show k ≤ 4611686018427387904 by omega)]
      refine ⟨⟨k + 1, hlt, rfl, j', rfl, ?_⟩, by simp only [natOf_int]; omega⟩
      rw [memU_succ, if_pos hb, updH_same]
      simp only [intRow, List.map_append, List.map_cons, List.map_nil]
      rfl
    · simp only [go_sem, h0, h5, h3, wrapS (show k ≤ 4611686018427387904 by omega)]
      refine ⟨⟨k + 1, hlt, rfl, j, rfl, ?_⟩, by simp only [natOf_int]; omega⟩
      rw [memU_succ, if_neg (by rw [hb]; simp), List.append_nil]
      exact R
  · have hge : k = 63 := by simp at hge; omega
    subst hge
    simp only [go_sem, h3]
    exact .row _ _ _ R (ConvE.refl _)
/-- how many of the first k bits are set -/
def popK : Nat → Nat → Nat
  | 0, _ => 0
  | k + 1, n => n % 2 + popK k (n / 2)
theorem popK_snoc : ∀ (k n : Nat), popK (k + 1) n = popK k n + (n / 2 ^ k) % 2
  | 0, n => by simp [popK]
  | k + 1, n => by
    rw [popK, popK_snoc k (n / 2), popK, Nat.div_div_eq_div_mul, show 2 * 2 ^ k = 2 ^ (k + 1) by rw [Nat.pow_succ, Nat.mul_comm]]
    omega
theorem popK_zero : ∀ k : Nat, popK k 0 = 0
  | 0 => rfl
  | k + 1 => by rw [popK, popK_zero k]
theorem popK_le : ∀ k n : Nat, popK k n ≤ k
  | 0, _ => Nat.le_refl 0
  | k + 1, n => by have := popK_le k (n / 2); rw [popK]; omega
theorem memU_pop (n : Nat) : ∀ k : Nat, k ≤ 63 → (memU (n : Int) k).length = popK k n
  | 0, _ => rfl
  | k + 1, hk => by
    rw [memU_succ, List.length_append, memU_pop n k (by omega), popK_snoc]
    have h : hasR (n : Int) (k : Int) = decide ((n / 2 ^ k) % 2 = 1) := by
      unfold hasR
      rw [show decide ((k : Int) ≥ 0) = true by simp, show decide ((k : Int) ≤ 62) = true by simp; omega, Int.toNat_natCast, Bool.true_and, Bool.true_and]
      rw [Bool.eq_iff_iff, beq_iff_eq, decide_eq_true_iff]
      have : ((n : Int) / 2 ^ k) = ((n / 2 ^ k : Nat) : Int) := by norm_cast
      rw [this]
      omega
    rw [h]
    by_cases h2 : (n / 2 ^ k) % 2 = 1
    · simp [h2]
    · have : (n / 2 ^ k) % 2 = 0 := by omega
      simp [this]
theorem size_c (n : Nat) : PC Tryz.prog 79 [int n] (int (popK 63 n : Nat)) := by
  have hm := memU_pop n 63 (Nat.le_refl _)
  have hle := popK_le 63 n
  refine PC.body (c := Tryz.f79.body.getD .skip) (fun _ => false) mixed Tryz.func79 rfl (by kernel_rfl) ?_
  unfold Tryz.f79
  simp only [Option.getD_some]
  simp only [go_sem]
  refine PC.use (members_c n) ?_
  simp only [go_sem, List.length_map, memS, hm]
  generalize popK 63 n = P at *
  refine ⟨fun ρ _ => ∃ k : Nat, k ≤ P ∧ ρ 3 = int k ∧ ρ 6 = int (P : Nat) ∧ ρ 7 = int k, fun ρ _ => P - natOf (ρ 7), ⟨0, Nat.zero_le _, by simp only [go_sem]; rfl, by simp only [go_sem], by simp only [go_sem]; rfl⟩, ?_⟩
  rintro ρ H ⟨k, hk, h3, h6, h7⟩
  simp only [go_sem, h3, h6, h7]
  refine acond_i (fun hlt => ?_) (fun hge => ?_)
  · have hlt := ltB hlt
    simp only [go_sem, h3, h6, h7, wrapS (show k ≤ 4611686018427387904 by omega)]
    exact ⟨⟨k + 1, hlt, rfl⟩, by simp only [natOf_int]; omega⟩
  · have hge := geB hk hge
    subst hge
    simp only [go_sem, h3]
    exact .refl _
theorem size5_c (n : Nat) (hn : n < 9223372036854775808) : PC Tryz.prog 92 [int n] (int (popK 63 n : Nat)) := by
  have hle := popK_le 63 n
  refine PC.body (c := Tryz.f92.body.getD .skip) (fun _ => false) mixed Tryz.func92 rfl (by kernel_rfl) ?_
  unfold Tryz.f92
  simp only [Option.getD_some]
  simp only [go_sem]
  refine ⟨fun ρ _ => ∃ k m c : Nat, k ≤ 63 ∧ ρ 0 = int m ∧ ρ 3 = int c ∧ m < 2 ^ (63 - k) ∧ c + popK (63 - k) m = popK 63 n, fun ρ _ => natOf (ρ 0), ⟨0, n, 0, Nat.zero_le _, by simp only [go_sem], by simp only [go_sem]; rfl, hn, by simp⟩, ?_⟩
  rintro ρ H ⟨k, m, c, hk, h0, h3, hm, hc⟩
  simp only [go_sem, h0, h3]
  refine acond_i (fun hlt => ?_) (fun hge => ?_)
  · have hlt : 0 < m := by simpa using hlt
    obtain ⟨d, hd⟩ : ∃ d, 63 - k = d + 1 := ⟨62 - k, by
      rcases Nat.lt_or_ge k 63 with h | h
      · omega
      · have : k = 63 := by omega
        subst this
        simp at hm
        omega⟩
    rw [hd] at hm hc
    have hmb : m < 9223372036854775808 := Nat.lt_of_lt_of_le hm (show 2 ^ (d + 1) ≤ 2 ^ 63 from Nat.pow_le_pow_right (by decide) (by omega))
    rw [popK] at hc
    rw [Nat.pow_succ] at hm
    have e2 : ((m : Int)).tmod 2 = ((m % 2 : Nat) : Int) := rfl
    have e3 : IntKind.i64.wrap (((m : Int)).tdiv 2) = ((m / 2 : Nat) : Int) := by
      rw [show ((m : Int)).tdiv 2 = ((m / 2 : Nat) : Int) from rfl, wrap_in (by omega)]
    have e4 : IntKind.i64.wrap ((c : Int) + ((m % 2 : Nat) : Int)) = ((c + m % 2 : Nat) : Int) := by rw [wrap_in (by omega)]; omega
    simp only [go_sem, h0, h3, e2, e3, e4]
    refine ⟨by decide, by decide, ?_⟩
    exact ⟨⟨k + 1, m / 2, c + m % 2, by omega, rfl, rfl, by rw [show 63 - (k + 1) = d by omega]; omega, by rw [show 63 - (k + 1) = d by omega]; omega⟩, by simp only [natOf_int]; omega⟩
  · have hz : m = 0 := by simpa using hge
    subst hz
    rw [popK_zero] at hc
    simp only [go_sem, h3]
    exact cI (by omega)
end Go.Proofs.YtbcfajfngdmgnaaGreatDoor.Nu
end

section
set_option linter.unusedSimpArgs false
set_option linter.unusedVariables false
namespace Go.Proofs.YtbcfajfngdmgnaaGreatDoor.Nu
open Go.Aw Go.Aw.D Go.Proofs Ty Go.Nu
set_option maxRecDepth 100000
/-! ### map[int]int -/
def encKV (p : Int × Int) : List AV := [int p.1, int p.2]
def idxM (m : List (Int × Int)) (o : Int) : Option Nat := m.findIdx? fun p => p.1 == o
def getM (m : List (Int × Int)) (o : Int) : Int := ((m.find? fun p => p.1 == o).map (·.2)).getD 0
def putM (m : List (Int × Int)) (o v : Int) : List (Int × Int) := match idxM m o with
  | some i => m.set i (o, v)
  | none => m ++ [(o, v)]
abbrev mapRow (m : List (Int × Int)) : Row := ⟨0, 2, m.map encKV⟩
theorem mfind_int (o : Int) : ∀ (m : List (Int × Int)) (i : Nat), mfind (keyEq Tryz.prog 3 (int o)) (m.map encKV) i = some ((idxM m o).map (· + i))
  | [], i => rfl
  | p :: m, i => by
    have ih := mfind_int o m (i + 1)
    have hk : keyEq Tryz.prog 3 (int o) ((encKV p).getD 0 .any) = some (o == p.1) := by
      show keyEq Tryz.prog 3 (int o) (int p.1) = _
      unfold keyEq
      simp only [kk3]
      simp [eqCell]
    rw [List.map_cons, mfind, hk]
    unfold idxM at *
    rw [List.findIdx?_cons]
    by_cases h : o = p.1
    · subst h; simp
    · have h1 : (o == p.1) = false := by simpa using h
      have h2 : (p.1 == o) = false := by simpa using fun e => h e.symm
      rw [h1, h2]
      simp only [Bool.false_eq_true, if_false]
      rw [ih]
      cases m.findIdx? (fun p => p.1 == o) with
      | none => rfl
      | some j => simp; omega
theorem mfind_int0 (o : Int) (m : List (Int × Int)) : mfind (keyEq Tryz.prog 3 (int o)) (m.map encKV) 0 = some (idxM m o) := by
  rw [mfind_int]; cases idxM m o <;> rfl
theorem plain_int (o : Int) : plainKey Tryz.prog 3 (int o) = true := by
  simp only [plainKey, kk3]; rfl
theorem mget_int (m : List (Int × Int)) (o : Int) : mget false (int 0) (m.map encKV) (idxM m o) = int (getM m o) := by
  unfold mget getM idxM
  induction m with
  | nil => rfl
  | cons p m ih =>
    rw [List.findIdx?_cons, List.find?_cons]
    cases h : p.1 == o with
    | true => simp [encKV]
    | false =>
      cases hi : m.findIdx? (fun p => p.1 == o) with
      | none =>
        rw [hi] at ih
        simpa using ih
      | some j =>
        rw [hi] at ih
        simp at ih ⊢
        exact ih
theorem mput_int (m : List (Int × Int)) (o v : Int) : mput (m.map encKV) (idxM m o) (int o) (int v) = (putM m o v).map encKV := by
  unfold mput putM
  cases idxM m o with
  | none => simp [encKV]
  | some i => simp [List.map_set, encKV]
def needN (k : Int) : Nat := if k = 1 then 2 else if k = 2 then 1 else 0
def coefB (k : Int) (P : Nat) : Bool := decide (needN k > 0) && decide (needN k ≤ P)
def coefP (k : Int) (n : Nat) : Int := if coefB k (popK 63 n) = true then 1 else 0
theorem coef28_c (k m : Int) (a b : Nat) (ha : a < 2 ^ 63) (hb : b < 2 ^ 63) : PC Tryz.prog 31 [.agg [int k, int a, int m], int b] (int (coefP k (a &&& b))) := by
  have hlt : a &&& b < 2 ^ 63 := Nat.and_lt_two_pow a hb
  have hs := size5_c (a &&& b) hlt
  have hle := popK_le 63 (a &&& b)
  refine PC.body (c := Tryz.f31.body.getD .skip) (fun _ => false) mixed Tryz.func31 rfl (by kernel_rfl) ?_
  unfold Tryz.f31
  simp only [Option.getD_some]
  simp only [go_sem]
  rw [and_nat ha hb]
  refine PC.use hs ?_
  unfold coefP
  generalize popK 63 (a &&& b) = P at *
  simp only [go_sem]
  have hc : ((k == 1 && decide ((P : Int) ≥ 2)) || (k == 2 && decide ((P : Int) ≥ 1))) = coefB k P := by
    unfold coefB needN
    by_cases h1 : k = 1
    · subst h1; simp; omega
    · by_cases h2 : k = 2
      · subst h2; simp; omega
      · simp [h1, h2]
  rw [hc]
  refine acond_i (fun h => ?_) (fun h => ?_)
  · simp only [go_sem]
    exact cI (by rw [if_pos h])
  · simp only [go_sem]
    exact cI (by rw [if_neg (by rw [h]; simp)])
theorem coef_c (k m : Int) (a b : Nat) (ha : a < 2 ^ 63) (hb : b < 2 ^ 63) : PC Tryz.prog 30 [.agg [int k, int a, int m], int b] (int (coefP k (a &&& b))) := by
  have hs := size_c (a &&& b)
  have hle := popK_le 63 (a &&& b)
  refine PC.body (c := Tryz.f30.body.getD .skip) (fun _ => false) mixed Tryz.func30 rfl (by kernel_rfl) ?_
  unfold Tryz.f30
  simp only [Option.getD_some]
  simp only [go_sem]
  refine anew_i fun jm hjm => ?_
  generalize hG : updH noRows jm _ = HM
  have Rm : HM jm = some (mapRow []) := by rw [← hG, updH_same]; rfl
  clear hG hjm
  simp only [go_sem]
  refine wmapU_i Rm ma141 (plain_int _) (mfind_int0 _ _) ?_
  rw [mput_int]
  generalize hG : updH HM jm _ = HN
  have Rn : HN jm = some (mapRow [(1, 2)]) := by rw [← hG, updH_same]; rfl
  clear hG Rm
  simp only [go_sem]
  refine wmapU_i Rn ma141 (plain_int _) (mfind_int0 _ _) ?_
  rw [mput_int]
  generalize hG : updH HN jm _ = HO
  have Ro : HO jm = some (mapRow [(1, 2), (2, 1)]) := by rw [← hG, updH_same]; rfl
  clear hG Rn
  simp only [go_sem]
  refine alookup_i Ro ma141 (plain_int _) (mfind_int0 _ _) zv3 ?_
  rw [mget_int]
  have hk : getM [(1, 2), (2, 1)] k = (needN k : Nat) := by
    unfold getM needN
    by_cases h1 : k = 1
    · subst h1; rfl
    · by_cases h2 : k = 2
      · subst h2; rfl
      · have e1 : ((1 : Int) == k) = false := by simpa using fun e => h1 e.symm
        have e2 : ((2 : Int) == k) = false := by simpa using fun e => h2 e.symm
        simp [List.find?, e1, e2, h1, h2]
  rw [hk]
  simp only [go_sem]
  rw [and_nat ha hb]
  refine ⟨_, fun _ => hs.q rfl, ?_⟩
  unfold coefP
  generalize popK 63 (a &&& b) = P at *
  simp only [go_sem]
  have hc : (decide (((needN k : Nat) : Int) > 0) && decide ((P : Int) ≥ ((needN k : Nat) : Int))) = coefB k P := by
    unfold coefB
    rw [Bool.eq_iff_iff]; simp
  rw [hc]
  refine acond_i (fun h => ?_) (fun h => ?_)
  · simp only [go_sem]
    exact cI (by rw [if_pos h])
  · simp only [go_sem]
    exact cI (by rw [if_neg (by rw [h]; simp)])
end Go.Proofs.YtbcfajfngdmgnaaGreatDoor.Nu
end

section
set_option linter.unusedSimpArgs false
set_option linter.unusedVariables false
namespace Go.Proofs.YtbcfajfngdmgnaaGreatDoor.Nu
open Go.Aw Go.Aw.D Go.Proofs Ty Go.Nu
set_option maxRecDepth 100000
/-- by how much a cut is broken -/
def coefsP (one : Cut) (cols : List Column) : List Int := cols.map fun c => coefP one.kind (one.set.toNat &&& c.set.toNat)
def overP (one : Cut) (s : ByteArray) : ByteArray × Int := if one.kind = 1 then subR s (zed 1) else if one.kind = 2 then subR (zed one.n) s else (dec 0, 0)
def brokenP (one : Cut) (cols : List Column) (rates : List ByteArray) : ByteArray × Int :=
  if rates.length < cols.length then (emp, 2) else
  if (timesR (coefsP one cols) (rates.take cols.length)).2 ≠ 0 then (emp, (timesR (coefsP one cols) (rates.take cols.length)).2) else
  if (overP one (timesR (coefsP one cols) (rates.take cols.length)).1).2 ≠ 0 then (emp, (overP one (timesR (coefsP one cols) (rates.take cols.length)).1).2) else
  if signR (overP one (timesR (coefsP one cols) (rates.take cols.length)).1).1 ≤ 0 then (dec 0, 0) else ((overP one (timesR (coefsP one cols) (rates.take cols.length)).1).1, 0)
theorem timesF_right : ∀ (l : List (Int × ByteArray)) (t : ByteArray), rightR t = true → (timesF l t).2 = 0 → rightR (timesF l t).1 = true
  | [], t, h, _ => h
  | p :: l, t, h, h0 => by
    unfold timesF at h0 ⊢
    split at h0
    · next h1 => exact absurd h0 h1
    · next h1 =>
      rw [if_neg h1]
      split at h0
      · next h2 => exact absurd h0 h2
      · next h2 =>
        rw [if_neg h2]
        exact timesF_right l _ (addR_small (by simpa using h2)) h0
theorem times_right {ns : List Int} {xs : List ByteArray} (h : (timesR ns xs).2 = 0) : rightR (timesR ns xs).1 = true := by
  unfold timesR at h ⊢
  split at h
  · cases h
  · next h1 =>
    rw [if_neg h1]
    split at h
    · cases h
    · next h2 => rw [if_neg h2]; exact timesF_right _ _ zero_right h
theorem subR_small {a b : ByteArray} (h : (subR a b).2 = 0) : rightR (subR a b).1 = true := by
  unfold subR at h ⊢
  split at h
  · rename_i hr
    rw [if_pos hr]
    obtain ⟨e, hs⟩ := sumR_small h
    rw [e]; exact rightR_ratS hs
  · cases h
theorem over_right {one : Cut} {s : ByteArray} (hs : rightR s = true) (h : (overP one s).2 = 0) : rightR (overP one s).1 = true := by
  unfold overP at h ⊢
  split at h
  · next h1 => rw [if_pos h1]; exact subR_small h
  · next h1 =>
    rw [if_neg h1]
    split at h
    · next h2 => rw [if_pos h2]; exact subR_small h
    · next h2 => rw [if_neg h2]; exact zero_right
def okCut (one : Cut) : Prop := 0 ≤ one.set ∧ one.set ≤ 9223372036854775807 ∧ -9223372036854775808 ≤ one.n ∧ one.n ≤ 9223372036854775807
theorem broken_c (one : Cut) (cols : List Column) (rates : List ByteArray) (h1 : okCut one) (h2 : ∀ c ∈ cols, 0 ≤ c.set ∧ c.set ≤ 9223372036854775807) (hl : cols.length ≤ 1048576) (hr : rates.length ≤ 1048576) (hs : ∀ s ∈ rates, s.size ≤ 1048576) :
    PC Tryz.prog 15 [.agg (encCut one), .sl (cols.map encColumn), .sl (rates.map Go.Aw.D.encStr)] (.tup [str (brokenP one cols rates).1, int (brokenP one cols rates).2]) := by
  refine PC.body (c := Tryz.f15.body.getD .skip) (fun t => t == 8) mixed Tryz.func15 rfl (by kernel_rfl) ?_
  unfold Tryz.f15
  simp only [Option.getD_some]
  simp only [go_sem]
  refine acond_i (fun hb => ?_) (fun hb => ?_)
  · have hb := ltB hb
    simp only [go_sem]
    rw [show brokenP one cols rates = (emp, 2) from if_pos hb]
    exact .refl _
  have hb : ¬ rates.length < cols.length := by simpa using hb
  unfold brokenP
  rw [if_neg hb]
  simp only [go_sem]
  refine anew_i fun j hj => ?_
  simp only [go_sem, List.length_map]
  refine ⟨fun ρ H => ∃ (k j : Nat), k ≤ cols.length ∧ ρ 1 = .sl (cols.map encColumn) ∧ ρ 2 = .sl (rates.map Go.Aw.D.encStr) ∧ ρ 3 = .rp (encCut one) 0 ∧ ρ 19 = .sl (cols.map encColumn) ∧ ρ 20 = int cols.length ∧ ρ 21 = int k ∧ ρ 8 = .os j ∧ H j = some (intRow (coefsP one (cols.take k))), fun ρ _ => cols.length - natOf (ρ 21),
    ⟨0, j, Nat.zero_le _, by simp only [go_sem], by simp only [go_sem], by simp only [go_sem], by simp only [go_sem], by simp only [go_sem, List.length_map], by simp only [go_sem]; rfl, by simp only [go_sem], updH_same _ _ _⟩, ?_⟩
  clear hj j
  rintro ρ H ⟨k, j, hk, e1, e2, e3, e19, e20, e21, e8, Rj⟩
  simp only [go_sem, e1, e2, e3, e19, e20, e21, e8]
  refine acond_i (fun hlt => ?_) (fun hge => ?_)
  · have hlt := ltB hlt
    obtain ⟨c, hc⟩ := getIn hlt
    have b1 := inB hlt
    simp only [go_sem, e1, e2, e3, e19, e20, e21, e8, getD_map hc, b1]
    have hcs := h2 c (List.mem_of_getElem? hc)
    have hcf := coef_c one.kind one.n one.set.toNat c.set.toNat (by have := h1.2.1; omega) (by omega)
    rw [Int.toNat_of_nonneg h1.1, Int.toNat_of_nonneg hcs.1] at hcf
    refine anew_i fun i hi => ?_
    have nji : j ≠ i := ne_new Rj hi
    simp only [go_sem]
    refine wputE_n (updH_same _ _ _) (by simp [encColumn]) ?_
    generalize hG : updH (updH _ i _) i _ = HG
    have Ri : HG i = some (⟨63, 7, [encColumn c]⟩ : Row) := by rw [← hG, updH_same]; rfl
    have Rj' : HG j = some (intRow (coefsP one (cols.take k))) := by rw [← hG, updH_ne _ _ _ _ nji, updH_ne _ _ _ _ nji]; exact Rj
    clear hG hi Rj
    simp only [go_sem, e1, e2, e3, e19, e20, e21, e8, Ri]
    refine PC.use hcf ?_
    simp only [go_sem, e1, e2, e3, e19, e20, e21, e8]
    refine wappE_i Rj' ⟨rfl, rfl⟩ ⟨rfl, trivial⟩ (by simp only [intRow, coefsP, List.length_map, List.length_take, List.length_cons, List.length_nil]; omega) (fun j' hj' => ?_)
    simp only [go_sem, e1, e2, e3, e19, e20, e21, e8, wrapS (show k ≤ 4611686018427387904 by omega)]
    refine ⟨⟨k + 1, j', hlt, rfl, rfl, ?_⟩, by simp only [natOf_int]; omega⟩
    rw [updH_same]
    simp only [intRow, coefsP, take_succ hc, List.map_append, List.map_cons, List.map_nil]
    rfl
  · have hge := geB hk hge
    subst hge
    rw [List.take_length] at Rj
    have htm := rTimes_c (coefsP one cols) (rates.take cols.length) (fun n hn => by
      unfold coefsP at hn
      obtain ⟨c, _, rfl⟩ := List.mem_map.1 hn
      unfold coefP
      split <;> omega) (by rw [List.length_take]; omega) (fun s hs2 => hs s (List.mem_of_mem_take hs2))
    rw [List.map_take] at htm
    simp only [go_sem, e1, e2, e3, e8, List.length_map]
    refine ⟨⟨by omega, by omega⟩, ?_⟩
    refine PC.useF [j] (.cons _ _ _ _ (.row _ _ _ (by simp only [List.mem_singleton, if_true]; exact Rj) (ConvE.refl _)) (.cons _ _ _ _ (.refl _) .nil)) htm ?_
    have hTR := times_right (ns := coefsP one cols) (xs := rates.take cols.length)
    generalize timesR (coefsP one cols) (rates.take cols.length) = T at *
    simp only [go_sem, e3]
    refine acond_i (fun hc => ?_) (fun hc => ?_)
    · have hc : T.2 ≠ 0 := by simpa using hc
      simp only [go_sem]
      rw [if_pos hc]
      exact .refl _
    have hc : T.2 = 0 := by simpa using hc
    rw [if_neg (by simp [hc])]
    simp only [go_sem, e3]
    have hTr : rightR T.1 = true := hTR hc
    have hTs := right_size' hTr
    refine acond_joinL (fun ρ _ => ρ 12 = int (overP one T.1).2 ∧ ρ 13 = str (overP one T.1).1) ?_ fun Q' hQ _ _ => acond_i (fun h => ?_) (fun h => ?_)
    · rintro ρ H ⟨f12, f13⟩
      simp only [go_sem, f12, f13]
      refine acond_i (fun hd => ?_) (fun hd => ?_)
      · simp only [go_sem, f12]
        rw [if_pos (by simpa using hd)]
        exact .refl _
      have hd : (overP one T.1).2 = 0 := by simpa using hd
      rw [if_neg (by simp [hd])]
      have ho := right_size' (over_right hTr hd)
      simp only [go_sem, f13]
      refine PC.use (rsign_c _ (by omega)) ?_
      simp only [go_sem, f13]
      refine acond_i (fun hs => ?_) (fun hs => ?_)
      · rw [if_pos (by simpa using hs)]
        simp only [go_sem]
        rw [← zero_lit]
        exact .refl _
      · rw [if_neg (by simpa using hs)]
        simp only [go_sem, f13]
        exact .refl _
    · have h : one.kind = 1 := by simpa using h
      have e : overP one T.1 = subR T.1 (zed 1) := if_pos h
      rw [e] at hQ
      simp only [go_sem]
      refine PC.use (rof_c 1 (by decide) (by decide)) ?_
      simp only [go_sem]
      refine PC.use (rSub_c T.1 (zed 1) (by omega) (by have := Go.Nu.zed_size (lt_max (n := (1 : Int).natAbs) (k := 20) (by decide) (by decide)); omega)) ?_
      simp only [go_sem]
      exact hQ _ _ ⟨rfl, rfl⟩
    · have h : one.kind ≠ 1 := by simpa using h
      simp only [go_sem]
      refine acond_i (fun h2 => ?_) (fun h2 => ?_)
      · have h2 : one.kind = 2 := by simpa using h2
        have e : overP one T.1 = subR (zed one.n) T.1 := (if_neg h).trans (if_pos h2)
        rw [e] at hQ
        have hzs := Go.Nu.zed_size (lt_max (n := one.n.natAbs) (k := 20) (by have := h1.2.2; omega) (by decide))
        simp only [go_sem, e3]
        refine PC.use (rof_c one.n h1.2.2.1 h1.2.2.2) ?_
        simp only [go_sem]
        refine PC.use (rSub_c (zed one.n) T.1 (by omega) (by omega)) ?_
        simp only [go_sem]
        exact hQ _ _ ⟨rfl, rfl⟩
      · have h2 : one.kind ≠ 2 := by simpa using h2
        have e : overP one T.1 = (dec 0, 0) := (if_neg h).trans (if_neg h2)
        rw [e] at hQ
        simp only [go_sem]
        exact hQ _ _ ⟨hc ▸ rfl, zero_lit ▸ rfl⟩
end Go.Proofs.YtbcfajfngdmgnaaGreatDoor.Nu
end
