/- Texts joined by a program: NuG, NuD, NuF. -/
import Derived.Test.YtbcfajfngdmgnaaGreatDoorZg01

section
set_option linter.unusedSimpArgs false
set_option linter.unusedVariables false
namespace Go.Nu
open Go Go.Lib
theorem low_num {n : Int} {d : Nat} (hd : d ≠ 0) : n.fdiv (Nat.gcd n.natAbs d : Nat) = (mkRat n d).num := by
  rw [Rat.num_mkRat, if_neg hd, Nat.gcd_comm]
  exact Int.fdiv_eq_ediv_of_nonneg _ (by omega)
theorem low_den {n : Int} {d : Nat} (hd : d ≠ 0) : (d : Int).fdiv (Nat.gcd n.natAbs d : Nat) = ((mkRat n d).den : Int) := by
  rw [Rat.den_mkRat, if_neg hd, Nat.gcd_comm, Int.fdiv_eq_ediv_of_nonneg _ (by omega)]
  rfl
theorem small_mk {n : Int} {d : Nat} (hd : d ≠ 0) (hn : n.natAbs < maxN) (hd2 : d < maxN) : SmallR (mkRat n d) := by
  constructor
  · rw [Rat.num_mkRat, if_neg hd]
    have : (n / ((d.gcd n.natAbs : Nat) : Int)).natAbs ≤ n.natAbs := by
      rw [Int.natAbs_ediv_of_dvd]
      · exact Nat.div_le_self _ _
      · exact Int.ofNat_dvd_left.2 (Nat.gcd_dvd_right _ _)
    omega
  · rw [Rat.den_mkRat, if_neg hd]
    exact Nat.lt_of_le_of_lt (Nat.div_le_self _ _) hd2
theorem gcd_pos {n : Int} {d : Nat} (hd : d ≠ 0) : 0 < Nat.gcd n.natAbs d := Nat.gcd_pos_of_pos_right _ (by omega)
theorem gcd_small {n : Int} {d : Nat} (hd : d ≠ 0) (h : d < maxN) : Nat.gcd n.natAbs d < maxN := Nat.lt_of_le_of_lt (Nat.gcd_le_right _ (by omega)) h
theorem bigI_iff {n : Int} : bigI n = false ↔ n.natAbs < maxN := by simp [bigI]
theorem add_mk (x y : Rat) : x + y = mkRat (x.num * y.den + y.num * x.den) (x.den * y.den) := Rat.add_def' x y
theorem mul_mk (x y : Rat) : x * y = mkRat (x.num * y.num) (x.den * y.den) := Rat.mul_def' x y
theorem den_abs (x y : Rat) : ((x.den : Int) * y.den).natAbs = x.den * y.den := by rw [Int.natAbs_mul, Int.natAbs_natCast, Int.natAbs_natCast]
theorem den_ne (x y : Rat) : x.den * y.den ≠ 0 := Nat.mul_ne_zero x.den_nz y.den_nz
theorem sumR_small {x y : Rat} (h : (sumR x y).2 = 0) : sumR x y = (ratS (x + y), 0) ∧ SmallR (x + y) := by
  unfold sumR at h ⊢
  split at h
  · cases h
  · rename_i hb
    rw [if_neg hb]
    simp only [Bool.or_eq_true, not_or, Bool.not_eq_true, bigI_iff] at hb
    exact ⟨rfl, by rw [add_mk]; exact small_mk (den_ne x y) hb.1.2 (by rw [← den_abs]; exact hb.2)⟩
theorem prodR_small {x y : Rat} (h : (prodR x y).2 = 0) : prodR x y = (ratS (x * y), 0) ∧ SmallR (x * y) := by
  unfold prodR at h ⊢
  split at h
  · cases h
  · rename_i hb
    rw [if_neg hb]
    simp only [Bool.or_eq_true, not_or, Bool.not_eq_true, bigI_iff] at hb
    exact ⟨rfl, by rw [mul_mk]; exact small_mk (den_ne x y) hb.1 (by rw [← den_abs]; exact hb.2)⟩
def cmpX (p q r s : Int) : Int := cmpI (p * s) (r * q)
theorem fdiv_pos {p q : Int} (hq : 0 < q) : p = p.fdiv q * q + p.fmod q ∧ 0 ≤ p.fmod q ∧ p.fmod q < q :=
  ⟨by rw [Int.mul_comm]; exact (Int.mul_fdiv_add_fmod p q).symm, Int.fmod_nonneg_of_pos _ hq, Int.fmod_lt_of_pos _ hq⟩
theorem cmpI_lt {a b : Int} (h : a < b) : cmpI a b = -1 := if_pos h
theorem cmpI_gt {a b : Int} (h : b < a) : cmpI a b = 1 := by unfold cmpI; rw [if_neg (by omega), if_pos h]
theorem cmpI_eq {a b : Int} (h : a = b) : cmpI a b = 0 := by unfold cmpI; rw [if_neg (by omega), if_neg (by omega)]
theorem cmpI_zero {a b : Int} : cmpI a b = 0 ↔ a = b := by
  unfold cmpI
  constructor
  · intro h
    split at h
    · cases h
    · split at h
      · cases h
      · omega
  · intro h; rw [if_neg (by omega), if_neg (by omega)]
theorem cmpI_swap (a b : Int) : cmpI b a = -cmpI a b := by
  rcases Int.lt_trichotomy a b with h | h | h
  · rw [cmpI_lt h, cmpI_gt h]; rfl
  · rw [cmpI_eq h, cmpI_eq h.symm]; rfl
  · rw [cmpI_gt h, cmpI_lt h]
theorem floor_lt {p q r s : Int} (hq : 0 < q) (hs : 0 < s) (h : p.fdiv q < r.fdiv s) : p * s < r * q := by
  obtain ⟨e1, a1, b1⟩ := fdiv_pos (p := p) hq
  obtain ⟨e2, a2, b2⟩ := fdiv_pos (p := r) hs
  have h1 : p * s < (p.fdiv q + 1) * q * s := by
    refine Int.mul_lt_mul_of_pos_right ?_ hs
    rw [Int.add_mul]
    omega
  have h2 : (p.fdiv q + 1) * q * s ≤ r.fdiv s * q * s := Int.mul_le_mul_of_nonneg_right (Int.mul_le_mul_of_nonneg_right (by omega) (by omega)) (by omega)
  have h3 : r.fdiv s * q * s ≤ r * q := by
    rw [Int.mul_right_comm]
    exact Int.mul_le_mul_of_nonneg_right (by omega) (by omega)
  omega
theorem cmpX_floor {p q r s : Int} (hq : 0 < q) (hs : 0 < s) (h : p.fdiv q ≠ r.fdiv s) : cmpX p q r s = cmpI (p.fdiv q) (r.fdiv s) := by
  unfold cmpX
  rcases Int.lt_or_gt_of_ne h with h | h
  · rw [cmpI_lt h, cmpI_lt (floor_lt hq hs h)]
  · rw [cmpI_gt h, cmpI_gt (floor_lt hs hq h)]
theorem cmpX_rest {p q r s : Int} (hq : 0 < q) (hs : 0 < s) (h : p.fdiv q = r.fdiv s) : cmpX p q r s = cmpI (p.fmod q * s) (r.fmod s * q) := by
  obtain ⟨e1, _, _⟩ := fdiv_pos (p := p) hq
  obtain ⟨e2, _, _⟩ := fdiv_pos (p := r) hs
  unfold cmpX
  have h1 : p * s = p.fdiv q * q * s + p.fmod q * s := by
    conv => lhs; rw [e1]
    rw [Int.add_mul]
  have h2 : r * q = p.fdiv q * q * s + r.fmod s * q := by
    conv => lhs; rw [e2]
    rw [Int.add_mul, ← h, Int.mul_right_comm]
  rw [h1, h2]
  unfold cmpI
  have c1 : (p.fdiv q * q * s + p.fmod q * s < p.fdiv q * q * s + r.fmod s * q) ↔ p.fmod q * s < r.fmod s * q := by omega
  have c2 : (p.fdiv q * q * s + r.fmod s * q < p.fdiv q * q * s + p.fmod q * s) ↔ r.fmod s * q < p.fmod q * s := by omega
  simp only [c1, c2]
theorem cmpX_flip (x q y s : Int) : cmpI (x * s) (y * q) = -cmpX q x s y := by
  unfold cmpX
  rw [Int.mul_comm q y, Int.mul_comm s x]
  exact cmpI_swap _ _
theorem cmpQ_X (x y : Rat) : cmpQ x y = cmpX x.num x.den y.num y.den := by
  unfold cmpQ cmpX cmpI
  simp only [Rat.lt_iff]
theorem sign_cmp (n : Int) : n.sign = cmpI n 0 := by
  rcases Int.lt_trichotomy n 0 with h | h | h
  · rw [cmpI_lt h, Int.sign_eq_neg_one_of_neg h]
  · subst h; rfl
  · rw [cmpI_gt h, Int.sign_eq_one_of_pos h]
theorem cmpQ_zero (x : Rat) : cmpQ x 0 = x.num.sign := by
  rw [cmpQ_X, sign_cmp]
  unfold cmpX
  simp
end Go.Nu
end

section
set_option linter.unusedSimpArgs false
set_option linter.unusedVariables false
namespace Go.Nu
open Go Go.Lib
theorem take_getD (b : Nat) (l : List Nat) (k : Nat) : ofL b (l.take (k + 1)) = ofL b (l.take k) + b ^ k * l.getD k 0 := by
  cases h : l[k]? with
  | none =>
    have hk := List.getElem?_eq_none_iff.1 h
    rw [List.take_of_length_le (by omega), List.take_of_length_le (by omega)]
    simp [List.getD, h]
  | some x => rw [ofL_take_succ b h]; simp [List.getD, h]
theorem Lim.getD {b : Nat} (hb : 0 < b) {l : List Nat} (h : Lim b l) (k : Nat) : l.getD k 0 < b := by
  cases h' : l[k]? with
  | none => simpa [List.getD, h'] using hb
  | some x => simpa [List.getD, h'] using h x (List.mem_of_getElem? h')
theorem Lim.snoc {b : Nat} {l : List Nat} (h : Lim b l) {x : Nat} (hx : x < b) : Lim b (l ++ [x]) := fun y hy => by
  rcases List.mem_append.1 hy with hy | hy
  · exact h y hy
  · rw [List.mem_singleton.1 hy]; exact hx
theorem Lim.set {b : Nat} {l : List Nat} (h : Lim b l) {x k : Nat} (hx : x < b) : Lim b (l.set k x) := fun y hy => by
  rcases List.mem_or_eq_of_mem_set hy with hy | rfl
  · exact h y hy
  · exact hx
theorem Lim.take {b : Nat} {l : List Nat} (h : Lim b l) (k : Nat) : Lim b (l.take k) := fun y hy => h y (List.mem_of_mem_take hy)
theorem Lim.drop {b : Nat} {l : List Nat} (h : Lim b l) (k : Nat) : Lim b (l.drop k) := fun y hy => h y (List.mem_of_mem_drop hy)
theorem Lim.zeros {b : Nat} (hb : 0 < b) (n : Nat) : Lim b (List.replicate n 0) := fun y hy => by
  rw [(List.mem_replicate.1 hy).2]; exact hb
theorem ofL_drop (b : Nat) {l : List Nat} {k x : Nat} (h : l[k]? = some x) : ofL b (l.drop k) = x + b * ofL b (l.drop (k + 1)) := by
  obtain ⟨hk, hx⟩ := List.getElem?_eq_some_iff.1 h
  rw [List.drop_eq_getElem_cons hk, hx, ofL]
theorem times_step {b : Nat} (hb : 0 < b) {l o : List Nat} {i n k c : Nat} (hn : l[i]? = some n) (hl : o.length = i) (h : ofL b o + b ^ i * c = ofL b (l.take i) * k) :
    ofL b (o ++ [(n * k + c) % b]) + b ^ (i + 1) * ((n * k + c) / b) = ofL b (l.take (i + 1)) * k := by
  rw [ofL_snoc, ofL_take_succ b hn, hl, Nat.pow_succ]
  have e := Nat.mod_add_div (n * k + c) b
  have e2 : b ^ i * ((n * k + c) % b + b * ((n * k + c) / b)) = b ^ i * (n * k + c) := by rw [e]
  grind
theorem add_step {b : Nat} (hb : 0 < b) {x y o : List Nat} {i c : Nat} (hl : o.length = i) (h : ofL b o + b ^ i * c = ofL b (x.take i) + ofL b (y.take i)) :
    ofL b (o ++ [(x.getD i 0 + y.getD i 0 + c) % b]) + b ^ (i + 1) * ((x.getD i 0 + y.getD i 0 + c) / b) = ofL b (x.take (i + 1)) + ofL b (y.take (i + 1)) := by
  rw [ofL_snoc, take_getD, take_getD, hl, Nat.pow_succ]
  have e := Nat.mod_add_div (x.getD i 0 + y.getD i 0 + c) b
  have e2 : b ^ i * ((x.getD i 0 + y.getD i 0 + c) % b + b * ((x.getD i 0 + y.getD i 0 + c) / b)) = b ^ i * (x.getD i 0 + y.getD i 0 + c) := by rw [e]
  grind
theorem minus_step {b : Nat} {x y o : List Nat} {i c c' d : Nat} (hl : o.length = i) (h : ofL b o + ofL b (y.take i) = ofL b (x.take i) + b ^ i * c) (hd : d + y.getD i 0 + c = x.getD i 0 + b * c') :
    ofL b (o ++ [d]) + ofL b (y.take (i + 1)) = ofL b (x.take (i + 1)) + b ^ (i + 1) * c' := by
  rw [ofL_snoc, take_getD, take_getD, hl, Nat.pow_succ]
  have e2 : b ^ i * (d + y.getD i 0 + c) = b ^ i * (x.getD i 0 + b * c') := by rw [hd]
  grind
theorem minus_digit {b x y c : Nat} (hx : x < b) (hy : y < b) (hc : c ≤ 1) : (if (x : Int) - y - c < 0 then (x : Int) - y - c + b else (x : Int) - y - c) = ((if x < y + c then x + b - (y + c) else x - (y + c) : Nat) : Int) := by
  split <;> split <;> omega
theorem minus_digit2 {b x y c : Nat} (hx : x < b) (hy : y < b) (hc : c ≤ 1) : (if x < y + c then x + b - (y + c) else x - (y + c)) + y + c = x + b * (if x < y + c then 1 else 0) ∧ (if x < y + c then x + b - (y + c) else x - (y + c)) < b := by
  split <;> constructor <;> omega
theorem minus_end {b : Nat} (hb : 2 ≤ b) {x y o : List Nat} {c : Nat} (ho : Lim b o) (hx : Lim b x) (hl : o.length = x.length) (hyl : y.length ≤ x.length) (hle : ofL b y ≤ ofL b x) (hc : c ≤ 1) (h : ofL b o + ofL b (y.take x.length) = ofL b (x.take x.length) + b ^ x.length * c) :
    c = 0 ∧ ofL b o = ofL b x - ofL b y := by
  rw [List.take_of_length_le hyl, List.take_length] at h
  have h1 := ofL_lt (by omega) ho
  rw [hl] at h1
  rcases Nat.eq_zero_or_pos c with hc0 | hc0
  · subst hc0; rw [Nat.mul_zero] at h; omega
  · have : c = 1 := by omega
    subst this
    rw [Nat.mul_one] at h
    omega
theorem mul_step {b : Nat} (hb : 0 < b) {y out out0 : List Nat} {i k x c v yk : Nat} (hv : out[i + k]? = some v) (hy : y[k]? = some yk) (h : ofL b out + b ^ (i + k) * c = ofL b out0 + b ^ i * (x * ofL b (y.take k))) :
    ofL b (out.set (i + k) ((v + x * yk + c) % b)) + b ^ (i + (k + 1)) * ((v + x * yk + c) / b) = ofL b out0 + b ^ i * (x * ofL b (y.take (k + 1))) := by
  have h1 := ofL_set b out (i + k) v ((v + x * yk + c) % b) hv
  have e := Nat.mod_add_div (v + x * yk + c) b
  have e2 : b ^ (i + k) * ((v + x * yk + c) % b + b * ((v + x * yk + c) / b)) = b ^ (i + k) * (v + x * yk + c) := by rw [e]
  rw [ofL_take_succ b hy, show i + (k + 1) = (i + k) + 1 by omega, Nat.pow_succ]
  have e3 : b ^ (i + k) = b ^ i * b ^ k := Nat.pow_add b i k
  grind
theorem mul_row {b : Nat} {y out out0 : List Nat} {i x c : Nat} (hv : out[i + y.length]? = some 0) (h : ofL b out + b ^ (i + y.length) * c = ofL b out0 + b ^ i * (x * ofL b (y.take y.length))) :
    ofL b (out.set (i + y.length) c) = ofL b out0 + b ^ i * (x * ofL b y) := by
  have h1 := ofL_set b out (i + y.length) 0 c hv
  rw [List.take_length] at h
  rw [← h]
  omega
theorem div_step {b r a : Nat} (hb : 2 ≤ b) {l : List Nat} {i x : Nat} {qs : List Nat} (hx : l[i]? = some x) (hxb : x < b) (hr : r < a) (hq : i < qs.length) (h : ofL b (l.drop (i + 1)) = ofL b (qs.drop (i + 1)) * a + r) :
    ofL b (l.drop i) = ofL b ((qs.set i ((x + b * r) / a)).drop i) * a + (x + b * r) % a ∧ (x + b * r) / a < b ∧ (x + b * r) % a < a := by
  have ha : 0 < a := by omega
  have hs : (qs.set i ((x + b * r) / a))[i]? = some ((x + b * r) / a) := by simp [hq]
  refine ⟨?_, ?_, Nat.mod_lt _ ha⟩
  · rw [ofL_drop b hx, ofL_drop b hs, h, List.drop_set_of_lt (by omega)]
    have e := Nat.mod_add_div (x + b * r) a
    grind
  · rw [Nat.div_lt_iff_lt_mul ha]
    have : b * (r + 1) ≤ b * a := Nat.mul_le_mul_left _ hr
    rw [Nat.mul_add] at this
    omega
theorem div_end {q r a n : Nat} (hr : r < a) (h : n = q * a + r) : q = n / a ∧ r = n % a := by
  subst h
  have ha : 0 < a := by omega
  constructor
  · rw [Nat.add_comm, Nat.add_mul_div_right _ _ ha, Nat.div_eq_of_lt hr, Nat.zero_add]
  · rw [Nat.add_comm, Nat.add_mul_mod_self_right, Nat.mod_eq_of_lt hr]
end Go.Nu
end

section
set_option linter.unusedSimpArgs false
set_option linter.unusedVariables false
namespace Go.Nu
open Go Go.Lib
theorem valL_acc (l : List UInt8) : ∀ a : Nat, l.foldl (fun a c => 10 * a + (c.toNat - 48)) a = a * 10 ^ l.length + valL l := by
  induction l with
  | nil => intro a; simp [valL]
  | cons c l ih =>
    intro a
    have h1 := ih (10 * a + (c.toNat - 48))
    have h2 := ih (10 * 0 + (c.toNat - 48))
    simp only [List.foldl_cons, valL] at h1 h2 ⊢
    rw [h1, h2, List.length_cons, Nat.pow_succ]
    grind
theorem valL_append (a b : List UInt8) : valL (a ++ b) = valL a * 10 ^ b.length + valL b := by
  rw [valL, List.foldl_append]
  exact valL_acc b _
theorem valL_lt {l : List UInt8} (h : l.all isD = true) : valL l < 10 ^ l.length := by
  induction l using snocInd with
  | h0 => simp [valL]
  | h1 l c ih =>
    rw [List.all_append] at h
    simp only [Bool.and_eq_true, List.all_cons, List.all_nil, Bool.and_true] at h
    have := ih h.1
    have hc := isD_iff.1 h.2
    rw [valL_snoc, List.length_append, List.length_cons, List.length_nil, Nat.pow_succ]
    omega
def padk : Nat → Nat → List UInt8
  | 0, _ => []
  | k + 1, x => padk k (x / 10) ++ [UInt8.ofNat (48 + x % 10)]
theorem dec_split : ∀ (k x m : Nat), x < 10 ^ k → m ≠ 0 → decDigits (x + 10 ^ k * m) = decDigits m ++ padk k x
  | 0, x, m, hx, hm => by
    have : x = 0 := by simpa using hx
    subst this
    simp [padk]
  | k + 1, x, m, hx, hm => by
    rw [Nat.pow_succ] at hx
    have h1 : 10 ^ (k + 1) * m = 10 * (10 ^ k * m) := by rw [Nat.pow_succ, Nat.mul_comm (10 ^ k) 10, Nat.mul_assoc]
    have hp : 0 < 10 ^ k * m := Nat.mul_pos (Nat.pow_pos (by omega)) (by omega)
    rw [h1, decDigits, dif_neg (by omega), show (x + 10 * (10 ^ k * m)) / 10 = x / 10 + 10 ^ k * m by omega, show (x + 10 * (10 ^ k * m)) % 10 = x % 10 by omega, dec_split k (x / 10) m (by omega) hm, padk, List.append_assoc]
theorem padk_zero (k : Nat) : padk k 0 = List.replicate k 48 := by
  induction k with
  | zero => rfl
  | succ k ih =>
    rw [padk, Nat.zero_div, ih, List.replicate_succ']
    rfl
theorem padk_eq : ∀ (k x : Nat), 1 ≤ k → x < 10 ^ k → padk k x = List.replicate (k - (decDigits x).length) 48 ++ decDigits x
  | 0, x, hk, hx => by omega
  | k + 1, x, hk, hx => by
    rw [padk]
    by_cases h9 : x < 10
    · rw [show x / 10 = 0 by omega, padk_zero, decDigits_one h9]
      simp [Nat.mod_eq_of_lt h9]
    · have hk1 : 1 ≤ k := by
        rcases Nat.eq_zero_or_pos k with h | h
        · subst h; simp at hx; omega
        · exact h
      rw [Nat.pow_succ] at hx
      rw [padk_eq k (x / 10) hk1 (by omega)]
      conv => rhs; rw [decDigits, dif_neg h9]
      rw [List.length_append, List.length_cons, List.length_nil, List.append_assoc, show k + 1 - ((decDigits (x / 10)).length + (0 + 1)) = k - (decDigits (x / 10)).length by omega]
def padB (x : Nat) : List UInt8 := List.replicate (9 - (decDigits x).length) 48 ++ decDigits x
theorem dec_limb {x m : Nat} (hx : x < 1000000000) (hm : m ≠ 0) : decDigits (x + 1000000000 * m) = decDigits m ++ padB x := by
  have := dec_split 9 x m hx hm
  rw [padk_eq 9 x (by omega) hx] at this
  exact this
theorem drop_pos {b : Nat} (hb : 2 ≤ b) {n k : Nat} (hk : k < (limbs b n).length) : ofL b ((limbs b n).drop k) ≠ 0 := by
  intro h
  have hn : n ≠ 0 := fun e => by subst e; rw [limbs_zero] at hk; simp at hk
  have h1 := limbs_last hb hn
  have h2 : ofL b (limbs b n) = ofL b ((limbs b n).take k) + b ^ k * ofL b ((limbs b n).drop k) := by
    have := ofL_append b ((limbs b n).take k) ((limbs b n).drop k)
    rw [List.take_append_drop, List.length_take, Nat.min_eq_left (by omega)] at this
    exact this
  rw [ofL_limbs hb, h, Nat.mul_zero, Nat.add_zero] at h2
  have h3 := ofL_lt (b := b) (by omega) ((limbs_lim hb n).take k)
  rw [List.length_take, Nat.min_eq_left (by omega), ← h2] at h3
  have : b ^ k ≤ b ^ ((limbs b n).length - 1) := Nat.pow_le_pow_right (by omega) (by omega)
  omega
def dl (l : List UInt8) : List Nat := (l.map fun c => c.toNat - 48).reverse
theorem dl_len (l : List UInt8) : (dl l).length = l.length := by simp [dl]
theorem ofL_dl (l : List UInt8) : ofL 10 (dl l) = valL l := by
  induction l using snocInd with
  | h0 => rfl
  | h1 l c ih =>
    rw [valL_snoc, ← ih]
    simp only [dl, List.map_append, List.map_cons, List.map_nil, List.reverse_append, List.reverse_cons, List.reverse_nil, List.nil_append, List.singleton_append, ofL]
    omega
theorem dl_lim {l : List UInt8} (h : l.all isD = true) : Lim 10 (dl l) := by
  intro x hx
  simp only [dl, List.mem_reverse, List.mem_map] at hx
  obtain ⟨c, hc, rfl⟩ := hx
  have := isD_iff.1 (List.all_eq_true.1 h c hc)
  omega
def txt (l : List Nat) : List UInt8 := (l.map fun x => UInt8.ofNat (48 + x)).reverse
theorem txt_isD {l : List Nat} (h : Lim 10 l) : (txt l).all isD = true := by
  rw [List.all_eq_true]
  intro c hc
  simp only [txt, List.mem_reverse, List.mem_map] at hc
  obtain ⟨x, hx, rfl⟩ := hc
  have := h x hx
  rw [isD_iff, digit_nat this]
  omega
theorem dl_txt {l : List Nat} (h : Lim 10 l) : dl (txt l) = l := by
  simp only [dl, txt, List.map_reverse, List.reverse_reverse, List.map_map]
  conv => rhs; rw [← List.map_id l]
  refine List.map_congr_left fun x hx => ?_
  simp only [Function.comp, digit_nat (h x hx), id]
  omega
theorem valL_txt {l : List Nat} (h : Lim 10 l) : valL (txt l) = ofL 10 l := by rw [← ofL_dl, dl_txt h]
theorem txt_limbs {n : Nat} (hn : n ≠ 0) : txt (limbs 10 n) = decDigits n := by
  induction n using Nat.strongRecOn with
  | _ n ih =>
    rw [limbs_pos (by omega) hn, decDigits]
    simp only [txt, List.map_cons, List.reverse_cons]
    split
    · rename_i h
      rw [show n / 10 = 0 by omega, limbs_zero, Nat.mod_eq_of_lt h]
      rfl
    · rename_i h
      rw [← ih (n / 10) (by omega) (by omega)]
      rfl
end Go.Nu
end
