/- Texts joined by a program: NuD, NuF, NuE. -/
import Derived.Laws.Strings
import Derived.Test.YtdlijlecpopadaaGreatDoorZx13
import Derived.Test.YtdlijlecpopadaaGreatDoorZx14

section
set_option linter.unusedSimpArgs false
set_option linter.unusedVariables false
namespace Go.Nu
open Go Go.Lib
theorem take_getD (b : Nat) (l : List Nat) (k : Nat) : ofL b (l.take (k + 1)) = ofL b (l.take k) + b ^ k * l.getD k 0 := by
  cases h : l[k]? with
  | none =>
    have hk := List.getElem?_eq_none_iff.1 h
    rw [List.take_of_length_le (by omega), List.take_of_length_le (by omega)]
    simp [List.getD, h]
  | some x => rw [ofL_take_succ b h]; simp [List.getD, h]
theorem Lim.getD {b : Nat} (hb : 0 < b) {l : List Nat} (h : Lim b l) (k : Nat) : l.getD k 0 < b := by
  cases h' : l[k]? with
  | none => simpa [List.getD, h'] using hb
  | some x => simpa [List.getD, h'] using h x (List.mem_of_getElem? h')
theorem Lim.snoc {b : Nat} {l : List Nat} (h : Lim b l) {x : Nat} (hx : x < b) : Lim b (l ++ [x]) := fun y hy => by
  rcases List.mem_append.1 hy with hy | hy
  · exact h y hy
  · rw [List.mem_singleton.1 hy]; exact hx
theorem Lim.set {b : Nat} {l : List Nat} (h : Lim b l) {x k : Nat} (hx : x < b) : Lim b (l.set k x) := fun y hy => by
  rcases List.mem_or_eq_of_mem_set hy with hy | rfl
  · exact h y hy
  · exact hx
theorem Lim.take {b : Nat} {l : List Nat} (h : Lim b l) (k : Nat) : Lim b (l.take k) := fun y hy => h y (List.mem_of_mem_take hy)
theorem Lim.drop {b : Nat} {l : List Nat} (h : Lim b l) (k : Nat) : Lim b (l.drop k) := fun y hy => h y (List.mem_of_mem_drop hy)
theorem Lim.zeros {b : Nat} (hb : 0 < b) (n : Nat) : Lim b (List.replicate n 0) := fun y hy => by
  rw [(List.mem_replicate.1 hy).2]; exact hb
theorem ofL_drop (b : Nat) {l : List Nat} {k x : Nat} (h : l[k]? = some x) : ofL b (l.drop k) = x + b * ofL b (l.drop (k + 1)) := by
  obtain ⟨hk, hx⟩ := List.getElem?_eq_some_iff.1 h
  rw [List.drop_eq_getElem_cons hk, hx, ofL]
theorem times_step {b : Nat} (hb : 0 < b) {l o : List Nat} {i n k c : Nat} (hn : l[i]? = some n) (hl : o.length = i) (h : ofL b o + b ^ i * c = ofL b (l.take i) * k) :
    ofL b (o ++ [(n * k + c) % b]) + b ^ (i + 1) * ((n * k + c) / b) = ofL b (l.take (i + 1)) * k := by
  rw [ofL_snoc, ofL_take_succ b hn, hl, Nat.pow_succ]
  have e := Nat.mod_add_div (n * k + c) b
  have e2 : b ^ i * ((n * k + c) % b + b * ((n * k + c) / b)) = b ^ i * (n * k + c) := by rw [e]
  grind
theorem add_step {b : Nat} (hb : 0 < b) {x y o : List Nat} {i c : Nat} (hl : o.length = i) (h : ofL b o + b ^ i * c = ofL b (x.take i) + ofL b (y.take i)) :
    ofL b (o ++ [(x.getD i 0 + y.getD i 0 + c) % b]) + b ^ (i + 1) * ((x.getD i 0 + y.getD i 0 + c) / b) = ofL b (x.take (i + 1)) + ofL b (y.take (i + 1)) := by
  rw [ofL_snoc, take_getD, take_getD, hl, Nat.pow_succ]
  have e := Nat.mod_add_div (x.getD i 0 + y.getD i 0 + c) b
  have e2 : b ^ i * ((x.getD i 0 + y.getD i 0 + c) % b + b * ((x.getD i 0 + y.getD i 0 + c) / b)) = b ^ i * (x.getD i 0 + y.getD i 0 + c) := by rw [e]
  grind
theorem minus_step {b : Nat} {x y o : List Nat} {i c c' d : Nat} (hl : o.length = i) (h : ofL b o + ofL b (y.take i) = ofL b (x.take i) + b ^ i * c) (hd : d + y.getD i 0 + c = x.getD i 0 + b * c') :
    ofL b (o ++ [d]) + ofL b (y.take (i + 1)) = ofL b (x.take (i + 1)) + b ^ (i + 1) * c' := by
  rw [ofL_snoc, take_getD, take_getD, hl, Nat.pow_succ]
  have e2 : b ^ i * (d + y.getD i 0 + c) = b ^ i * (x.getD i 0 + b * c') := by rw [hd]
  grind
theorem minus_digit {b x y c : Nat} (hx : x < b) (hy : y < b) (hc : c ≤ 1) : (if (x : Int) - y - c < 0 then (x : Int) - y - c + b else (x : Int) - y - c) = ((if x < y + c then x + b - (y + c) else x - (y + c) : Nat) : Int) := by
  split <;> split <;> omega
theorem minus_digit2 {b x y c : Nat} (hx : x < b) (hy : y < b) (hc : c ≤ 1) : (if x < y + c then x + b - (y + c) else x - (y + c)) + y + c = x + b * (if x < y + c then 1 else 0) ∧ (if x < y + c then x + b - (y + c) else x - (y + c)) < b := by
  split <;> constructor <;> omega
theorem minus_end {b : Nat} (hb : 2 ≤ b) {x y o : List Nat} {c : Nat} (ho : Lim b o) (hx : Lim b x) (hl : o.length = x.length) (hyl : y.length ≤ x.length) (hle : ofL b y ≤ ofL b x) (hc : c ≤ 1) (h : ofL b o + ofL b (y.take x.length) = ofL b (x.take x.length) + b ^ x.length * c) :
    c = 0 ∧ ofL b o = ofL b x - ofL b y := by
  rw [List.take_of_length_le hyl, List.take_length] at h
  have h1 := ofL_lt (by omega) ho
  rw [hl] at h1
  rcases Nat.eq_zero_or_pos c with hc0 | hc0
  · subst hc0; rw [Nat.mul_zero] at h; omega
  · have : c = 1 := by omega
    subst this
    rw [Nat.mul_one] at h
    omega
theorem mul_step {b : Nat} (hb : 0 < b) {y out out0 : List Nat} {i k x c v yk : Nat} (hv : out[i + k]? = some v) (hy : y[k]? = some yk) (h : ofL b out + b ^ (i + k) * c = ofL b out0 + b ^ i * (x * ofL b (y.take k))) :
    ofL b (out.set (i + k) ((v + x * yk + c) % b)) + b ^ (i + (k + 1)) * ((v + x * yk + c) / b) = ofL b out0 + b ^ i * (x * ofL b (y.take (k + 1))) := by
  have h1 := ofL_set b out (i + k) v ((v + x * yk + c) % b) hv
  have e := Nat.mod_add_div (v + x * yk + c) b
  have e2 : b ^ (i + k) * ((v + x * yk + c) % b + b * ((v + x * yk + c) / b)) = b ^ (i + k) * (v + x * yk + c) := by rw [e]
  rw [ofL_take_succ b hy, show i + (k + 1) = (i + k) + 1 by omega, Nat.pow_succ]
  have e3 : b ^ (i + k) = b ^ i * b ^ k := Nat.pow_add b i k
  grind
theorem mul_row {b : Nat} {y out out0 : List Nat} {i x c : Nat} (hv : out[i + y.length]? = some 0) (h : ofL b out + b ^ (i + y.length) * c = ofL b out0 + b ^ i * (x * ofL b (y.take y.length))) :
    ofL b (out.set (i + y.length) c) = ofL b out0 + b ^ i * (x * ofL b y) := by
  have h1 := ofL_set b out (i + y.length) 0 c hv
  rw [List.take_length] at h
  rw [← h]
  omega
theorem div_step {b r a : Nat} (hb : 2 ≤ b) {l : List Nat} {i x : Nat} {qs : List Nat} (hx : l[i]? = some x) (hxb : x < b) (hr : r < a) (hq : i < qs.length) (h : ofL b (l.drop (i + 1)) = ofL b (qs.drop (i + 1)) * a + r) :
    ofL b (l.drop i) = ofL b ((qs.set i ((x + b * r) / a)).drop i) * a + (x + b * r) % a ∧ (x + b * r) / a < b ∧ (x + b * r) % a < a := by
  have ha : 0 < a := by omega
  have hs : (qs.set i ((x + b * r) / a))[i]? = some ((x + b * r) / a) := by simp [hq]
  refine ⟨?_, ?_, Nat.mod_lt _ ha⟩
  · rw [ofL_drop b hx, ofL_drop b hs, h, List.drop_set_of_lt (by omega)]
    have e := Nat.mod_add_div (x + b * r) a
    grind
  · rw [Nat.div_lt_iff_lt_mul ha]
    have : b * (r + 1) ≤ b * a := Nat.mul_le_mul_left _ hr
    rw [Nat.mul_add] at this
    omega
theorem div_end {q r a n : Nat} (hr : r < a) (h : n = q * a + r) : q = n / a ∧ r = n % a := by
  subst h
  have ha : 0 < a := by omega
  constructor
  · rw [Nat.add_comm, Nat.add_mul_div_right _ _ ha, Nat.div_eq_of_lt hr, Nat.zero_add]
  · rw [Nat.add_comm, Nat.add_mul_mod_self_right, Nat.mod_eq_of_lt hr]
end Go.Nu
end

section
set_option linter.unusedSimpArgs false
set_option linter.unusedVariables false
namespace Go.Nu
open Go Go.Lib
theorem valL_acc (l : List UInt8) : ∀ a : Nat, l.foldl (fun a c => 10 * a + (c.toNat - 48)) a = a * 10 ^ l.length + valL l := by
  induction l with
  | nil => intro a; simp [valL]
  | cons c l ih =>
    intro a
    have h1 := ih (10 * a + (c.toNat - 48))
    have h2 := ih (10 * 0 + (c.toNat - 48))
    simp only [List.foldl_cons, valL] at h1 h2 ⊢
    rw [h1, h2, List.length_cons, Nat.pow_succ]
    grind
theorem valL_append (a b : List UInt8) : valL (a ++ b) = valL a * 10 ^ b.length + valL b := by
  rw [valL, List.foldl_append]
  exact valL_acc b _
theorem valL_lt {l : List UInt8} (h : l.all isD = true) : valL l < 10 ^ l.length := by
  induction l using snocInd with
  | h0 => simp [valL]
  | h1 l c ih =>
    rw [List.all_append] at h
    simp only [Bool.and_eq_true, List.all_cons, List.all_nil, Bool.and_true] at h
    have := ih h.1
    have hc := isD_iff.1 h.2
    rw [valL_snoc, List.length_append, List.length_cons, List.length_nil, Nat.pow_succ]
    omega
def padk : Nat → Nat → List UInt8
  | 0, _ => []
  | k + 1, x => padk k (x / 10) ++ [UInt8.ofNat (48 + x % 10)]
theorem dec_split : ∀ (k x m : Nat), x < 10 ^ k → m ≠ 0 → decDigits (x + 10 ^ k * m) = decDigits m ++ padk k x
  | 0, x, m, hx, hm => by
    have : x = 0 := by simpa using hx
    subst this
    simp [padk]
  | k + 1, x, m, hx, hm => by
    rw [Nat.pow_succ] at hx
    have h1 : 10 ^ (k + 1) * m = 10 * (10 ^ k * m) := by rw [Nat.pow_succ, Nat.mul_comm (10 ^ k) 10, Nat.mul_assoc]
    have hp : 0 < 10 ^ k * m := Nat.mul_pos (Nat.pow_pos (by omega)) (by omega)
    rw [h1, decDigits, dif_neg (by omega), show (x + 10 * (10 ^ k * m)) / 10 = x / 10 + 10 ^ k * m by omega, show (x + 10 * (10 ^ k * m)) % 10 = x % 10 by omega, dec_split k (x / 10) m (by omega) hm, padk, List.append_assoc]
theorem padk_zero (k : Nat) : padk k 0 = List.replicate k 48 := by
  induction k with
  | zero => rfl
  | succ k ih =>
    rw [padk, Nat.zero_div, ih, List.replicate_succ']
    rfl
theorem padk_eq : ∀ (k x : Nat), 1 ≤ k → x < 10 ^ k → padk k x = List.replicate (k - (decDigits x).length) 48 ++ decDigits x
  | 0, x, hk, hx => by omega
  | k + 1, x, hk, hx => by
    rw [padk]
    by_cases h9 : x < 10
    · rw [show x / 10 = 0 by omega, padk_zero, decDigits_one h9]
      simp [Nat.mod_eq_of_lt h9]
    · have hk1 : 1 ≤ k := by
        rcases Nat.eq_zero_or_pos k with h | h
        · subst h; simp at hx; omega
        · exact h
      rw [Nat.pow_succ] at hx
      rw [padk_eq k (x / 10) hk1 (by omega)]
      conv => rhs; rw [decDigits, dif_neg h9]
      rw [List.length_append, List.length_cons, List.length_nil, List.append_assoc, show k + 1 - ((decDigits (x / 10)).length + (0 + 1)) = k - (decDigits (x / 10)).length by omega]
def padB (x : Nat) : List UInt8 := List.replicate (9 - (decDigits x).length) 48 ++ decDigits x
theorem dec_limb {x m : Nat} (hx : x < 1000000000) (hm : m ≠ 0) : decDigits (x + 1000000000 * m) = decDigits m ++ padB x := by
  have := dec_split 9 x m hx hm
  rw [padk_eq 9 x (by omega) hx] at this
  exact this
theorem drop_pos {b : Nat} (hb : 2 ≤ b) {n k : Nat} (hk : k < (limbs b n).length) : ofL b ((limbs b n).drop k) ≠ 0 := by
  intro h
  have hn : n ≠ 0 := fun e => by subst e; rw [limbs_zero] at hk; simp at hk
  have h1 := limbs_last hb hn
  have h2 : ofL b (limbs b n) = ofL b ((limbs b n).take k) + b ^ k * ofL b ((limbs b n).drop k) := by
    have := ofL_append b ((limbs b n).take k) ((limbs b n).drop k)
    rw [List.take_append_drop, List.length_take, Nat.min_eq_left (by omega)] at this
    exact this
  rw [ofL_limbs hb, h, Nat.mul_zero, Nat.add_zero] at h2
  have h3 := ofL_lt (b := b) (by omega) ((limbs_lim hb n).take k)
  rw [List.length_take, Nat.min_eq_left (by omega), ← h2] at h3
  have : b ^ k ≤ b ^ ((limbs b n).length - 1) := Nat.pow_le_pow_right (by omega) (by omega)
  omega
end Go.Nu
end

section
set_option linter.unusedSimpArgs false
set_option linter.unusedVariables false
namespace Go.Proofs.YtdlijlecpopadaaGreatDoor.Nu
open Go.Aw Go.Aw.D Go.Proofs Ty Go.Nu
set_option maxRecDepth 100000
abbrev bas : Nat := 1000000000
def encN (n : Nat) : List AV := [int n]
theorem encN_len (n : Nat) : (encN n).length = 1 := (rfl)
theorem encN_0 (n : Nat) : (encN n).getD 0 .any = int n := (rfl)
attribute [go_sem] encN_len encN_0
theorem cI {H : Heap} {k : IntKind} {a b : Int} (h : a = b) : Conv H (.v (.int k a)) (.v (.int k b)) := h ▸ .refl _
theorem cB {H : Heap} {a b : Bool} (h : a = b) : Conv H (.v (.bool a)) (.v (.bool b)) := h ▸ .refl _
theorem cS {H : Heap} {a b : ByteArray} (h : a = b) : Conv H (.v (.string a)) (.v (.string b)) := h ▸ .refl _
theorem ltB {k n : Nat} (h : decide ((k : Int) < (n : Int)) = true) : k < n := by simpa using h
theorem geB {k n : Nat} (hk : k ≤ n) (h : decide ((k : Int) < (n : Int)) = false) : k = n := by
  have : ¬ k < n := by simpa using h
  omega
theorem tl_bl (s : ByteArray) : s.toList = bl s := ByteArray.toList_eq s
theorem allN (l : List Nat) : allLen 1 (l.map encN) := allLen_map encN_len l
theorem da_bl (s : ByteArray) (k : Nat) : s.data.getD k 0 = (bl s).getD k 0 := by simp [bl, Array.getD_eq_getD_getElem?, List.getD]
theorem lit_bl (a : Array UInt8) : bl ⟨a⟩ = a.toList := rfl
attribute [go_sem] tl_bl da_bl lit_bl
theorem all_no {α : Type} {q : α → Bool} {l : List α} {k : Nat} {c : α} (h : l[k]? = some c) (hq : q c = false) : l.all q = false := by
  cases h' : l.all q with
  | false => rfl
  | true =>
    have := List.all_eq_true.1 h' c (List.mem_of_getElem? h)
    rw [hq] at this; cases this
theorem all_yes {α : Type} {q : α → Bool} {l : List α} (h : ∀ c ∈ l, q c = true) : l.all q = true := List.all_eq_true.2 h
theorem take_all' {α : Type} {p : α → Prop} {l : List α} {k : Nat} {x : α} (hk : l[k]? = some x) (hx : p x) (h : ∀ x ∈ l.take k, p x) : ∀ x ∈ l.take (k + 1), p x := by
  rw [take_succ hk]
  intro y hy
  rcases List.mem_append.1 hy with hy | hy
  · exact h y hy
  · rw [List.mem_singleton.1 hy]; exact hx
theorem u8_eq {c : UInt8} {n : Nat} (hn : n < 256) : (((c.toNat : Int) == (n : Int)) = true) ↔ c = UInt8.ofNat n := by
  rw [beq_iff_eq]
  constructor
  · intro h
    have : c.toNat = n := by omega
    rw [← this, UInt8.ofNat_toNat]
  · intro h
    rw [h, UInt8.toNat_ofNat']
    omega
theorem right_cond (l : List UInt8) : (l == [] || (((l.getD 0 0).toNat : Int) == 48 && !(l == [48]))) = !(l != [] && (l.length == 1 || l.getD 0 0 != 48)) := by
  cases l with
  | nil => rfl
  | cons c r =>
    have hc : (((c.toNat : Int) == 48) = true) ↔ c = 48 := u8_eq (n := 48) (by omega)
    by_cases h : c = 48
    · subst h
      cases r <;> rfl
    · have h1 : ((c.toNat : Int) == 48) = false := by
        rw [← Bool.not_eq_true, hc]; exact h
      simp [h1, h]
theorem isD_int (c : UInt8) : (decide ((c.toNat : Int) < 48) || decide ((c.toNat : Int) > 57)) = !isD c := by
  unfold isD
  rw [Bool.eq_iff_iff]
  simp only [Bool.or_eq_true, decide_eq_true_eq, Bool.not_eq_true', Bool.and_eq_false_iff, decide_eq_false_iff_not]
  omega
theorem u8w {n : Nat} (h : 48 ≤ n) (h2 : n < 256) : IntKind.u8.wrap ((n : Int) - 48) = ((n - 48 : Nat) : Int) := by
  have e : IntKind.u8.wrap ((n : Int) - 48) = ((n : Int) - 48) % 256 := rfl
  rw [e]; omega
theorem getD_at {l : List UInt8} {k : Nat} {c : UInt8} (h : l[k]? = some c) : l.getD k 0 = c := by simp [List.getD, h]
theorem nright_c (s : ByteArray) (h : s.size ≤ 4611686018427387904) : PC Tryz.prog 85 [str s] (boo (rightN s)) := by
  have hs := bl_size s
  refine PC.body (c := Tryz.f85.body.getD .skip) (fun _ => false) mixed Tryz.func85 rfl (by kernel_rfl) ?_
  unfold Tryz.f85
  simp only [Option.getD_some]
  simp only [go_sem]
  refine ⟨fun h0 => ⟨by omega, ?_⟩, ?_⟩
  · have : bl s ≠ [] := by simpa using h0
    have := List.length_pos_iff.2 this
    omega
  rw [right_cond]
  refine acond_i (fun hb => ?_) (fun hb => ?_)
  · simp only [go_sem]
    refine cB ?_
    unfold rightN rightL
    rw [Bool.not_eq_true'] at hb
    rw [hb]; rfl
  rw [Bool.not_eq_false'] at hb
  simp only [go_sem]
  refine ⟨fun ρ _ => ∃ k : Nat, k ≤ (bl s).length ∧ ρ 0 = str s ∧ ρ 16 = int s.size ∧ ρ 17 = int k ∧ ∀ c ∈ (bl s).take k, isD c = true, fun ρ _ => (bl s).length - natOf (ρ 17), ⟨0, Nat.zero_le _, rfl, rfl, rfl, by simp⟩, ?_⟩
  rintro ρ H ⟨k, hk, h0, h16, h17, hz⟩
  simp only [go_sem, h0, h16, h17]
  refine acond_i (fun hlt => ?_) (fun hge => ?_)
  · have hlt : k < (bl s).length := by have := ltB hlt; omega
    obtain ⟨c, hc⟩ := getIn hlt
    have hi := getD_at hc
    simp only [go_sem, h0, h16, h17, hi, isD_int]
    refine ⟨⟨by omega, by omega⟩, fun _ => ⟨by omega, by omega⟩, acond_i (fun hb2 => ?_) (fun hb2 => ?_)⟩
    · simp only [go_sem]
      refine cB ?_
      unfold rightN rightL
      rw [all_no hc (by simpa using hb2), Bool.and_false]
    · simp only [go_sem, h0, h16, h17, wrapS (show k ≤ 4611686018427387904 by omega)]
      exact ⟨⟨k + 1, hlt, rfl, take_all' hc (by simpa using hb2) hz⟩, by simp only [natOf_int]; omega⟩
  · have hge : k = (bl s).length := by rw [← hs] at hge; exact geB hk hge
    subst hge
    rw [List.take_length] at hz
    simp only [go_sem]
    refine cB ?_
    unfold rightN rightL
    rw [hb, all_yes hz]; rfl
theorem trim_snoc : ∀ (l : List Nat) (x : Nat), trimL (l ++ [x]) = if x = 0 then trimL l else l ++ [x]
  | [], x => by simp only [List.nil_append, trimL]
  | y :: l, x => by
    rw [List.cons_append, trimL, trim_snoc l x]
    by_cases h : x = 0
    · rw [if_pos h, if_pos h, trimL]
    · rw [if_neg h, if_neg h]
      cases l <;> rfl
theorem trim_c (l : List Nat) (h : l.length ≤ 4611686018427387904) : PC Tryz.prog 185 [.sl (l.map encN)] (.sl ((trimL l).map encN)) := by
  refine PC.body (c := Tryz.f185.body.getD .skip) (fun _ => false) mixed Tryz.func185 rfl (by kernel_rfl) ?_
  unfold Tryz.f185
  simp only [Option.getD_some]
  simp only [go_sem]
  refine ⟨fun ρ _ => ∃ k : Nat, k ≤ l.length ∧ ρ 0 = .sl ((l.take k).map encN) ∧ trimL (l.take k) = trimL l, fun ρ _ => match ρ 0 with | .sl es => es.length | _ => 0, ⟨l.length, Nat.le_refl _, by rw [List.take_length]; rfl, by rw [List.take_length]⟩, ?_⟩
  rintro ρ H ⟨k, hk, h0, hz⟩
  have hkl : (l.take k).length = k := by rw [List.length_take]; omega
  cases k with
  | zero =>
    simp only [go_sem, h0, hkl, show decide (((0 : Nat) : Int) > 0) = false from rfl]
    refine acond_i (fun hb => by cases hb) (fun _ => ?_)
    simp only [go_sem, h0]
    have hz' : trimL l = [] := by rw [← hz]; rfl
    rw [hz']
    exact .refl _
  | succ k =>
  have b1 : IntKind.i64.wrap (((k + 1 : Nat) : Int) - 1) = (k : Int) := by rw [wrap_in (by omega)]; omega
  obtain ⟨x, hx⟩ := getIn (show k < l.length by omega)
  have hx' : (l.take (k + 1))[k]? = some x := by rw [List.getElem?_take, if_pos (by omega)]; exact hx
  have e1 : l.take (k + 1) = l.take k ++ [x] := take_succ hx
  simp only [go_sem, h0, hkl, b1, getD_map hx', show decide (((k + 1 : Nat) : Int) > 0) = true from decide_eq_true (by omega)]
  refine ⟨⟨by omega, by omega⟩, acond_i (fun hb => ?_) (fun hb => ?_)⟩
  · have hx0 : x = 0 := by simpa using hb
    simp only [go_sem, h0, hkl, b1]
    refine ⟨by omega, ⟨⟨k, by omega, ?_, ?_⟩, ?_⟩⟩
    · rw [← List.map_take, List.take_take, Nat.min_eq_left (by omega)]
    · rw [e1, trim_snoc, if_pos hx0] at hz; exact hz
    · rw [← List.map_take, List.length_map, List.length_take]; omega
  · have hx0 : x ≠ 0 := by simpa using hb
    simp only [go_sem, h0]
    rw [e1, trim_snoc, if_neg hx0] at hz
    rw [e1, hz]
    exact .refl _
abbrev nl (n : Nat) : AV := .sl ((limbs bas n).map encN)
theorem nl_zero : nl 0 = .sl [] := by
  simp only [nl, limbs_zero]; rfl
theorem trimN {l : List Nat} (hl : Lim bas l) (h : l.length ≤ 4611686018427387904) {n : Nat} (hn : ofL bas l = n) : PC Tryz.prog 185 [.sl (l.map encN)] (nl n) := by
  have := trim_c l h
  rwa [trim_of (by decide) hl hn] at this
def numRow (l : List Nat) : Row := ⟨3, 1, l.map encN⟩
theorem row_snoc {H : Heap} {k : Nat} {l : List Nat} {x : Nat} : updH H k (some ⟨3, 1, l.map encN ++ [[int (x : Int)]]⟩) k = some (numRow (l ++ [x])) := by
  rw [updH_same]
  simp only [numRow, List.map_append, List.map_cons, List.map_nil]
  rfl
theorem read_c (s : ByteArray) (hr : (bl s).all isD = true) (h : s.size ≤ 4096) : PC Tryz.prog 184 [str s] (nl (valN s)) := by
  have hs := bl_size s
  refine PC.body (c := Tryz.f184.body.getD .skip) (fun t => t == 3) mixed Tryz.func184 rfl (by kernel_rfl) ?_
  unfold Tryz.f184
  simp only [Option.getD_some]
  simp only [go_sem]
  refine anew_i fun j hj => ?_
  simp only [go_sem]
  refine ⟨fun ρ H => ∃ (m j : Nat) (o : List Nat), m ≤ (bl s).length ∧ ρ 0 = str (s.extract 0 m) ∧ ρ 3 = .os j ∧ H j = some (numRow o) ∧ Lim bas o ∧ o.length ≤ (bl s).length - m ∧ ofL bas o + bas ^ o.length * valL ((bl s).take m) = valN s, fun ρ _ => match ρ 0 with | .v (.string t) => t.size | _ => 0, ⟨(bl s).length, j, [], Nat.le_refl _, ?_, by simp only [go_sem], updH_same _ _ _, by simp [Lim], by simp, ?_⟩, ?_⟩
  · rw [show s.extract 0 (bl s).length = s from bl_ext (by rw [bl_extract, List.take_length, List.drop_zero])]; rfl
  · rw [List.take_length]; simp [ofL, valN]
  clear hj j
  rintro ρ H ⟨m, j, o, hm, h0, h3, Rj, ho, hlen, hv⟩
  have hsz : (s.extract 0 m).size = m := by rw [← bl_size, bl_extract, List.drop_zero, List.length_take]; omega
  simp only [go_sem, h0, h3, hsz]
  refine acond_i (fun hb => ?_) (fun hb => ?_)
  · have hm0 : 0 < m := by simpa using hb
    have e9 : imax 0 (IntKind.i64.wrap ((m : Int) - 9)) = ((m - 9 : Nat) : Int) := by
      rw [wrap_in (by omega)]; unfold imax; split <;> omega
    simp only [go_sem, h0, h3, hsz]
    refine ⟨fun ρ H => ∃ i : Nat, m - 9 ≤ i ∧ i ≤ m ∧ ρ 0 = str (s.extract 0 m) ∧ ρ 3 = .os j ∧ ρ 4 = int (m - 9 : Nat) ∧ ρ 5 = int (valL (((bl s).take i).drop (m - 9)) : Nat) ∧ ρ 6 = int i ∧ H j = some (numRow o), fun ρ _ => m - natOf (ρ 6),
      ⟨m - 9, Nat.le_refl _, by omega, by simp only [go_sem, h0], by simp only [go_sem, h3], ?_, ?_, ?_, Rj⟩, ?_⟩
    · simp only [go_sem, e9]
    · simp only [go_sem]
      rw [List.drop_eq_nil_of_le (by rw [List.length_take]; omega)]
      rfl
    · simp only [go_sem, e9]
    clear h0 h3 Rj
    rintro ρ H ⟨i, hi1, hi2, h0, h3, h4, h5, h6, Rj⟩
    simp only [go_sem, h0, h3, h4, h5, h6, hsz]
    refine acond_i (fun hlt => ?_) (fun hge => ?_)
    · have hlt : i < m := ltB hlt
      obtain ⟨c, hc⟩ := getIn (show i < (bl s).length by omega)
      have hx : (bl (s.extract 0 m)).getD i 0 = c := by rw [bl_extract, List.drop_zero]; exact getD_at (by rw [List.getElem?_take, if_pos hlt]; exact hc)
      have hd := isD_iff.1 (List.all_eq_true.1 hr c (List.mem_of_getElem? hc))
      have hv2 := valL_lt (l := ((bl s).take i).drop (m - 9)) (List.all_eq_true.2 fun c hc => List.all_eq_true.1 hr c (List.mem_of_mem_take (List.mem_of_mem_drop hc)))
      have hv3 : 10 ^ (((bl s).take i).drop (m - 9)).length ≤ 10 ^ 9 := Nat.pow_le_pow_right (by omega) (by rw [List.length_drop, List.length_take]; omega)
      have e1 : ((bl s).take (i + 1)).drop (m - 9) = ((bl s).take i).drop (m - 9) ++ [c] := by
        rw [take_succ hc, List.drop_append_of_le_length (by rw [List.length_take]; omega)]
      have e2 : IntKind.i64.wrap (IntKind.i64.wrap (10 * ((valL (((bl s).take i).drop (m - 9)) : Nat) : Int)) + IntKind.i64.wrap (IntKind.u8.wrap ((c.toNat : Int) - 48))) = ((valL (((bl s).take (i + 1)).drop (m - 9)) : Nat) : Int) := by
        rw [e1, valL_snoc, u8w hd.1 (by omega)]
        generalize valL (((bl s).take i).drop (m - 9)) = V at *
        rw [show IntKind.i64.wrap (10 * (V : Int)) = 10 * (V : Int) from wrap_in (by omega), show IntKind.i64.wrap (((c.toNat - 48 : Nat) : Int)) = ((c.toNat - 48 : Nat) : Int) from wrap_in (by omega), wrap_in (by omega)]
        omega
      simp only [go_sem, h0, h3, h4, h5, h6, hsz, hx, e2, wrapS (show i ≤ 4611686018427387904 by omega)]
      exact ⟨⟨by omega, by omega⟩, ⟨i + 1, by omega, by omega, rfl, rfl, Rj⟩, by simp only [natOf_int]; omega⟩
    · have hge : i = m := geB hi2 hge
      subst hge
      simp only [go_sem, h0, h3, h4, h5, h6, hsz]
      have hL : (((bl s).take i).drop (i - 9)).length = i - (i - 9) := by rw [List.length_drop, List.length_take]; omega
      have hA : (((bl s).take i).drop (i - 9)).all isD = true := List.all_eq_true.2 fun c hc => List.all_eq_true.1 hr c (List.mem_of_mem_take (List.mem_of_mem_drop hc))
      have hv2 := valL_lt hA
      have hv3 : 10 ^ (((bl s).take i).drop (i - 9)).length ≤ 10 ^ 9 := Nat.pow_le_pow_right (by omega) (by omega)
      have hcut : valL ((bl s).take i) = valL ((bl s).take (i - 9)) * 10 ^ (((bl s).take i).drop (i - 9)).length + valL (((bl s).take i).drop (i - 9)) := by
        rw [← valL_append]
        congr 1
        conv => lhs; rw [← List.take_append_drop (i - 9) ((bl s).take i)]
        rw [List.take_take, Nat.min_eq_left (by omega)]
      generalize valL (((bl s).take i).drop (i - 9)) = x at *
      refine wappE_i Rj ⟨rfl, rfl⟩ ⟨rfl, trivial⟩ (by simp only [numRow, List.length_map, List.length_cons, List.length_nil]; omega) (fun j' hj' => ?_)
      simp only [go_sem, h0, h3, h4, h5, h6, hsz]
      refine ⟨⟨by omega, by omega⟩, ⟨⟨i - 9, j', o ++ [x], by omega, ?_, rfl, row_snoc, ho.snoc (show x < 1000000000 by omega), ?_, ?_⟩, ?_⟩⟩
      · congr 2
        refine bl_ext ?_
        rw [bl_extract, bl_extract, bl_extract]
        simp only [List.drop_zero, List.take_take]
        rw [Nat.min_eq_left (by omega)]
      · rw [List.length_append, List.length_cons, List.length_nil]; omega
      · rw [← hv, hcut, ofL_snoc, List.length_append, List.length_cons, List.length_nil, Nat.pow_succ]
        by_cases h9 : 9 ≤ i
        · rw [hL, show i - (i - 9) = 9 by omega]
          grind
        · rw [show i - 9 = 0 by omega]
          simp only [List.take_zero, valL, List.foldl_nil]
          grind
      · rw [← bl_size, bl_extract, bl_extract]
        simp only [List.drop_zero, List.length_take]
        omega
  · have hm0 : m = 0 := by simpa using hb
    subst hm0
    simp only [go_sem, h0, h3]
    refine PC.useF [j] (.cons _ _ _ _ (.row _ _ _ (by simp [Rj]; rfl) (ConvE.refl _)) .nil) (trimN ho (by omega) (n := valN s) (by rw [← hv]; simp [valL])) ?_
    simp only [go_sem]
    exact .refl _
end Go.Proofs.YtdlijlecpopadaaGreatDoor.Nu
end
