/- lorryref01/05/06/08/10/11/12: the small functions. -/
import Derived.Test.YtjlbikpgjejkjaaTools
set_option linter.unusedSimpArgs false
set_option linter.unusedVariables false
namespace Go.Proofs.Ytjlbikpgjejkjaa
open Go.Aw Go.Aw.D Go.Proofs Ty
set_option maxRecDepth 100000

def inR (n lo hi : Int) : Bool := decide (n ≥ lo) && decide (n ≤ hi)
theorem in10_c (n lo hi : Int) : PC Try.prog 77 [int n, int lo, int hi] (boo (inR n lo hi)) := by
  refine PC.body (c := Try.f77.body.getD .skip) (fun _ => false) mixed Try.func77 rfl (by kernel_rfl) ?_
  unfold Try.f77
  simp only [Option.getD_some]
  simp only [go_sem]
  exact .refl _
theorem in11_c (n lo hi : Int) : PC Try.prog 100 [int n, int lo, int hi] (boo (inR n lo hi)) := by
  refine PC.body (c := Try.f100.body.getD .skip) (fun _ => false) mixed Try.func100 rfl (by kernel_rfl) ?_
  unfold Try.f100
  simp only [Option.getD_some]
  simp only [go_sem]
  exact .refl _
theorem tick_c (n : Int) : PC Try.prog 96 [int n] (boo (inR n 0 4096)) := by
  refine PC.body (c := Try.f96.body.getD .skip) (fun _ => false) mixed Try.func96 rfl (by kernel_rfl) ?_
  unfold Try.f96
  simp only [Option.getD_some]
  simp only [go_sem]
  exact .refl _
def digitR (c : Int) : Bool := decide (c ≥ 48) && decide (c ≤ 57)
theorem digit_c (c : Int) : PC Try.prog 116 [.v (.int .u8 c)] (boo (digitR c)) := by
  refine PC.body (c := Try.f116.body.getD .skip) (fun _ => false) mixed Try.func116 rfl (by kernel_rfl) ?_
  unfold Try.f116
  simp only [Option.getD_some]
  simp only [go_sem]
  exact .refl _
def letterR (c : Int) : Bool := decide (c ≥ 97) && decide (c ≤ 122) || decide (c ≥ 65) && decide (c ≤ 90) || c == 95
theorem letter_c (c : Int) : PC Try.prog 117 [.v (.int .u8 c)] (boo (letterR c)) := by
  refine PC.body (c := Try.f117.body.getD .skip) (fun _ => false) mixed Try.func117 rfl (by kernel_rfl) ?_
  unfold Try.f117
  simp only [Option.getD_some]
  simp only [go_sem]
  exact .refl _
def zeroStop (s : Stop) : Bool := s.place == -1 && s.start == 0 && s.close == 0 && s.service == 0
def badStop (s : Stop) : Bool := decide (s.place < 0) || decide (s.start < 0) || decide (s.start > s.close) || decide (s.close > 4096) || decide (s.service < 0) || decide (s.service > 4096)
def windowR (s : Stop) : Int := if zeroStop s then 0 else if badStop s then 2 else 0
theorem window_c (s : Stop) : PC Try.prog 101 [.agg (encStop s)] (int (windowR s)) := by
  refine PC.body (c := Try.f101.body.getD .skip) (fun _ => false) mixed Try.func101 rfl (by kernel_rfl) ?_
  unfold Try.f101
  simp only [Option.getD_some]
  simp only [go_sem]
  refine acond_i (fun h => ?_) (fun h => ?_)
  · simp only [go_sem]
    have : windowR s = 0 := if_pos h
    rw [this]; exact .refl _
  · simp only [go_sem]
    refine acond_i (fun h2 => ?_) (fun h2 => ?_)
    · simp only [go_sem]
      have : windowR s = 2 := by unfold windowR; rw [if_neg (by simp [zeroStop, h])]; exact if_pos h2
      rw [this]; exact .refl _
    · simp only [go_sem]
      have : windowR s = 0 := by unfold windowR; rw [if_neg (by simp [zeroStop, h]), if_neg (by simp only [badStop, h2]; simp)]
      rw [this]; exact .refl _
def digitS (n : Int) : ByteArray := strOfNums [IntKind.u8.wrap (IntKind.i64.wrap (48 + n))]
def decN (n : Nat) : ByteArray := if n < 10 then digitS n else decN (n / 10) ++ digitS (n % 10 : Nat)
theorem strOf1 (x : Int) : (strOfNums [x]).size = 1 := by simp [strOfNums]; rfl
theorem digitS_size (n : Int) : (digitS n).size = 1 := strOf1 _
theorem decN_step {n : Nat} (h : 10 ≤ n) : decN n = decN (n / 10) ++ digitS (n % 10 : Nat) := by rw [decN, if_neg (by omega)]
theorem decN_last {n : Nat} (h : n < 10) : decN n = digitS n := by rw [decN, if_pos h]
theorem decN_size (n : Nat) : (decN n).size ≤ n + 1 := by
  induction n using Nat.strongRecOn with
  | ind n ih =>
    rcases Nat.lt_or_ge n 10 with h | h
    · rw [decN_last h, digitS_size]; omega
    · rw [decN_step h, ByteArray.size_append, digitS_size]
      have := ih (n / 10) (by omega)
      omega
theorem tmod10 (m : Nat) : (m : Int).tmod 10 = ((m % 10 : Nat) : Int) := by rw [Int.tmod_eq_emod_of_nonneg (by omega)]; rfl
theorem tdiv10 (m : Nat) : (m : Int).tdiv 10 = ((m / 10 : Nat) : Int) := by rw [Int.tdiv_eq_ediv_of_nonneg (by omega)]; rfl
theorem wrapN {k : Nat} (h : k ≤ 4611686018427387904) : IntKind.i64.wrap (k : Int) = (k : Int) := wrap_in (by omega)
theorem i64max : IntKind.i64.max = 9223372036854775807 := by decide
theorem dec12_c (n : Nat) (hn : n ≤ 4611686018427387904) : PC Try.prog 102 [int n] (str (decN n)) := by
  refine PC.body (c := Try.f102.body.getD .skip) (fun _ => false) mixed Try.func102 rfl (by kernel_rfl) ?_
  unfold Try.f102
  simp only [Option.getD_some]
  simp only [go_sem]
  refine ⟨fun ρ _ => ∃ (m : Nat) (s : ByteArray), ρ 0 = int m ∧ ρ 3 = str s ∧ decN n = decN m ++ s ∧ s.size + m ≤ n,
    fun ρ _ => natOf (ρ 0), ⟨n, ByteArray.empty, rfl, rfl, by simp, by simp⟩, ?_⟩
  rintro ρ H ⟨k, s, h0, h3, he, hs⟩
  simp only [go_sem, h0, h3]
  refine acond_i (fun hlt => ?_) (fun hge => ?_)
  · have hlt : 10 ≤ k := by have : (10 : Int) ≤ k := by simpa using hlt
                            omega
    simp only [go_sem, h0, h3, tdiv10, tmod10, wrapN (show k / 10 ≤ 4611686018427387904 by omega), natOf_int]
    refine ⟨by omega, ?_, by omega, ⟨k / 10, _, rfl, rfl, ?_, ?_⟩, by omega⟩
    · rw [strOf1, i64max]; omega
    · rw [he, decN_step hlt, ByteArray.append_assoc]; rfl
    · rw [ByteArray.size_append, strOf1]; omega
  · have hge : k < 10 := by have : ¬ (10 : Int) ≤ k := by simpa using hge
                            omega
    simp only [go_sem, h0, h3]
    refine ⟨by rw [strOf1, i64max]; omega, ?_⟩
    rw [he, decN_last hge]
    exact .refl _
def bitOf : AV → Nat
  | .v (.bool true) => 1
  | _ => 0
theorem Decimal_c (n : Nat) (hn : n ≤ 4611686018427387904) : PC Try.prog 79 [int n] (str (decN n)) := by
  refine PC.body (c := Try.f79.body.getD .skip) (fun _ => false) mixed Try.func79 rfl (by kernel_rfl) ?_
  unfold Try.f79
  simp only [Option.getD_some]
  simp only [go_sem]
  refine ⟨fun ρ _ => ∃ (b : Bool) (m : Nat) (s : ByteArray), ρ 0 = int n ∧ ρ 5 = boo b ∧ ρ 4 = int m ∧ ρ 3 = str s ∧ (b = true → decN n = decN m ++ s ∧ s.size + m ≤ n) ∧ (b = false → decN n = s),
    fun ρ _ => natOf (ρ 4) + bitOf (ρ 5), ⟨true, n, ByteArray.empty, rfl, rfl, rfl, rfl, fun _ => by simp, by simp⟩, ?_⟩
  rintro ρ H ⟨b, k, s, h0, h5, h4, h3, ht, hf⟩
  simp only [go_sem, h0, h3, h4, h5]
  refine acond_i (fun hb => ?_) (fun hb => ?_)
  · subst hb
    obtain ⟨he, hs⟩ := ht rfl
    simp only [go_sem, h0, h3, h4, h5, tdiv10, tmod10]
    refine ⟨by omega, ?_⟩
    refine acond_i (fun hb => ?_) (fun hb => ?_)
    · exfalso; simp at hb; omega
    · simp only [go_sem, h0, h3, h4, h5, tdiv10, tmod10, wrapN (show k / 10 ≤ 4611686018427387904 by omega), natOf_int]
      refine ⟨by rw [strOf1, i64max]; omega, by omega, ⟨_, k / 10, _, rfl, rfl, rfl, ?_, ?_⟩, ?_⟩
      · intro hb
        have : 10 ≤ k := by simp at hb; omega
        refine ⟨?_, ?_⟩
        · rw [he, decN_step this, ByteArray.append_assoc]; rfl
        · rw [ByteArray.size_append, strOf1]; omega
      · intro hb
        have h10 : k < 10 := by simp at hb; omega
        rw [he, decN_last h10, Nat.mod_eq_of_lt h10]; rfl
      · rcases Nat.lt_or_ge k 10 with h | h
        · have : k / 10 = 0 := by omega
          simp [this, bitOf]
        · simp only [bitOf]; split <;> omega
  · simp only [go_sem, h0, h3, h4, h5]
    refine acond_i (fun hb => ?_) (fun hb => ?_)
    · exfalso; simp at hb; omega
    · simp only [go_sem, h0, h3, h4, h5]
      rw [hf (by assumption)]
      exact .refl _
end Go.Proofs.Ytjlbikpgjejkjaa
