/- Texts joined by a program: RefA. -/
import Derived.Test.YtjohkkigiacbjaaGreatDoorSp14

set_option linter.unusedSimpArgs false
set_option linter.unusedVariables false
namespace Go.Proofs.YtjohkkigiacbjaaGreatDoor
open Go.Aw Go.Aw.D Go.Proofs Ty
set_option maxRecDepth 100000
def inR (n lo hi : Int) : Bool := decide (n ≥ lo) && decide (n ≤ hi)
theorem in10_c (n lo hi : Int) : PC Tryz.prog 116 [int n, int lo, int hi] (boo (inR n lo hi)) := by
  refine PC.body (c := Tryz.f116.body.getD .skip) (fun _ => false) mixed Tryz.func116 rfl (by kernel_rfl) ?_
  unfold Tryz.f116
  simp only [Option.getD_some]
  simp only [go_sem]
  exact .refl _
theorem in11_c (n lo hi : Int) : PC Tryz.prog 171 [int n, int lo, int hi] (boo (inR n lo hi)) := by
  refine PC.body (c := Tryz.f171.body.getD .skip) (fun _ => false) mixed Tryz.func171 rfl (by kernel_rfl) ?_
  unfold Tryz.f171
  simp only [Option.getD_some]
  simp only [go_sem]
  exact .refl _
theorem tick_c (n : Int) : PC Tryz.prog 167 [int n] (boo (inR n 0 4096)) := by
  refine PC.body (c := Tryz.f167.body.getD .skip) (fun _ => false) mixed Tryz.func167 rfl (by kernel_rfl) ?_
  unfold Tryz.f167
  simp only [Option.getD_some]
  simp only [go_sem]
  exact .refl _
def digitR (c : Int) : Bool := decide (c ≥ 48) && decide (c ≤ 57)
theorem digit_c (c : Int) : PC Tryz.prog 121 [.v (.int .u8 c)] (boo (digitR c)) := by
  refine PC.body (c := Tryz.f121.body.getD .skip) (fun _ => false) mixed Tryz.func121 rfl (by kernel_rfl) ?_
  unfold Tryz.f121
  simp only [Option.getD_some]
  simp only [go_sem]
  exact .refl _
def letterR (c : Int) : Bool := decide (c ≥ 97) && decide (c ≤ 122) || decide (c ≥ 65) && decide (c ≤ 90) || c == 95
theorem letter_c (c : Int) : PC Tryz.prog 122 [.v (.int .u8 c)] (boo (letterR c)) := by
  refine PC.body (c := Tryz.f122.body.getD .skip) (fun _ => false) mixed Tryz.func122 rfl (by kernel_rfl) ?_
  unfold Tryz.f122
  simp only [Option.getD_some]
  simp only [go_sem]
  exact .refl _
def zeroStop (s : Stop) : Bool := s.place == -1 && s.start == 0 && s.close == 0 && s.service == 0
def badStop (s : Stop) : Bool := decide (s.place < 0) || decide (s.start < 0) || decide (s.start > s.close) || decide (s.close > 4096) || decide (s.service < 0) || decide (s.service > 4096)
def windowR (s : Stop) : Int := if zeroStop s then 0 else if badStop s then 2 else 0
theorem window_c (s : Stop) : PC Tryz.prog 172 [.agg (encStop s)] (int (windowR s)) := by
  refine PC.body (c := Tryz.f172.body.getD .skip) (fun _ => false) mixed Tryz.func172 rfl (by kernel_rfl) ?_
  unfold Tryz.f172
  simp only [Option.getD_some]
  simp only [go_sem]
  refine acond_i (fun h => ?_) (fun h => ?_)
  · simp only [go_sem]
    have : windowR s = 0 := if_pos h
    rw [this]; exact .refl _
  · simp only [go_sem]
    refine acond_i (fun h2 => ?_) (fun h2 => ?_)
    · simp only [go_sem]
      have : windowR s = 2 := by unfold windowR; rw [if_neg (by simp [zeroStop, h])]; exact if_pos h2
      rw [this]; exact .refl _
    · simp only [go_sem]
      have : windowR s = 0 := by unfold windowR; rw [if_neg (by simp [zeroStop, h]), if_neg (by simp only [badStop, h2]; simp)]
      rw [this]; exact .refl _
def digitS (n : Int) : ByteArray := strOfNums [IntKind.u8.wrap (IntKind.i64.wrap (48 + n))]
def decN (n : Nat) : ByteArray := if n < 10 then digitS n else decN (n / 10) ++ digitS (n % 10 : Nat)
theorem strOf1 (x : Int) : (strOfNums [x]).size = 1 := by simp [strOfNums]; rfl
theorem digitS_size (n : Int) : (digitS n).size = 1 := strOf1 _
theorem decN_step {n : Nat} (h : 10 ≤ n) : decN n = decN (n / 10) ++ digitS (n % 10 : Nat) := by rw [decN, if_neg (by omega)]
theorem decN_last {n : Nat} (h : n < 10) : decN n = digitS n := by rw [decN, if_pos h]
theorem decN_size (n : Nat) : (decN n).size ≤ n + 1 := by
  induction n using Nat.strongRecOn with
  | ind n ih =>
    rcases Nat.lt_or_ge n 10 with h | h
    · rw [decN_last h, digitS_size]; omega
    · rw [decN_step h, ByteArray.size_append, digitS_size]
      have := ih (n / 10) (by omega)
      omega
theorem tmod10 (m : Nat) : (m : Int).tmod 10 = ((m % 10 : Nat) : Int) := by rw [Int.tmod_eq_emod_of_nonneg (by omega)]; rfl
theorem tdiv10 (m : Nat) : (m : Int).tdiv 10 = ((m / 10 : Nat) : Int) := by rw [Int.tdiv_eq_ediv_of_nonneg (by omega)]; rfl
theorem wrapN {k : Nat} (h : k ≤ 4611686018427387904) : IntKind.i64.wrap (k : Int) = (k : Int) := wrap_in (by omega)
theorem i64max : IntKind.i64.max = 9223372036854775807 := by decide
theorem dec12_c (n : Nat) (hn : n ≤ 4611686018427387904) : PC Tryz.prog 173 [int n] (str (decN n)) := by
  refine PC.body (c := Tryz.f173.body.getD .skip) (fun _ => false) mixed Tryz.func173 rfl (by kernel_rfl) ?_
  unfold Tryz.f173
  simp only [Option.getD_some]
  simp only [go_sem]
  refine ⟨fun ρ _ => ∃ (m : Nat) (s : ByteArray), ρ 0 = int m ∧ ρ 3 = str s ∧ decN n = decN m ++ s ∧ s.size + m ≤ n,
    fun ρ _ => natOf (ρ 0), ⟨n, ByteArray.empty, rfl, rfl, by simp, by simp⟩, ?_⟩
  rintro ρ H ⟨k, s, h0, h3, he, hs⟩
  simp only [go_sem, h0, h3]
  refine acond_i (fun hlt => ?_) (fun hge => ?_)
  · have hlt : 10 ≤ k := by
      have : (10 : Int) ≤ k := by simpa using hlt
      omega
    simp only [go_sem, h0, h3, tdiv10, tmod10, wrapN (show k / 10 ≤ 4611686018427387904 by omega), natOf_int]
    refine ⟨by omega, ?_, by omega, ⟨k / 10, _, rfl, rfl, ?_, ?_⟩, by omega⟩
    · rw [strOf1, i64max]; omega
    · rw [he, decN_step hlt, ByteArray.append_assoc]; rfl
    · rw [ByteArray.size_append, strOf1]; omega
  · have hge : k < 10 := by
      have : ¬ (10 : Int) ≤ k := by simpa using hge
      omega
    simp only [go_sem, h0, h3]
    refine ⟨by rw [strOf1, i64max]; omega, ?_⟩
    rw [he, decN_last hge]
    exact .refl _
def bitOf : AV → Nat
  | .v (.bool true) => 1
  | _ => 0
theorem Decimal_c (n : Nat) (hn : n ≤ 4611686018427387904) : PC Tryz.prog 22 [int n] (str (decN n)) := by
  refine PC.body (c := Tryz.f22.body.getD .skip) (fun _ => false) mixed Tryz.func22 rfl (by kernel_rfl) ?_
  unfold Tryz.f22
  simp only [Option.getD_some]
  simp only [go_sem]
  refine ⟨fun ρ _ => ∃ (b : Bool) (m : Nat) (s : ByteArray), ρ 0 = int n ∧ ρ 5 = boo b ∧ ρ 4 = int m ∧ ρ 3 = str s ∧ (b = true → decN n = decN m ++ s ∧ s.size + m ≤ n) ∧ (b = false → decN n = s),
    fun ρ _ => natOf (ρ 4) + bitOf (ρ 5), ⟨true, n, ByteArray.empty, rfl, rfl, rfl, rfl, fun _ => by simp, by simp⟩, ?_⟩
  rintro ρ H ⟨b, k, s, h0, h5, h4, h3, ht, hf⟩
  simp only [go_sem, h0, h3, h4, h5]
  refine acond_i (fun hb => ?_) (fun hb => ?_)
  · subst hb
    obtain ⟨he, hs⟩ := ht rfl
    simp only [go_sem, h0, h3, h4, h5, tdiv10, tmod10]
    refine ⟨by omega, ?_⟩
    refine acond_i (fun hb => ?_) (fun hb => ?_)
    · exfalso; simp at hb; omega
    · simp only [go_sem, h0, h3, h4, h5, tdiv10, tmod10, wrapN (show k / 10 ≤ 4611686018427387904 by omega), natOf_int]
      refine ⟨by rw [strOf1, i64max]; omega, by omega, ⟨_, k / 10, _, rfl, rfl, rfl, ?_, ?_⟩, ?_⟩
      · intro hb
        have : 10 ≤ k := by simp at hb; omega
        refine ⟨?_, ?_⟩
        · rw [he, decN_step this, ByteArray.append_assoc]; rfl
        · rw [ByteArray.size_append, strOf1]; omega
      · intro hb
        have h10 : k < 10 := by simp at hb; omega
        rw [he, decN_last h10, Nat.mod_eq_of_lt h10]; rfl
      · rcases Nat.lt_or_ge k 10 with h | h
        · have : k / 10 = 0 := by omega
          simp [this, bitOf]
        · simp only [bitOf]; split <;> omega
  · simp only [go_sem, h0, h3, h4, h5]
    refine acond_i (fun hb => ?_) (fun hb => ?_)
    · exfalso; simp at hb; omega
    · simp only [go_sem, h0, h3, h4, h5]
      rw [hf (by assumption)]
      exact .refl _
def rightL (l : List Int) (d : Int) : Bool := if (l.length : Int) = d then l.all fun n => !(decide (n < 0) || decide (n > 1000)) else false
theorem all_take {α : Type} {p : α → Bool} {l : List α} (h : ∀ x ∈ l, p x = true) : l.all p = true := List.all_eq_true.2 h
theorem all_miss {α : Type} {p : α → Bool} {l : List α} {x : α} (h : x ∈ l) (hp : p x = false) : l.all p = false := by
  cases hb : l.all p with
  | false => rfl
  | true => rw [List.all_eq_true.1 hb x h] at hp; cases hp
theorem mem_of_get {α : Type} {l : List α} {k : Nat} {x : α} (h : l[k]? = some x) : x ∈ l := List.mem_of_getElem? h
theorem take_all {α : Type} {q : α → Prop} {l : List α} {k : Nat} {x : α} (hr : l[k]? = some x) (h : ∀ y ∈ l.take k, q y) (hx : q x) : ∀ y ∈ l.take (k + 1), q y := by
  rw [take_succ hr]
  intro y hy
  rcases List.mem_append.1 hy with hy | hy
  · exact h y hy
  · simp at hy; subst hy; exact hx
theorem le_of_lt_b {k n : Nat} (h : decide ((k : Int) < (n : Int)) = true) : k < n := by simpa using h
theorem eq_of_ge_b {k n : Nat} (hk : k ≤ n) (h : decide ((k : Int) < (n : Int)) = false) : k = n := by
  have : ¬ k < n := by simpa using h
  omega
theorem right_c (l : List Int) (d : Int) (hl : l.length ≤ 1048576) : PC Tryz.prog 170 [.sl (l.map encInt), int d] (boo (rightL l d)) := by
  refine PC.body (c := Tryz.f170.body.getD .skip) (fun _ => false) mixed Tryz.func170 rfl (by kernel_rfl) ?_
  unfold Tryz.f170
  simp only [Option.getD_some]
  simp only [go_sem]
  refine acond_i (fun hd => ?_) (fun hd => ?_)
  · simp only [go_sem]
    have : rightL l d = false := by unfold rightL; rw [if_neg (by simpa using hd)]
    rw [this]; exact .refl _
  · have hd : (l.length : Int) = d := by simpa using hd
    simp only [go_sem]
    refine ⟨fun ρ _ => ∃ k : Nat, k ≤ l.length ∧ ρ 0 = .sl (l.map encInt) ∧ ρ 5 = int k ∧ ∀ n ∈ l.take k, (decide (n < 0) || decide (n > 1000)) = false, fun ρ _ => l.length - natOf (ρ 5), ⟨0, Nat.zero_le _, rfl, rfl, by simp⟩, ?_⟩
    rintro ρ H ⟨k, hk, h0, h5, hn⟩
    simp only [go_sem, h0, h5]
    refine acond_i (fun hlt => ?_) (fun hge => ?_)
    · have hlt := le_of_lt_b hlt
      obtain ⟨r, hr⟩ := getIn hlt
      have b1 := inB hlt
      simp only [go_sem, h0, h5, b1, getD_map hr]
      refine acond_i (fun hb => ?_) (fun hb => ?_)
      · simp only [go_sem]
        have : rightL l d = false := by unfold rightL; rw [if_pos hd]; exact all_miss (mem_of_get hr) (by simp only [hb]; rfl)
        rw [this]; exact .refl _
      · simp only [go_sem, h0, h5, wrapS (show k ≤ 4611686018427387904 by omega)]
        exact ⟨⟨k + 1, hlt, rfl, take_all hr hn hb⟩, by simp only [natOf_int]; omega⟩
    · have hge := eq_of_ge_b hk hge
      subst hge
      simp only [go_sem]
      have : rightL l d = true := by unfold rightL; rw [if_pos hd]; exact all_take fun n h => by rw [hn n (by simpa using h)]; rfl
      rw [this]; exact .refl _
def capR (l : List Int) (d : Int) : Bool := if (!inR l.length 1 3 || (l.length : Int) != d) = true then false else l.all fun n => inR n 0 1000
theorem cap_c (l : List Int) (d : Int) (hl : l.length ≤ 1048576) : PC Tryz.prog 169 [.sl (l.map encInt), int d] (boo (capR l d)) := by
  refine PC.body (c := Tryz.f169.body.getD .skip) (fun _ => false) mixed Tryz.func169 rfl (by kernel_rfl) ?_
  unfold Tryz.f169
  simp only [Option.getD_some]
  simp only [go_sem]
  refine PC.use (in10_c _ _ _) ?_
  simp only [go_sem]
  refine acond_i (fun hd => ?_) (fun hd => ?_)
  · simp only [go_sem]
    have : capR l d = false := by unfold capR; rw [if_pos hd]
    rw [this]; exact .refl _
  · simp only [go_sem]
    refine ⟨fun ρ _ => ∃ k : Nat, k ≤ l.length ∧ ρ 0 = .sl (l.map encInt) ∧ ρ 5 = int k ∧ ∀ n ∈ l.take k, inR n 0 1000 = true, fun ρ _ => l.length - natOf (ρ 5), ⟨0, Nat.zero_le _, rfl, rfl, by simp⟩, ?_⟩
    rintro ρ H ⟨k, hk, h0, h5, hn⟩
    simp only [go_sem, h0, h5]
    refine acond_i (fun hlt => ?_) (fun hge => ?_)
    · have hlt := le_of_lt_b hlt
      obtain ⟨r, hr⟩ := getIn hlt
      have b1 := inB hlt
      simp only [go_sem, h0, h5, b1, getD_map hr]
      refine PC.use (in10_c _ _ _) ?_
      simp only [go_sem]
      refine acond_i (fun hb => ?_) (fun hb => ?_)
      · simp only [go_sem]
        have : capR l d = false := by unfold capR; rw [if_neg (by rw [hd]; simp)]; exact all_miss (mem_of_get hr) (by simpa using hb)
        rw [this]; exact .refl _
      · simp only [go_sem, h0, h5, wrapS (show k ≤ 4611686018427387904 by omega)]
        exact ⟨⟨k + 1, hlt, rfl, take_all hr hn (by simpa using hb)⟩, by simp only [natOf_int]; omega⟩
    · have hge := eq_of_ge_b hk hge
      subst hge
      simp only [go_sem]
      have : capR l d = true := by unfold capR; rw [if_neg (by rw [hd]; simp)]; exact all_take fun n h => hn n (by simpa using h)
      rw [this]; exact .refl _
def byteAt (s : ByteArray) (i : Nat) : Int := ((s.data.getD i 0).toNat : Int)
def nameR (s : ByteArray) : Bool := if (decide ((s.size : Int) < 1) || decide ((s.size : Int) > 16) || digitR (byteAt s 0)) = true then false else (List.range s.size).all fun i => letterR (byteAt s i) || digitR (byteAt s i)
theorem range_get {n k : Nat} (h : k < n) : (List.range n)[k]? = some k := by simp [h]
theorem name_c (s : ByteArray) (hl : s.size ≤ 1048576) : PC Tryz.prog 76 [str s] (boo (nameR s)) := by
  refine PC.body (c := Tryz.f76.body.getD .skip) (fun _ => false) mixed Tryz.func76 rfl (by kernel_rfl) ?_
  unfold Tryz.f76
  simp only [Option.getD_some]
  simp only [go_sem]
  refine ⟨fun h => ⟨by omega, by simp at h; omega⟩, _, fun _ => (digit_c _).q rfl, ?_⟩
  simp only [go_sem]
  refine acond_i (fun hd => ?_) (fun hd => ?_)
  · simp only [go_sem]
    have : nameR s = false := by unfold nameR; rw [if_pos (by exact hd)]
    rw [this]; exact .refl _
  · simp only [go_sem]
    refine ⟨fun ρ _ => ∃ k : Nat, k ≤ s.size ∧ ρ 0 = str s ∧ ρ 3 = int k ∧ ∀ i ∈ (List.range s.size).take k, (letterR (byteAt s i) || digitR (byteAt s i)) = true, fun ρ _ => s.size - natOf (ρ 3), ⟨0, Nat.zero_le _, rfl, rfl, by simp⟩, ?_⟩
    rintro ρ H ⟨k, hk, h0, h3, hn⟩
    simp only [go_sem, h0, h3]
    refine acond_i (fun hlt => ?_) (fun hge => ?_)
    · have hlt := le_of_lt_b hlt
      have b1 := inB hlt
      simp only [go_sem, h0, h3, b1]
      refine PC.use (letter_c _) ?_
      simp only [go_sem, h0, h3, b1]
      refine ⟨_, fun _ => (digit_c _).q rfl, ?_⟩
      simp only [go_sem]
      refine acond_i (fun hb => ?_) (fun hb => ?_)
      · simp only [go_sem]
        have : nameR s = false := by unfold nameR; rw [if_neg (by intro h; exact absurd (h.symm.trans hd) (by simp))]; exact all_miss (mem_of_get (range_get hlt)) (by simpa [byteAt] using hb)
        rw [this]; exact .refl _
      · simp only [go_sem, h0, h3, wrapS (show k ≤ 4611686018427387904 by omega)]
        exact ⟨⟨k + 1, hlt, rfl, take_all (range_get hlt) hn (by
          have : (!letterR (byteAt s k) && !digitR (byteAt s k)) = false := hb
          revert this; cases letterR (byteAt s k) <;> cases digitR (byteAt s k) <;> simp)⟩, by simp only [natOf_int]; omega⟩
    · have hge := eq_of_ge_b hk hge
      subst hge
      simp only [go_sem]
      have : nameR s = true := by unfold nameR; rw [if_neg (by intro h; exact absurd (h.symm.trans hd) (by simp))]; exact all_take fun n h => hn n (by rw [List.take_of_length_le (by simp)]; exact h)
      rw [this]; exact .refl _
def dimsR (l : List VType) : Int := match l with | [] => 0 | t :: _ => t.cap.length
theorem dims_c (l : List VType) : PC Tryz.prog 69 [.sl (l.map encVType)] (int (dimsR l)) := by
  refine PC.body (c := Tryz.f69.body.getD .skip) (fun _ => false) mixed Tryz.func69 rfl (by kernel_rfl) ?_
  unfold Tryz.f69
  simp only [Option.getD_some]
  simp only [go_sem]
  cases l with
  | nil =>
    simp only [go_sem]
    refine acond_i (fun hb => ?_) (fun hb => ?_)
    · simp only [go_sem]; exact .refl _
    · simp at hb
  | cons t l =>
    refine acond_i (fun hb => ?_) (fun hb => ?_)
    · simp at hb; omega
    · simp only [go_sem]
      exact ⟨⟨by omega, by omega⟩, .refl _⟩
def knownR (l : List VType) (k : Nat) (s : ByteArray) : Bool := (l.take k).any fun t => t.name.toList == s.toList
theorem known_c (l : List VType) (m : Nat) (s : ByteArray) (hm : m ≤ l.length) (hl : l.length ≤ 1048576) : PC Tryz.prog 168 [.sl (l.map encVType), int m, str s] (boo (knownR l m s)) := by
  refine PC.body (c := Tryz.f168.body.getD .skip) (fun _ => false) mixed Tryz.func168 rfl (by kernel_rfl) ?_
  unfold Tryz.f168
  simp only [Option.getD_some]
  simp only [go_sem]
  refine ⟨fun ρ _ => ∃ k : Nat, k ≤ m ∧ ρ 0 = .sl (l.map encVType) ∧ ρ 1 = int m ∧ ρ 2 = str s ∧ ρ 7 = int k ∧ ∀ t ∈ l.take k, (t.name.toList == s.toList) = false, fun ρ _ => m - natOf (ρ 7), ⟨0, Nat.zero_le _, rfl, rfl, rfl, rfl, by simp⟩, ?_⟩
  rintro ρ H ⟨k, hk, h0, h1, h2, h7, hn⟩
  simp only [go_sem, h0, h1, h2, h7]
  refine acond_i (fun hlt => ?_) (fun hge => ?_)
  · have hlt := le_of_lt_b hlt
    obtain ⟨r, hr⟩ := getIn (show k < l.length by omega)
    have b1 := inB (show k < l.length by omega)
    simp only [go_sem, h0, h1, h2, h7, b1, getD_map hr]
    refine acond_i (fun hb => ?_) (fun hb => ?_)
    · simp only [go_sem]
      have : knownR l m s = true := by
        refine List.any_eq_true.2 ⟨r, ?_, hb⟩
        exact List.mem_of_getElem? (i := k) (by rw [List.getElem?_take]; simp [hlt, hr])
      rw [this]; exact .refl _
    · simp only [go_sem, h0, h1, h2, h7, wrapS (show k ≤ 4611686018427387904 by omega)]
      exact ⟨⟨k + 1, hlt, rfl, take_all hr hn hb⟩, by simp only [natOf_int]; omega⟩
  · have hge := eq_of_ge_b hk hge
    subst hge
    simp only [go_sem]
    have : knownR l k s = false := List.any_eq_false.2 fun t ht => by simp [hn t ht]
    rw [this]; exact .refl _
def badPoint (p : Point) : Bool := decide (p.t < 0) || decide (p.t > 4096) || decide (p.a < p.t) || decide (p.a > IntKind.i64.wrap (p.t + 4096))
def noFifo (p q : Point) : Bool := decide (p.t ≤ q.t) || decide (p.a < q.a)
def ptAt (l : List Point) (i : Nat) : Point := l.getD i ⟨0, 0⟩
def badLen (n lo hi : Int) : Bool := decide (n < lo) || decide (n > hi)
def pointFaults (l : List Point) (i : Nat) : List Fault :=
  opt (badPoint (ptAt l i)) ⟨2, decN i⟩ ++ opt (decide ((i : Int) > 0) && noFifo (ptAt l i) (ptAt l (i - 1))) ⟨13, decN i⟩
def travelR (l : List Point) : List Fault := opt (badLen l.length 1 16) ⟨4, ByteArray.empty⟩ ++ (List.range l.length).flatMap (pointFaults l)
theorem pf_len (l : List Point) (i : Nat) : (pointFaults l i).length ≤ 2 := by
  unfold pointFaults
  rw [List.length_append]
  have := opt_len (badPoint (ptAt l i)) (⟨2, decN i⟩ : Fault)
  have := opt_len (decide ((i : Int) > 0) && noFifo (ptAt l i) (ptAt l (i - 1))) (⟨13, decN i⟩ : Fault)
  omega
theorem flat_len_le {α β : Type} {f : α → List β} {c : Nat} (h : ∀ x, (f x).length ≤ c) : ∀ l : List α, (l.flatMap f).length ≤ c * l.length
  | [] => by simp
  | x :: r => by
    have h1 := h x
    have h2 := flat_len_le h r
    simp only [List.flatMap_cons, List.length_append, List.length_cons, Nat.mul_add, Nat.mul_one]
    omega
theorem flat_range_succ {β : Type} (f : Nat → List β) (k : Nat) : (List.range (k + 1)).flatMap f = (List.range k).flatMap f ++ f k := by rw [List.range_succ, List.flatMap_append]; simp
theorem ptAt_get {l : List Point} {k : Nat} {p : Point} (h : l[k]? = some p) : ptAt l k = p := by simp [ptAt, List.getD, h]
theorem travel_c (l : List Point) (hl : l.length ≤ 1048576) : NC Tryz.prog 166 [.sl (l.map encPoint)] (faultRow (travelR l)) .os := by
  refine NC.body (c := Tryz.f166.body.getD .skip) (fun t => t == 3) mixed Tryz.func166 rfl (by kernel_rfl) ?_
  unfold Tryz.f166
  simp only [Option.getD_some]
  simp only [go_sem]
  refine anew_i fun j hj => ?_
  simp only [go_sem]
  refine acond_join (fun ρ H => ∃ j, ρ 0 = .sl (l.map encPoint) ∧ ρ 3 = .os j ∧ H j = some (faultRow (opt (badLen l.length 1 16) ⟨4, ByteArray.empty⟩))) ?_ fun K hK => acond_i (fun hb => ?_) (fun hb => ?_)
  · rintro ρ H ⟨j, h0, h3, hH⟩
    simp only [go_sem, h0, h3]
    generalize hpre : opt (badLen l.length 1 16) (⟨4, ByteArray.empty⟩ : Fault) = pre at hH
    have hpl : pre.length ≤ 1 := by rw [← hpre]; exact opt_len _ _
    refine ⟨fun ρ H => ∃ k : Nat, k ≤ l.length ∧ ρ 0 = .sl (l.map encPoint) ∧ ρ 4 = int k ∧ ∃ j, ρ 3 = .os j ∧ H j = some (faultRow (pre ++ (List.range k).flatMap (pointFaults l))), fun ρ _ => l.length - natOf (ρ 4), ⟨0, Nat.zero_le _, by simp only [go_sem, h0], by simp only [go_sem]; rfl, j, by simp only [go_sem, h3], by simpa using hH⟩, ?_⟩
    rintro ρ H ⟨k, hk, h0, h4, j, h3, hH⟩
    generalize hes : pre ++ (List.range k).flatMap (pointFaults l) = es at hH
    have hlen : es.length ≤ 2 * k + 1 := by
      have := flat_len_le (pf_len l) (List.range k)
      rw [← hes, List.length_append]; rw [List.length_range] at this; omega
    simp only [go_sem, h0, h3, h4]
    refine acond_i (fun hlt => ?_) (fun hge => ?_)
    · have hlt := le_of_lt_b hlt
      obtain ⟨p, hp⟩ := getIn hlt
      have b1 := inB hlt
      simp only [go_sem, h0, h3, h4, b1, getD_map hp]
      refine anew_i fun i hi => ?_
      simp only [go_sem]
      refine wputE_n (r := ⟨134, 2, [[int 0, int 0]]⟩) (by rw [updH_same]) (by simp [encPoint_len]) ?_
      simp only [go_sem]
      have hji : j ≠ i := ne_new hH hi
      have hH' : updH (updH H i (some ⟨134, 2, [[int 0, int 0]]⟩)) i (some ⟨134, 2, [encPoint p]⟩) j = some (faultRow es) := by rw [updH_ne _ _ _ _ hji, updH_ne _ _ _ _ hji, hH]
      refine acond_join (fun ρ' H' => ∃ j', ρ' 0 = .sl (l.map encPoint) ∧ ρ' 4 = int k ∧ ρ' 3 = .os j' ∧ ρ' 5 = .op i 0 0 ∧ H' i = some ⟨134, 2, [encPoint p]⟩ ∧ j' ≠ i ∧
        H' j' = some (faultRow (es ++ opt (badPoint p) ⟨2, decN k⟩))) ?_ fun K hK => acond_i (fun hb => ?_) (fun hb => ?_)
      · rintro ρ H ⟨j, h0, h4, h3, h5, hi, hji, hH⟩
        generalize hfs : es ++ opt (badPoint p) ⟨2, decN k⟩ = fs at hH
        have hfl : fs.length ≤ 2 * k + 2 := by
          have := opt_len (badPoint p) (⟨2, decN k⟩ : Fault)
          rw [← hfs, List.length_append]; omega
        simp only [go_sem]
        refine adraw_q (by rfl) (by kernel_rfl) ?_
        simp only [go_sem, h0, h3, h4, h5, hi]
        obtain ⟨q, hq⟩ := getIn (show k - 1 < l.length by omega)
        simp only [go_sem, h0, h3, h4, h5, hi, wrapP (show k ≤ 4611686018427387904 by omega), getD_map hq]
        have hkk : k ≤ 4611686018427387904 := by omega
        have hg : decide ((k : Int) > 0) = true → 0 ≤ IntKind.i64.wrap ((k : Int) - 1) ∧ IntKind.i64.wrap ((k : Int) - 1) < (l.length : Int) := fun h => by
          have : (k : Int) > 0 := by simpa using h
          rw [wrapQ hkk]; omega
        have hpf : pre ++ (List.range (k + 1)).flatMap (pointFaults l) = fs ++ opt (decide ((k : Int) > 0) && noFifo p q) ⟨13, decN k⟩ := by
          rw [flat_range_succ, ← List.append_assoc, hes, ← hfs, pointFaults, ptAt_get hp, ptAt_get hq, List.append_assoc]
        refine ⟨hg, fun h => hg h.1, acond_joinL (fun ρ' H' => ρ' 0 = .sl (l.map encPoint) ∧ ρ' 4 = int k ∧ ∃ j, ρ' 3 = .os j ∧ H' j = some (faultRow (pre ++ (List.range (k + 1)).flatMap (pointFaults l)))) ?_ fun K hK _ _ => acond_i (fun hb => ?_) (fun hb => ?_)⟩
        · rintro ρ H ⟨h0, h4, j, h3, hH⟩
          simp only [go_sem, h0, h3, h4, wrapS hkk]
          exact ⟨⟨k + 1, hlt, rfl, j, rfl, hH⟩, by simp only [natOf_int]; omega⟩
        · simp only [go_sem, h0, h3, h4]
          refine PC.use (Decimal_c _ (by omega)) ?_
          simp only [go_sem, h0, h3, h4]
          refine wappE_i hH ⟨rfl, rfl⟩ (by simp only [go_sem]) (by simp only [List.length_map, List.length_cons, List.length_nil]; omega) (fun j' hj' => ?_)
          simp only [go_sem, h0, h3, h4]
          refine hK _ _ ⟨by simp only [go_sem, h0], by simp only [go_sem, h4], j', by simp only [go_sem], ?_⟩
          rw [hpf, opt_t (by exact hb)]
          exact row_app (l' := [⟨13, decN k⟩]) rfl
        · simp only [go_sem]
          refine hK _ _ ⟨by simp only [go_sem, h0], by simp only [go_sem, h4], j, by simp only [go_sem, h3], ?_⟩
          rw [hpf, opt_f (by exact hb), List.append_nil, hH]
      · simp only [go_sem, h0, h3, h4]
        refine PC.use (Decimal_c _ (by omega)) ?_
        simp only [go_sem, h0, h3, h4]
        refine wappE_i hH' ⟨rfl, rfl⟩ (by simp only [go_sem]) (by simp only [List.length_map, List.length_cons, List.length_nil]; omega) (fun j' hj' => ?_)
        simp only [go_sem, h0, h3, h4]
        have hi' := updH_same (updH H i (some ⟨134, 2, [[int 0, int 0]]⟩)) i (some ⟨134, 2, [encPoint p]⟩)
        refine hK _ _ ⟨j', by simp only [go_sem, h0], by simp only [go_sem, h4], by simp only [go_sem], by simp only [go_sem], keep_app hi' hji hj', (ne_new hi' hj').symm, ?_⟩
        rw [opt_t (show badPoint p = true from hb)]
        exact row_app (l' := [⟨2, decN k⟩]) rfl
      · simp only [go_sem]
        refine hK _ _ ⟨j, by simp only [go_sem, h0], by simp only [go_sem, h4], by simp only [go_sem, h3], by simp only [go_sem], by rw [updH_same], hji, ?_⟩
        rw [hH', opt_f (show badPoint p = false from hb), List.append_nil]
    · have hge := eq_of_ge_b hk hge
      subst hge
      simp only [go_sem, h3]
      exact ⟨_, rfl, by rw [hH, ← hes, ← hpre]; rfl⟩
  · simp only [go_sem]
    refine wappE_i (r := faultRow []) (by simp only [go_sem]; rfl) ⟨rfl, rfl⟩ (by simp only [go_sem]) (by simp) (fun j' hj' => ?_)
    simp only [go_sem]
    refine hK _ _ ⟨j', rfl, rfl, ?_⟩
    rw [opt_t (by exact hb)]
    exact row_app (l := []) (l' := [⟨4, ByteArray.empty⟩]) rfl
  · simp only [go_sem]
    refine hK _ _ ⟨j, rfl, rfl, ?_⟩
    rw [opt_f (by exact hb), updH_same]; rfl
def strAt (l : List ByteArray) (i : Nat) : ByteArray := l.getD i ByteArray.empty
theorem strAt_get {l : List ByteArray} {k : Nat} {p : ByteArray} (h : l[k]? = some p) : strAt l k = p := by simp [strAt, List.getD, h]
def placeS (i : Nat) : ByteArray := ⟨#[112, 108, 97, 99, 101, 32]⟩ ++ decN i
def sameBefore (l : List ByteArray) (i : Nat) : Bool := (l.take i).any fun s => s.toList == (strAt l i).toList
def placeFaults (l : List ByteArray) (i : Nat) : List Fault := match nameR (strAt l i) with
  | false => [⟨5, placeS i⟩]
  | true => opt (sameBefore l i) ⟨6, placeS i⟩
theorem plf_len (l : List ByteArray) (i : Nat) : (placeFaults l i).length ≤ 1 := by
  unfold placeFaults
  split
  · simp
  · exact opt_len _ _
def placesR (l : List ByteArray) : List Fault := opt (decide ((l.length : Int) > 24)) ⟨4, ⟨#[112, 108, 97, 99, 101, 115]⟩⟩ ++ (List.range l.length).flatMap (placeFaults l)
theorem any_succ {α : Type} {p : α → Bool} {l : List α} {k : Nat} {x : α} (h : l[k]? = some x) : (l.take (k + 1)).any p = ((l.take k).any p || p x) := by rw [take_succ h, List.any_append]; simp
theorem placeS_size (i : Nat) : (placeS i).size ≤ i + 7 := by
  have := decN_size i
  unfold placeS
  rw [ByteArray.size_append]
  have : (⟨#[112, 108, 97, 99, 101, 32]⟩ : ByteArray).size = 6 := rfl
  omega
theorem places_c (n : Network) (hl : n.places.length ≤ 1048576) (hs : ∀ s ∈ n.places, s.size ≤ 1048576) : NC Tryz.prog 114 [.agg (encNetwork n)] (faultRow (placesR n.places)) .os := by
  refine NC.body (c := Tryz.f114.body.getD .skip) (fun t => t == 3) mixed Tryz.func114 rfl (by kernel_rfl) ?_
  unfold Tryz.f114
  simp only [Option.getD_some]
  simp only [go_sem]
  refine anew_i fun j hj => ?_
  simp only [go_sem]
  refine acond_join (fun ρ H => ∃ j, ρ 1 = .rp (encNetwork n) 0 ∧ ρ 3 = .os j ∧ H j = some (faultRow (opt (decide ((n.places.length : Int) > 24)) ⟨4, ⟨#[112, 108, 97, 99, 101, 115]⟩⟩))) ?_ fun K hK => acond_i (fun hb => ?_) (fun hb => ?_)
  · rintro ρ H ⟨j, h1, h3, hH⟩
    simp only [go_sem, h1, h3]
    generalize hpre : opt (decide ((n.places.length : Int) > 24)) (⟨4, ⟨#[112, 108, 97, 99, 101, 115]⟩⟩ : Fault) = pre at hH
    have hpl : pre.length ≤ 1 := by rw [← hpre]; exact opt_len _ _
    refine ⟨fun ρ H => ∃ k : Nat, k ≤ n.places.length ∧ ρ 1 = .rp (encNetwork n) 0 ∧ ρ 4 = int k ∧ ∃ j, ρ 3 = .os j ∧ H j = some (faultRow (pre ++ (List.range k).flatMap (placeFaults n.places))), fun ρ _ => n.places.length - natOf (ρ 4), ⟨0, Nat.zero_le _, by simp only [go_sem, h1], by simp only [go_sem]; rfl, j, by simp only [go_sem, h3], by simpa using hH⟩, ?_⟩
    rintro ρ H ⟨k, hk, h1, h4, j, h3, hH⟩
    generalize hes : pre ++ (List.range k).flatMap (placeFaults n.places) = es at hH
    have hlen : es.length ≤ k + 1 := by
      have := flat_len_le (plf_len n.places) (List.range k)
      rw [← hes, List.length_append]; rw [List.length_range] at this; omega
    simp only [go_sem, h1, h3, h4]
    refine acond_i (fun hlt => ?_) (fun hge => ?_)
    · have hlt := le_of_lt_b hlt
      obtain ⟨p, hp⟩ := getIn hlt
      have b1 := inB hlt
      have hkk : k ≤ 4611686018427387904 := by omega
      have hds := decN_size k
      have hfl : pre ++ (List.range (k + 1)).flatMap (placeFaults n.places) = es ++ placeFaults n.places k := by rw [flat_range_succ, ← List.append_assoc, hes]
      simp only [go_sem, h1, h3, h4]
      refine PC.use (Decimal_c _ (by omega)) ?_
      simp only [go_sem, h1, h3, h4, b1, getD_map hp]
      refine ⟨by rw [i64max]; show ((6 + (decN k).size : Nat) : Int) ≤ _; omega, ?_⟩
      refine PC.use (name_c p (hs p (mem_of_get hp))) ?_
      simp only [go_sem, h1, h3, h4]
      refine acond_i (fun hb => ?_) (fun hb => ?_)
      · simp only [go_sem, h1, h3, h4]
        refine wappE_i hH ⟨rfl, rfl⟩ (by simp only [go_sem]) (by simp only [List.length_map, List.length_cons, List.length_nil]; omega) (fun j' hj' => ?_)
        simp only [go_sem, h1, h3, h4, wrapS hkk]
        refine ⟨⟨k + 1, hlt, rfl, j', rfl, ?_⟩, by simp only [natOf_int]; omega⟩
        have hn : nameR (strAt n.places k) = false := by rw [strAt_get hp]; simpa using hb
        rw [hfl, placeFaults, hn]
        exact row_app (l' := [⟨5, placeS k⟩]) rfl
      · simp only [go_sem, h1, h3, h4]
        have hn : nameR (strAt n.places k) = true := by rw [strAt_get hp]; simpa using hb
        refine ⟨fun ρ H' => ∃ m : Nat, m ≤ k ∧ ρ 1 = .rp (encNetwork n) 0 ∧ ρ 3 = .os j ∧ ρ 4 = int k ∧ ρ 5 = str (placeS k) ∧ ρ 6 = boo ((n.places.take m).any fun s => s.toList == p.toList) ∧ ρ 7 = int m ∧ H' = H, fun ρ _ => k - natOf (ρ 7), ⟨0, Nat.zero_le _, by simp only [go_sem, h1], by simp only [go_sem, h3], by simp only [go_sem, h4], by simp only [go_sem]; rfl, by simp only [go_sem]; rfl, by simp only [go_sem]; rfl, rfl⟩, ?_⟩
        rintro ρ H' ⟨m, hm, h1, h3, h4, h5, h6, h7, rfl⟩
        simp only [go_sem, h1, h3, h4, h5, h6, h7]
        refine acond_i (fun hlt2 => ?_) (fun hge2 => ?_)
        · have hlt2 := le_of_lt_b hlt2
          obtain ⟨q, hq⟩ := getIn (show m < n.places.length by omega)
          have b2 := inB (show m < n.places.length by omega)
          simp only [go_sem]
          refine adraw_q (by rfl) (by kernel_rfl) ?_
          simp only [go_sem, h1, h3, h4, h5, h6, h7, b1, b2, getD_map hp, getD_map hq, wrapS (show m ≤ 4611686018427387904 by omega)]
          refine ⟨⟨m + 1, hlt2, ?_, rfl⟩, by simp only [natOf_int]; omega⟩
          rw [any_succ hq]
        · have hge2 := eq_of_ge_b hm hge2
          subst hge2
          simp only [go_sem, h6]
          have hsb : sameBefore n.places m = (n.places.take m).any fun s => s.toList == p.toList := by unfold sameBefore; rw [strAt_get hp]
          refine acond_joinL (fun ρ' H' => ρ' 1 = .rp (encNetwork n) 0 ∧ ρ' 4 = int m ∧ ∃ j, ρ' 3 = .os j ∧ H' j = some (faultRow (pre ++ (List.range (m + 1)).flatMap (placeFaults n.places)))) ?_ fun K hK _ _ => acond_i (fun hb => ?_) (fun hb => ?_)
          · rintro ρ H ⟨h1, h4, j, h3, hH⟩
            simp only [go_sem, h1, h3, h4, wrapS hkk]
            exact ⟨⟨m + 1, hlt, rfl, j, rfl, hH⟩, by simp only [natOf_int]; omega⟩
          · simp only [go_sem, h1, h3, h4, h5]
            refine wappE_i hH ⟨rfl, rfl⟩ (by simp only [go_sem]) (by simp only [List.length_map, List.length_cons, List.length_nil]; omega) (fun j' hj' => ?_)
            simp only [go_sem]
            refine hK _ _ ⟨by simp only [go_sem, h1], by simp only [go_sem, h4], j', by simp only [go_sem], ?_⟩
            rw [hfl, placeFaults, hn]
            show _ = some (faultRow (es ++ opt (sameBefore n.places m) ⟨6, placeS m⟩))
            rw [opt_t (hsb.trans hb)]
            exact row_app (l' := [⟨6, placeS m⟩]) rfl
          · simp only [go_sem]
            refine hK _ _ ⟨by simp only [go_sem, h1], by simp only [go_sem, h4], j, by simp only [go_sem, h3], ?_⟩
            rw [hfl, placeFaults, hn]
            show _ = some (faultRow (es ++ opt (sameBefore n.places m) ⟨6, placeS m⟩))
            rw [opt_f (hsb.trans hb), List.append_nil, hH]
    · have hge := eq_of_ge_b hk hge
      subst hge
      simp only [go_sem, h3]
      exact ⟨_, rfl, by rw [hH, ← hes, ← hpre]; rfl⟩
  · simp only [go_sem]
    refine wappE_i (r := faultRow []) (by simp only [go_sem]; rfl) ⟨rfl, rfl⟩ (by simp only [go_sem]) (by simp) (fun j' hj' => ?_)
    simp only [go_sem]
    refine hK _ _ ⟨j', rfl, rfl, ?_⟩
    rw [opt_t (by exact hb)]
    exact row_app (l := []) (l' := [⟨4, ⟨#[112, 108, 97, 99, 101, 115]⟩⟩]) rfl
  · simp only [go_sem]
    refine hK _ _ ⟨j, rfl, rfl, ?_⟩
    rw [opt_f (by exact hb), updH_same]; rfl
def vtAt (l : List VType) (i : Nat) : VType := l.getD i ⟨ByteArray.empty, 0, 0, 0, [], 0, 0, 0, 0, 0, 0, 0, 0, 0⟩
theorem vtAt_get {l : List VType} {k : Nat} {p : VType} (h : l[k]? = some p) : vtAt l k = p := by simp [vtAt, List.getD, h]
def typeErrs (n : Network) (l : List VType) (k : Nat) (t : VType) : List Int :=
  [] ++ opt (!nameR t.name) 5 ++ opt (knownR l k t.name) 6 ++ opt (!inR t.count 0 10) 22 ++ opt (!inR t.src 0 (n.places.length - 1) || !inR t.dst 0 (n.places.length - 1)) 11
    ++ opt (!capR t.cap (dimsR l)) 17 ++ opt (!inR t.skills 0 1073741823) 18 ++ opt (!inR t.start 0 t.close || decide (t.close > 4096)) 15
    ++ opt (!inR t.drive 1 4096 || !inR t.rest 0 4096) 16 ++ opt (!inR t.profile 0 7 || !inR t.fixed 0 100000 || !inR t.perMile 0 100 || !inR t.perTick 0 100) 2
theorem trules_c (n : Network) (l : List VType) (k : Nat) (hk : k < l.length) (hl : l.length ≤ 1048576) (hs : ∀ t ∈ l, t.name.size ≤ 1048576 ∧ t.cap.length ≤ 1048576) (hp : n.places.length ≤ 1048576) :
    PC Tryz.prog 117 [.agg (encNetwork n), .sl (l.map encVType), int k] (.sl ((typeErrs n l k (vtAt l k)).map encInt)) := by
  refine PC.body (c := Tryz.f117.body.getD .skip) (fun t => t == 8) mixed Tryz.func117 rfl (by kernel_rfl) ?_
  unfold Tryz.f117
  simp only [Option.getD_some]
  simp only [go_sem]
  obtain ⟨t, ht⟩ := getIn hk
  have b1 := inB hk
  have hst := hs t (mem_of_get ht)
  rw [vtAt_get ht]
  simp only [go_sem, b1, getD_map ht]
  refine anew_i fun i hi => ?_
  simp only [go_sem]
  refine wputE_n (updH_same _ _ _) (by simp [encVType_len]) ?_
  simp only [go_sem]
  refine anew_i fun j hj => ?_
  have hi' := keep_new (r' := (⟨34, 1, []⟩ : Row)) (updH_same _ _ _) hj
  simp only [go_sem, hi']
  refine PC.use (name_c _ hst.1) ?_
  simp only [go_sem]
  refine acond_cut (fun ρ' H' => ρ' 1 = .sl (l.map encVType) ∧ ρ' 2 = int k ∧ ρ' 3 = .rp (encNetwork n) 0 ∧ ρ' 7 = .op i 0 0 ∧ H' i = some (typeRow t) ∧ ∃ j', ρ' 8 = .os j' ∧ j' ≠ i ∧ H' j' = some (errRow [])) ⟨by simp only [go_sem], by simp only [go_sem], by simp only [go_sem], by simp only [go_sem], keep_new (updH_same _ _ _) hj, _, by simp only [go_sem], (ne_new (updH_same _ _ _) hj).symm, updH_same _ _ _⟩ ?_
  rintro ρ H ⟨h1, h2, h3, h7, hi, j, h8, hji, hH⟩
  generalize hes0 : ([] : List Int) = es0 at hH
  have hln0 : es0.length ≤ 0 := by rw [← hes0]; exact Nat.le_refl _
  refine acond_join (fun ρ' H' => ρ' 1 = .sl (l.map encVType) ∧ ρ' 2 = int k ∧ ρ' 3 = .rp (encNetwork n) 0 ∧ ρ' 7 = .op i 0 0 ∧ H' i = some (typeRow t) ∧ ∃ j', ρ' 8 = .os j' ∧ j' ≠ i ∧ H' j' = some (errRow (es0 ++ opt (!nameR t.name) 5))) ?_ fun K hK => acond_i (fun hb => ?_) (fun hb => ?_)
  rotate_left
  · simp only [go_sem, h1, h2, h3, h7, h8]
    refine wappE_i hH ⟨rfl, rfl⟩ (by simp only [go_sem]) (by simp only [List.length_map, List.length_cons, List.length_nil]; omega) (fun j' hj' => ?_)
    simp only [go_sem]
    refine hK _ _ ⟨by simp only [go_sem, h1], by simp only [go_sem, h2], by simp only [go_sem, h3], by simp only [go_sem, h7], keep_app hi hji hj', j', by simp only [go_sem], (ne_new hi hj').symm, ?_⟩
    rw [opt_t (show (!nameR t.name) = true from hb)]
    exact row_appI (l' := [5]) rfl
  · simp only [go_sem]
    refine hK _ _ ⟨by simp only [go_sem, h1], by simp only [go_sem, h2], by simp only [go_sem, h3], by simp only [go_sem, h7], hi, j, by simp only [go_sem, h8], hji, ?_⟩
    rw [opt_f (show (!nameR t.name) = false from hb), List.append_nil, hH]
  clear hH h1 h2 h3 h7 h8
  rintro ρ H ⟨h1, h2, h3, h7, hi, j, h8, hji, hH⟩
  generalize hes1 : es0 ++ opt (!nameR t.name) (5 : Int) = es1 at hH
  have hln1 : es1.length ≤ es0.length + 1 := by rw [← hes1, List.length_append]; have := opt_len (!nameR t.name) (5 : Int); omega
  simp only [go_sem, h1, h2, h3, h7, h8, hi]
  refine PC.use (known_c l k t.name (by omega) hl) ?_
  simp only [go_sem]
  refine acond_join (fun ρ' H' => ρ' 1 = .sl (l.map encVType) ∧ ρ' 2 = int k ∧ ρ' 3 = .rp (encNetwork n) 0 ∧ ρ' 7 = .op i 0 0 ∧ H' i = some (typeRow t) ∧ ∃ j', ρ' 8 = .os j' ∧ j' ≠ i ∧ H' j' = some (errRow (es1 ++ opt (knownR l k t.name) 6))) ?_ fun K hK => acond_i (fun hb => ?_) (fun hb => ?_)
  rotate_left
  · simp only [go_sem, h1, h2, h3, h7, h8]
    refine wappE_i hH ⟨rfl, rfl⟩ (by simp only [go_sem]) (by simp only [List.length_map, List.length_cons, List.length_nil]; omega) (fun j' hj' => ?_)
    simp only [go_sem]
    refine hK _ _ ⟨by simp only [go_sem, h1], by simp only [go_sem, h2], by simp only [go_sem, h3], by simp only [go_sem, h7], keep_app hi hji hj', j', by simp only [go_sem], (ne_new hi hj').symm, ?_⟩
    rw [opt_t (show (knownR l k t.name) = true from hb)]
    exact row_appI (l' := [6]) rfl
  · simp only [go_sem]
    refine hK _ _ ⟨by simp only [go_sem, h1], by simp only [go_sem, h2], by simp only [go_sem, h3], by simp only [go_sem, h7], hi, j, by simp only [go_sem, h8], hji, ?_⟩
    rw [opt_f (show (knownR l k t.name) = false from hb), List.append_nil, hH]
  clear hH h1 h2 h3 h7 h8
  rintro ρ H ⟨h1, h2, h3, h7, hi, j, h8, hji, hH⟩
  generalize hes2 : es1 ++ opt (knownR l k t.name) (6 : Int) = es2 at hH
  have hln2 : es2.length ≤ es1.length + 1 := by rw [← hes2, List.length_append]; have := opt_len (knownR l k t.name) (6 : Int); omega
  simp only [go_sem, h1, h2, h3, h7, h8, hi]
  refine PC.use (in10_c _ _ _) ?_
  simp only [go_sem]
  refine acond_join (fun ρ' H' => ρ' 1 = .sl (l.map encVType) ∧ ρ' 2 = int k ∧ ρ' 3 = .rp (encNetwork n) 0 ∧ ρ' 7 = .op i 0 0 ∧ H' i = some (typeRow t) ∧ ∃ j', ρ' 8 = .os j' ∧ j' ≠ i ∧ H' j' = some (errRow (es2 ++ opt (!inR t.count 0 10) 22))) ?_ fun K hK => acond_i (fun hb => ?_) (fun hb => ?_)
  rotate_left
  · simp only [go_sem, h1, h2, h3, h7, h8]
    refine wappE_i hH ⟨rfl, rfl⟩ (by simp only [go_sem]) (by simp only [List.length_map, List.length_cons, List.length_nil]; omega) (fun j' hj' => ?_)
    simp only [go_sem]
    refine hK _ _ ⟨by simp only [go_sem, h1], by simp only [go_sem, h2], by simp only [go_sem, h3], by simp only [go_sem, h7], keep_app hi hji hj', j', by simp only [go_sem], (ne_new hi hj').symm, ?_⟩
    rw [opt_t (show (!inR t.count 0 10) = true from hb)]
    exact row_appI (l' := [22]) rfl
  · simp only [go_sem]
    refine hK _ _ ⟨by simp only [go_sem, h1], by simp only [go_sem, h2], by simp only [go_sem, h3], by simp only [go_sem, h7], hi, j, by simp only [go_sem, h8], hji, ?_⟩
    rw [opt_f (show (!inR t.count 0 10) = false from hb), List.append_nil, hH]
  clear hH h1 h2 h3 h7 h8
  rintro ρ H ⟨h1, h2, h3, h7, hi, j, h8, hji, hH⟩
  generalize hes3 : es2 ++ opt (!inR t.count 0 10) (22 : Int) = es3 at hH
  have hln3 : es3.length ≤ es2.length + 1 := by rw [← hes3, List.length_append]; have := opt_len (!inR t.count 0 10) (22 : Int); omega
  simp only [go_sem, h1, h2, h3, h7, h8, hi, wrapQ (show n.places.length ≤ 4611686018427387904 by omega)]
  refine PC.use (in10_c _ _ _) ?_
  simp only [go_sem, h1, h2, h3, h7, h8, hi, wrapQ (show n.places.length ≤ 4611686018427387904 by omega)]
  refine ⟨_, fun _ => (in10_c _ _ _).q rfl, ?_⟩
  simp only [go_sem, h1, h2, h3, h7, h8, hi]
  refine acond_join (fun ρ' H' => ρ' 1 = .sl (l.map encVType) ∧ ρ' 2 = int k ∧ ρ' 3 = .rp (encNetwork n) 0 ∧ ρ' 7 = .op i 0 0 ∧ H' i = some (typeRow t) ∧ ∃ j', ρ' 8 = .os j' ∧ j' ≠ i ∧ H' j' = some (errRow (es3 ++ opt (!inR t.src 0 (n.places.length - 1) || !inR t.dst 0 (n.places.length - 1)) 11))) ?_ fun K hK => acond_i (fun hb => ?_) (fun hb => ?_)
  rotate_left
  · simp only [go_sem, h1, h2, h3, h7, h8]
    refine wappE_i hH ⟨rfl, rfl⟩ (by simp only [go_sem]) (by simp only [List.length_map, List.length_cons, List.length_nil]; omega) (fun j' hj' => ?_)
    simp only [go_sem]
    refine hK _ _ ⟨by simp only [go_sem, h1], by simp only [go_sem, h2], by simp only [go_sem, h3], by simp only [go_sem, h7], keep_app hi hji hj', j', by simp only [go_sem], (ne_new hi hj').symm, ?_⟩
    rw [opt_t (show (!inR t.src 0 (n.places.length - 1) || !inR t.dst 0 (n.places.length - 1)) = true from hb)]
    exact row_appI (l' := [11]) rfl
  · simp only [go_sem]
    refine hK _ _ ⟨by simp only [go_sem, h1], by simp only [go_sem, h2], by simp only [go_sem, h3], by simp only [go_sem, h7], hi, j, by simp only [go_sem, h8], hji, ?_⟩
    rw [opt_f (show (!inR t.src 0 (n.places.length - 1) || !inR t.dst 0 (n.places.length - 1)) = false from hb), List.append_nil, hH]
  clear hH h1 h2 h3 h7 h8
  rintro ρ H ⟨h1, h2, h3, h7, hi, j, h8, hji, hH⟩
  generalize hes4 : es3 ++ opt (!inR t.src 0 (n.places.length - 1) || !inR t.dst 0 (n.places.length - 1)) (11 : Int) = es4 at hH
  have hln4 : es4.length ≤ es3.length + 1 := by rw [← hes4, List.length_append]; have := opt_len (!inR t.src 0 (n.places.length - 1) || !inR t.dst 0 (n.places.length - 1)) (11 : Int); omega
  simp only [go_sem, h1, h2, h3, h7, h8, hi]
  refine adraw_q (by rfl) (by kernel_rfl) ?_
  simp only [go_sem, h1, h2, h3, h7, h8, hi]
  refine ⟨_, (dims_c l).q rfl, ?_⟩
  simp only [go_sem, h1, h2, h3, h7, h8, hi]
  refine ⟨_, (cap_c t.cap (dimsR l) hst.2).q rfl, ?_⟩
  simp only [go_sem, h1, h2, h3, h7, h8, hi]
  refine acond_join (fun ρ' H' => ρ' 1 = .sl (l.map encVType) ∧ ρ' 2 = int k ∧ ρ' 3 = .rp (encNetwork n) 0 ∧ ρ' 7 = .op i 0 0 ∧ H' i = some (typeRow t) ∧ ∃ j', ρ' 8 = .os j' ∧ j' ≠ i ∧ H' j' = some (errRow (es4 ++ opt (!capR t.cap (dimsR l)) 17))) ?_ fun K hK => acond_i (fun hb => ?_) (fun hb => ?_)
  rotate_left
  · simp only [go_sem, h1, h2, h3, h7, h8]
    refine wappE_i hH ⟨rfl, rfl⟩ (by simp only [go_sem]) (by simp only [List.length_map, List.length_cons, List.length_nil]; omega) (fun j' hj' => ?_)
    simp only [go_sem]
    refine hK _ _ ⟨by simp only [go_sem, h1], by simp only [go_sem, h2], by simp only [go_sem, h3], by simp only [go_sem, h7], keep_app hi hji hj', j', by simp only [go_sem], (ne_new hi hj').symm, ?_⟩
    rw [opt_t (show (!capR t.cap (dimsR l)) = true from hb)]
    exact row_appI (l' := [17]) rfl
  · simp only [go_sem]
    refine hK _ _ ⟨by simp only [go_sem, h1], by simp only [go_sem, h2], by simp only [go_sem, h3], by simp only [go_sem, h7], hi, j, by simp only [go_sem, h8], hji, ?_⟩
    rw [opt_f (show (!capR t.cap (dimsR l)) = false from hb), List.append_nil, hH]
  clear hH h1 h2 h3 h7 h8
  rintro ρ H ⟨h1, h2, h3, h7, hi, j, h8, hji, hH⟩
  generalize hes5 : es4 ++ opt (!capR t.cap (dimsR l)) (17 : Int) = es5 at hH
  have hln5 : es5.length ≤ es4.length + 1 := by rw [← hes5, List.length_append]; have := opt_len (!capR t.cap (dimsR l)) (17 : Int); omega
  simp only [go_sem, h1, h2, h3, h7, h8, hi]
  refine PC.use (in10_c _ _ _) ?_
  simp only [go_sem, h1, h2, h3, h7, h8, hi]
  refine acond_join (fun ρ' H' => ρ' 1 = .sl (l.map encVType) ∧ ρ' 2 = int k ∧ ρ' 3 = .rp (encNetwork n) 0 ∧ ρ' 7 = .op i 0 0 ∧ H' i = some (typeRow t) ∧ ∃ j', ρ' 8 = .os j' ∧ j' ≠ i ∧ H' j' = some (errRow (es5 ++ opt (!inR t.skills 0 1073741823) 18))) ?_ fun K hK => acond_i (fun hb => ?_) (fun hb => ?_)
  rotate_left
  · simp only [go_sem, h1, h2, h3, h7, h8]
    refine wappE_i hH ⟨rfl, rfl⟩ (by simp only [go_sem]) (by simp only [List.length_map, List.length_cons, List.length_nil]; omega) (fun j' hj' => ?_)
    simp only [go_sem]
    refine hK _ _ ⟨by simp only [go_sem, h1], by simp only [go_sem, h2], by simp only [go_sem, h3], by simp only [go_sem, h7], keep_app hi hji hj', j', by simp only [go_sem], (ne_new hi hj').symm, ?_⟩
    rw [opt_t (show (!inR t.skills 0 1073741823) = true from hb)]
    exact row_appI (l' := [18]) rfl
  · simp only [go_sem]
    refine hK _ _ ⟨by simp only [go_sem, h1], by simp only [go_sem, h2], by simp only [go_sem, h3], by simp only [go_sem, h7], hi, j, by simp only [go_sem, h8], hji, ?_⟩
    rw [opt_f (show (!inR t.skills 0 1073741823) = false from hb), List.append_nil, hH]
  clear hH h1 h2 h3 h7 h8
  rintro ρ H ⟨h1, h2, h3, h7, hi, j, h8, hji, hH⟩
  generalize hes6 : es5 ++ opt (!inR t.skills 0 1073741823) (18 : Int) = es6 at hH
  have hln6 : es6.length ≤ es5.length + 1 := by rw [← hes6, List.length_append]; have := opt_len (!inR t.skills 0 1073741823) (18 : Int); omega
  simp only [go_sem, h1, h2, h3, h7, h8, hi]
  refine PC.use (in10_c _ _ _) ?_
  simp only [go_sem, h1, h2, h3, h7, h8, hi]
  refine acond_join (fun ρ' H' => ρ' 1 = .sl (l.map encVType) ∧ ρ' 2 = int k ∧ ρ' 3 = .rp (encNetwork n) 0 ∧ ρ' 7 = .op i 0 0 ∧ H' i = some (typeRow t) ∧ ∃ j', ρ' 8 = .os j' ∧ j' ≠ i ∧ H' j' = some (errRow (es6 ++ opt (!inR t.start 0 t.close || decide (t.close > 4096)) 15))) ?_ fun K hK => acond_i (fun hb => ?_) (fun hb => ?_)
  rotate_left
  · simp only [go_sem, h1, h2, h3, h7, h8]
    refine wappE_i hH ⟨rfl, rfl⟩ (by simp only [go_sem]) (by simp only [List.length_map, List.length_cons, List.length_nil]; omega) (fun j' hj' => ?_)
    simp only [go_sem]
    refine hK _ _ ⟨by simp only [go_sem, h1], by simp only [go_sem, h2], by simp only [go_sem, h3], by simp only [go_sem, h7], keep_app hi hji hj', j', by simp only [go_sem], (ne_new hi hj').symm, ?_⟩
    rw [opt_t (show (!inR t.start 0 t.close || decide (t.close > 4096)) = true from hb)]
    exact row_appI (l' := [15]) rfl
  · simp only [go_sem]
    refine hK _ _ ⟨by simp only [go_sem, h1], by simp only [go_sem, h2], by simp only [go_sem, h3], by simp only [go_sem, h7], hi, j, by simp only [go_sem, h8], hji, ?_⟩
    rw [opt_f (show (!inR t.start 0 t.close || decide (t.close > 4096)) = false from hb), List.append_nil, hH]
  clear hH h1 h2 h3 h7 h8
  rintro ρ H ⟨h1, h2, h3, h7, hi, j, h8, hji, hH⟩
  generalize hes7 : es6 ++ opt (!inR t.start 0 t.close || decide (t.close > 4096)) (15 : Int) = es7 at hH
  have hln7 : es7.length ≤ es6.length + 1 := by rw [← hes7, List.length_append]; have := opt_len (!inR t.start 0 t.close || decide (t.close > 4096)) (15 : Int); omega
  simp only [go_sem, h1, h2, h3, h7, h8, hi]
  refine PC.use (in10_c _ _ _) ?_
  simp only [go_sem, h1, h2, h3, h7, h8, hi]
  refine ⟨_, fun _ => (in10_c _ _ _).q rfl, ?_⟩
  simp only [go_sem, h1, h2, h3, h7, h8, hi]
  refine acond_join (fun ρ' H' => ρ' 1 = .sl (l.map encVType) ∧ ρ' 2 = int k ∧ ρ' 3 = .rp (encNetwork n) 0 ∧ ρ' 7 = .op i 0 0 ∧ H' i = some (typeRow t) ∧ ∃ j', ρ' 8 = .os j' ∧ j' ≠ i ∧ H' j' = some (errRow (es7 ++ opt (!inR t.drive 1 4096 || !inR t.rest 0 4096) 16))) ?_ fun K hK => acond_i (fun hb => ?_) (fun hb => ?_)
  rotate_left
  · simp only [go_sem, h1, h2, h3, h7, h8]
    refine wappE_i hH ⟨rfl, rfl⟩ (by simp only [go_sem]) (by simp only [List.length_map, List.length_cons, List.length_nil]; omega) (fun j' hj' => ?_)
    simp only [go_sem]
    refine hK _ _ ⟨by simp only [go_sem, h1], by simp only [go_sem, h2], by simp only [go_sem, h3], by simp only [go_sem, h7], keep_app hi hji hj', j', by simp only [go_sem], (ne_new hi hj').symm, ?_⟩
    rw [opt_t (show (!inR t.drive 1 4096 || !inR t.rest 0 4096) = true from hb)]
    exact row_appI (l' := [16]) rfl
  · simp only [go_sem]
    refine hK _ _ ⟨by simp only [go_sem, h1], by simp only [go_sem, h2], by simp only [go_sem, h3], by simp only [go_sem, h7], hi, j, by simp only [go_sem, h8], hji, ?_⟩
    rw [opt_f (show (!inR t.drive 1 4096 || !inR t.rest 0 4096) = false from hb), List.append_nil, hH]
  clear hH h1 h2 h3 h7 h8
  rintro ρ H ⟨h1, h2, h3, h7, hi, j, h8, hji, hH⟩
  generalize hes8 : es7 ++ opt (!inR t.drive 1 4096 || !inR t.rest 0 4096) (16 : Int) = es8 at hH
  have hln8 : es8.length ≤ es7.length + 1 := by rw [← hes8, List.length_append]; have := opt_len (!inR t.drive 1 4096 || !inR t.rest 0 4096) (16 : Int); omega
  simp only [go_sem, h1, h2, h3, h7, h8, hi]
  refine PC.use (in10_c _ _ _) ?_
  simp only [go_sem, h1, h2, h3, h7, h8, hi]
  refine ⟨_, fun _ => (in10_c _ _ _).q rfl, ?_⟩
  simp only [go_sem, h1, h2, h3, h7, h8, hi]
  refine ⟨_, fun _ => (in10_c _ _ _).q rfl, ?_⟩
  simp only [go_sem, h1, h2, h3, h7, h8, hi]
  refine ⟨_, fun _ => (in10_c _ _ _).q rfl, ?_⟩
  simp only [go_sem, h1, h2, h3, h7, h8, hi]
  refine acond_join (fun ρ' H' => ρ' 1 = .sl (l.map encVType) ∧ ρ' 2 = int k ∧ ρ' 3 = .rp (encNetwork n) 0 ∧ ρ' 7 = .op i 0 0 ∧ H' i = some (typeRow t) ∧ ∃ j', ρ' 8 = .os j' ∧ j' ≠ i ∧ H' j' = some (errRow (es8 ++ opt (!inR t.profile 0 7 || !inR t.fixed 0 100000 || !inR t.perMile 0 100 || !inR t.perTick 0 100) 2))) ?_ fun K hK => acond_i (fun hb => ?_) (fun hb => ?_)
  rotate_left
  · simp only [go_sem, h1, h2, h3, h7, h8]
    refine wappE_i hH ⟨rfl, rfl⟩ (by simp only [go_sem]) (by simp only [List.length_map, List.length_cons, List.length_nil]; omega) (fun j' hj' => ?_)
    simp only [go_sem]
    refine hK _ _ ⟨by simp only [go_sem, h1], by simp only [go_sem, h2], by simp only [go_sem, h3], by simp only [go_sem, h7], keep_app hi hji hj', j', by simp only [go_sem], (ne_new hi hj').symm, ?_⟩
    rw [opt_t (show (!inR t.profile 0 7 || !inR t.fixed 0 100000 || !inR t.perMile 0 100 || !inR t.perTick 0 100) = true from hb)]
    exact row_appI (l' := [2]) rfl
  · simp only [go_sem]
    refine hK _ _ ⟨by simp only [go_sem, h1], by simp only [go_sem, h2], by simp only [go_sem, h3], by simp only [go_sem, h7], hi, j, by simp only [go_sem, h8], hji, ?_⟩
    rw [opt_f (show (!inR t.profile 0 7 || !inR t.fixed 0 100000 || !inR t.perMile 0 100 || !inR t.perTick 0 100) = false from hb), List.append_nil, hH]
  clear hH h1 h2 h3 h7 h8
  rintro ρ H ⟨h1, h2, h3, h7, hi, j, h8, hji, hH⟩
  generalize hes9 : es8 ++ opt (!inR t.profile 0 7 || !inR t.fixed 0 100000 || !inR t.perMile 0 100 || !inR t.perTick 0 100) (2 : Int) = es9 at hH
  have hln9 : es9.length ≤ es8.length + 1 := by rw [← hes9, List.length_append]; have := opt_len (!inR t.profile 0 7 || !inR t.fixed 0 100000 || !inR t.perMile 0 100 || !inR t.perTick 0 100) (2 : Int); omega
  simp only [go_sem, h1, h2, h3, h7, h8, hi]
  have hall : typeErrs n l k t = es9 := by unfold typeErrs; rw [hes0, hes1, hes2, hes3, hes4, hes5, hes6, hes7, hes8, hes9]
  rw [hall]
  exact .row _ _ _ hH (ConvE.refl _)
def typeFaults (n : Network) (l : List VType) (k : Nat) : List Fault := (typeErrs n l k (vtAt l k)).map fun e => ⟨e, decN k⟩
def typesR (n : Network) (l : List VType) : List Fault := opt (!inR l.length 1 6) ⟨4, ByteArray.empty⟩ ++ (List.range l.length).flatMap (typeFaults n l)
theorem typeErrs_len (n : Network) (l : List VType) (k : Nat) (t : VType) : (typeErrs n l k t).length ≤ 9 := by
  unfold typeErrs
  simp only [List.length_append, List.length_nil]
  have h := fun (b : Bool) (x : Int) => opt_len b x
  have h1 := h (!nameR t.name) 5
  have h2 := h (knownR l k t.name) 6
  have h3 := h (!inR t.count 0 10) 22
  have h4 := h (!inR t.src 0 (n.places.length - 1) || !inR t.dst 0 (n.places.length - 1)) 11
  have h5 := h (!capR t.cap (dimsR l)) 17
  have h6 := h (!inR t.skills 0 1073741823) 18
  have h7 := h (!inR t.start 0 t.close || decide (t.close > 4096)) 15
  have h8 := h (!inR t.drive 1 4096 || !inR t.rest 0 4096) 16
  have h9 := h (!inR t.profile 0 7 || !inR t.fixed 0 100000 || !inR t.perMile 0 100 || !inR t.perTick 0 100) 2
  omega
theorem map_succ {α β : Type} {f : α → β} {l : List α} {k : Nat} {x : α} (h : l[k]? = some x) : (l.take (k + 1)).map f = (l.take k).map f ++ [f x] := by rw [take_succ h, List.map_append]; rfl
theorem types_c (n : Network) (l : List VType) (hl : l.length ≤ 1048576) (hs : ∀ t ∈ l, t.name.size ≤ 1048576 ∧ t.cap.length ≤ 1048576) (hp : n.places.length ≤ 1048576) :
    NC Tryz.prog 67 [.agg (encNetwork n), .sl (l.map encVType)] (faultRow (typesR n l)) .os := by
  refine NC.body (c := Tryz.f67.body.getD .skip) (fun t => t == 5) mixed Tryz.func67 rfl (by kernel_rfl) ?_
  unfold Tryz.f67
  simp only [Option.getD_some]
  simp only [go_sem]
  refine anew_i fun j hj => ?_
  simp only [go_sem]
  refine PC.use (in10_c _ _ _) ?_
  simp only [go_sem]
  refine acond_cut (fun ρ' H' => ρ' 1 = .sl (l.map encVType) ∧ ρ' 2 = .rp (encNetwork n) 0 ∧ ∃ j', ρ' 5 = .os j' ∧ H' j' = some (faultRow [])) ⟨by simp only [go_sem], by simp only [go_sem], _, by simp only [go_sem], updH_same _ _ _⟩ ?_
  rintro ρ H ⟨h1, h2, j, h5, hH⟩
  generalize hes0 : ([] : List Fault) = es0 at hH
  have hln0 : es0.length ≤ 0 := by rw [← hes0]; exact Nat.le_refl _
  refine acond_join (fun ρ' H' => ρ' 1 = .sl (l.map encVType) ∧ ρ' 2 = .rp (encNetwork n) 0 ∧ ∃ j', ρ' 5 = .os j' ∧ H' j' = some (faultRow (es0 ++ opt (!inR l.length 1 6) ⟨4, ByteArray.empty⟩))) ?_ fun K hK => acond_i (fun hb => ?_) (fun hb => ?_)
  rotate_left
  · simp only [go_sem, h1, h2, h5]
    refine wappE_i hH ⟨rfl, rfl⟩ (by simp only [go_sem]) (by simp only [List.length_map, List.length_cons, List.length_nil]; omega) (fun j' hj' => ?_)
    simp only [go_sem]
    refine hK _ _ ⟨by simp only [go_sem, h1], by simp only [go_sem, h2], j', by simp only [go_sem], ?_⟩
    rw [opt_t (show (!inR l.length 1 6) = true from hb)]
    exact row_app (l' := [⟨4, ByteArray.empty⟩]) rfl
  · simp only [go_sem]
    refine hK _ _ ⟨by simp only [go_sem, h1], by simp only [go_sem, h2], j, by simp only [go_sem, h5], ?_⟩
    rw [opt_f (show (!inR l.length 1 6) = false from hb), List.append_nil, hH]
  clear hH h1 h2 h5
  rintro ρ H ⟨h1, h2, j, h5, hH⟩
  generalize hes1 : es0 ++ opt (!inR l.length 1 6) (⟨4, ByteArray.empty⟩ : Fault) = es1 at hH
  have hln1 : es1.length ≤ es0.length + 1 := by rw [← hes1, List.length_append]; have := opt_len (!inR l.length 1 6) (⟨4, ByteArray.empty⟩ : Fault); omega
  simp only [go_sem, h1, h2]
  refine ⟨fun ρ H => ∃ k : Nat, k ≤ l.length ∧ ρ 1 = .sl (l.map encVType) ∧ ρ 2 = .rp (encNetwork n) 0 ∧ ρ 6 = int k ∧ ∃ j, ρ 5 = .os j ∧ H j = some (faultRow (es1 ++ (List.range k).flatMap (typeFaults n l))), fun ρ _ => l.length - natOf (ρ 6), ⟨0, Nat.zero_le _, by simp only [go_sem, h1], by simp only [go_sem, h2], by simp only [go_sem]; rfl, j, by simp only [go_sem, h5], by simpa using hH⟩, ?_⟩
  clear hH h1 h2 h5 hj
  rintro ρ H ⟨k, hk, h1, h2, h6, j, h5, hH⟩
  generalize hes : es1 ++ (List.range k).flatMap (typeFaults n l) = es at hH
  have hlen : es.length ≤ 9 * k + 1 := by
    have := flat_len_le (f := typeFaults n l) (c := 9) (fun x => by unfold typeFaults; rw [List.length_map]; exact typeErrs_len _ _ _ _) (List.range k)
    rw [← hes, List.length_append]; rw [List.length_range] at this; omega
  simp only [go_sem, h1, h2, h6, h5]
  refine acond_i (fun hlt => ?_) (fun hge => ?_)
  · have hlt := le_of_lt_b hlt
    have hkk : k ≤ 4611686018427387904 := by omega
    have hfl : es1 ++ (List.range (k + 1)).flatMap (typeFaults n l) = es ++ typeFaults n l k := by rw [flat_range_succ, ← List.append_assoc, hes]
    simp only [go_sem, h1, h2, h6]
    refine PC.use (trules_c n l k hlt hl hs hp) ?_
    simp only [go_sem]
    have hel := typeErrs_len n l k (vtAt l k)
    have htf : typeFaults n l k = (typeErrs n l k (vtAt l k)).map fun e => ⟨e, decN k⟩ := rfl
    generalize typeErrs n l k (vtAt l k) = er at hel htf
    refine ⟨fun ρ H => ∃ m : Nat, m ≤ er.length ∧ ρ 1 = .sl (l.map encVType) ∧ ρ 2 = .rp (encNetwork n) 0 ∧ ρ 6 = int k ∧ ρ 7 = .sl (er.map encInt) ∧ ρ 8 = int m ∧ ∃ j, ρ 5 = .os j ∧ H j = some (faultRow (es ++ (er.take m).map fun e => ⟨e, decN k⟩)), fun ρ _ => er.length - natOf (ρ 8), ⟨0, Nat.zero_le _, by simp only [go_sem, h1], by simp only [go_sem, h2], by simp only [go_sem, h6], by simp only [go_sem], by simp only [go_sem]; rfl, j, by simp only [go_sem, h5], by simpa using hH⟩, ?_⟩
    clear hH h1 h2 h5 h6
    rintro ρ H ⟨m, hm, h1, h2, h6, h7, h8, j, h5, hH⟩
    simp only [go_sem, h1, h2, h6, h5, h7, h8]
    refine acond_i (fun hlt2 => ?_) (fun hge2 => ?_)
    · have hlt2 := le_of_lt_b hlt2
      obtain ⟨e, he⟩ := getIn hlt2
      have b2 := inB hlt2
      simp only [go_sem]
      refine adraw_h (by kernel_rfl) ?_
      simp only [go_sem, h1, h2, h6, h5, h7, h8, b2, getD_map he]
      refine ⟨_, (Decimal_c _ (by omega)).q rfl, ?_⟩
      simp only [go_sem]
      refine wappE_i hH ⟨rfl, rfl⟩ (by simp only [go_sem]) (by simp only [List.length_map, List.length_append, List.length_take, List.length_cons, List.length_nil]; omega) (fun j' hj' => ?_)
      simp only [go_sem, h1, h2, h6, h7, h8, wrapS (show m ≤ 4611686018427387904 by omega)]
      refine ⟨⟨m + 1, hlt2, rfl, j', rfl, ?_⟩, by simp only [natOf_int]; omega⟩
      rw [map_succ he, ← List.append_assoc]
      exact row_app (l' := [⟨e, decN k⟩]) rfl
    · have hge2 := eq_of_ge_b hm hge2
      subst hge2
      simp only [go_sem, h1, h2, h6, h5, wrapS hkk]
      refine ⟨⟨k + 1, hlt, rfl, j, rfl, ?_⟩, by simp only [natOf_int]; omega⟩
      rw [hfl, hH, htf, List.take_length]
  · have hge := eq_of_ge_b hk hge
    subst hge
    simp only [go_sem, h5]
    exact ⟨_, rfl, by rw [hH, ← hes, ← hes1, ← hes0]; rfl⟩
end Go.Proofs.YtjohkkigiacbjaaGreatDoor
