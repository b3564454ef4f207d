/- Texts joined by a program: NwA, ScA, ScP, SkB, ScB. -/
import Derived.Lib.ItoaMem
import Derived.Lib.Replace
import Derived.Lib.SplitLaws
import Derived.Lib.IndexBytes
import Derived.WalkKit
import Derived.BigCall
import Derived.Lib.Builder
import Derived.Lib.UnsafeStr
import Derived.Lib.SmallJoins
import Derived.Laws.Externs
import Derived.Test.YtmidcjlidploaaaGreatDoorSb16
import Derived.Test.YtmidcjlidploaaaGreatDoorSb17

section
set_option linter.unusedSimpArgs false
set_option linter.unusedVariables false
namespace Go.Proofs.YtmidcjlidploaaaGreatDoor.Nw
open Go.Aw Go.Aw.D Go.Proofs Ty
open Go.Proofs.YtmidcjlidploaaaGreatDoor (inR digitR letterR nameR byteAt zeroStop badStop windowR rightL decN digitS badPoint noFifo ptAt badLen pointFaults travelR badSlow)
open Go.RowKit (Below)
set_option maxRecDepth 100000
theorem digit_c (c : Int) : PC Tryz.prog 79 [.v (.int .u8 c)] (boo (digitR c)) := by
  refine PC.body (c := Tryz.f79.body.getD .skip) (fun _ => false) mixed Tryz.func79 rfl (by kernel_rfl) ?_
  unfold Tryz.f79
  simp only [Option.getD_some]
  simp only [go_sem]
  exact .refl _
theorem letter_c (c : Int) : PC Tryz.prog 101 [.v (.int .u8 c)] (boo (letterR c)) := by
  refine PC.body (c := Tryz.f101.body.getD .skip) (fun _ => false) mixed Tryz.func101 rfl (by kernel_rfl) ?_
  unfold Tryz.f101
  simp only [Option.getD_some]
  simp only [go_sem]
  exact .refl _
theorem cI {H : Heap} {k : IntKind} {a b : Int} (h : a = b) : Conv H (.v (.int k a)) (.v (.int k b)) := h ▸ .refl _
theorem cB {H : Heap} {a b : Bool} (h : a = b) : Conv H (.v (.bool a)) (.v (.bool b)) := h ▸ .refl _
theorem ltB {k n : Nat} (h : decide ((k : Int) < (n : Int)) = true) : k < n := le_of_lt_b h
theorem geB {k n : Nat} (hk : k ≤ n) (h : decide ((k : Int) < (n : Int)) = false) : k = n := eq_of_ge_b hk h
theorem take_allP {α : Type} {l : List α} {k : Nat} {a : α} {p : α → Prop} (h : l[k]? = some a) (ha : p a) (hz : ∀ x ∈ l.take k, p x) : ∀ x ∈ l.take (k + 1), p x := by
  intro x hx
  rw [List.take_add_one, h, Option.toList_some] at hx
  rcases List.mem_append.1 hx with hx | hx
  · exact hz x hx
  · simp at hx; subst hx; exact ha
theorem empty_b (s : ByteArray) : (s.toList == (⟨#[]⟩ : ByteArray).toList) = decide ((s.size : Int) < 1) := by
  by_cases h : s.size = 0
  · have : s = ⟨#[]⟩ := by
      apply ByteArray.ext
      exact Array.eq_empty_of_size_eq_zero h
    subst this
    decide +kernel
  · rw [decide_eq_false (by omega)]
    have : s ≠ ⟨#[]⟩ := fun e => h (by rw [e]; rfl)
    exact Bool.eq_false_iff.2 fun h => this (bytes_ext (by simpa using h))
theorem name_c (s : ByteArray) (hl : s.size ≤ 1048576) : PC Tryz.prog 63 [str s] (boo (nameR s)) := by
  refine PC.body (c := Tryz.f63.body.getD .skip) (fun _ => false) mixed Tryz.func63 rfl (by kernel_rfl) ?_
  unfold Tryz.f63
  simp only [Option.getD_some]
  simp only [go_sem]
  rw [empty_b]
  refine ⟨fun h => ⟨by omega, by simp at h; omega⟩, _, fun _ => (digit_c _).q rfl, ?_⟩
  simp only [go_sem]
  refine acond_i (fun hd => ?_) (fun hd => ?_)
  · simp only [go_sem]
    have : nameR s = false := by unfold nameR; rw [if_pos (by exact hd)]
    rw [this]; exact .refl _
  · simp only [go_sem]
    refine ⟨fun ρ _ => ∃ k : Nat, k ≤ s.size ∧ ρ 0 = str s ∧ ρ 17 = int s.size ∧ ρ 18 = int k ∧ ∀ i ∈ (List.range s.size).take k, (letterR (byteAt s i) || digitR (byteAt s i)) = true, fun ρ _ => s.size - natOf (ρ 18), ⟨0, Nat.zero_le _, rfl, rfl, rfl, by simp⟩, ?_⟩
    rintro ρ H ⟨k, hk, h0, h17, h18, hn⟩
    simp only [go_sem, h0, h17, h18]
    refine acond_i (fun hlt => ?_) (fun hge => ?_)
    · have hlt := le_of_lt_b hlt
      have b1 := inB hlt
      simp only [go_sem, h0, h17, h18, b1]
      refine PC.use (letter_c _) ?_
      simp only [go_sem, h0, h17, h18, b1]
      refine ⟨_, fun _ => (digit_c _).q rfl, ?_⟩
      simp only [go_sem]
      refine acond_i (fun hb => ?_) (fun hb => ?_)
      · simp only [go_sem]
        have : nameR s = false := by unfold nameR; rw [if_neg (by intro h; exact absurd (h.symm.trans hd) (by simp))]; exact all_miss (mem_of_get (range_get hlt)) (by simpa [byteAt] using hb)
        rw [this]; exact .refl _
      · simp only [go_sem, h0, h17, h18, wrapS (show k ≤ 4611686018427387904 by omega)]
        exact ⟨⟨k + 1, hlt, rfl, take_all (range_get hlt) hn (by
          have : (!letterR (byteAt s k) && !digitR (byteAt s k)) = false := hb
          revert this; cases letterR (byteAt s k) <;> cases digitR (byteAt s k) <;> simp)⟩, by simp only [natOf_int]; omega⟩
    · have hge := eq_of_ge_b hk hge
      subst hge
      simp only [go_sem]
      have : nameR s = true := by unfold nameR; rw [if_neg (by intro h; exact absurd (h.symm.trans hd) (by simp))]; exact all_take fun n h => hn n (by rw [List.take_of_length_le (by simp)]; exact h)
      rw [this]; exact .refl _
theorem decN_eq : ∀ n : Nat, decN n = ⟨(Lib.decDigits n).toArray⟩ := by
  intro n
  induction n using Nat.strongRecOn with
  | ind n ih =>
    rw [decN, Lib.decDigits]
    have e : ∀ k : Nat, k < 10 → digitS (k : Int) = ⟨#[UInt8.ofNat (48 + k)]⟩ := fun k hk => by
      have : k = 0 ∨ k = 1 ∨ k = 2 ∨ k = 3 ∨ k = 4 ∨ k = 5 ∨ k = 6 ∨ k = 7 ∨ k = 8 ∨ k = 9 := by omega
      rcases this with rfl | rfl | rfl | rfl | rfl | rfl | rfl | rfl | rfl | rfl <;> rfl
    split
    · next h => rw [e n h]
    · next h =>
      rw [ih (n / 10) (by omega), e (n % 10) (by omega)]
      apply ByteArray.ext
      simp [ByteArray.data_append]
theorem tab_of {w : World} (h : ∀ t ∈ tabL, t.2 (varCells w t.1)) : Lib.TabIs Tryz.prog w "internal/strconv.uint64pow10" .u64 Lib.pow10Tab := by
  have h1 : varCells w 3 = some powTab := h (3, isTab powTab) (by simp [tabL])
  unfold Lib.TabIs World.var?
  rw [show Tryz.prog.globalNamed "internal/strconv.uint64pow10" = some 3 by kernel_rfl]
  exact h1
theorem grow_below {w : World} (k : Nat) (os : Array Obj) : Below w.heap.size w (Go.Sort.grow (w.drewN k) os) := by
  refine ⟨rfl, rfl, rfl, ?_, fun i hi => ?_⟩
  · simp [Go.Sort.grow]
  · simp only [Go.Sort.grow, World.heap_drewN]
    rw [Array.getElem?_append_left hi]
theorem itoa_c (n : Nat) (hn : n ≤ 4611686018427387904) : PC Tryz.prog 48 [int n] (str (decN n)) := by
  refine PC.lib (a := [.int .i64 n]) (v := .string (decN n)) (fun S w => rfl) fun w ht => (Tryz.strconv_Itoa n (by omega) (by omega) w (tab_of ht)).mono fun e w' ⟨he, k, os, hw⟩ => ?_
  rw [hw]
  exact ⟨by rw [he, decN_eq]; rfl, grow_below k os⟩
theorem decimal_c (n : Nat) (hn : n ≤ 4611686018427387904) : PC Tryz.prog 22 [int n] (str (decN n)) := by
  refine PC.body (c := Tryz.f22.body.getD .skip) (fun _ => false) mixed Tryz.func22 rfl (by kernel_rfl) ?_
  unfold Tryz.f22
  simp only [Option.getD_some]
  simp only [go_sem]
  refine PC.use (itoa_c n hn) ?_
  simp only [go_sem]
  exact .refl _
theorem ntick_c (n : Int) : PC Tryz.prog 180 [int n] (boo (inR n 0 4096)) := by
  refine PC.body (c := Tryz.f180.body.getD .skip) (fun _ => false) mixed Tryz.func180 rfl (by kernel_rfl) ?_
  unfold Tryz.f180
  simp only [Option.getD_some]
  simp only [go_sem]
  exact .refl _
theorem within_c (n a b : Int) : PC Tryz.prog 179 [int n, int a, int b] (boo (inR n a b)) := by
  refine PC.body (c := Tryz.f179.body.getD .skip) (fun _ => false) mixed Tryz.func179 rfl (by kernel_rfl) ?_
  unfold Tryz.f179
  simp only [Option.getD_some]
  simp only [go_sem]
  exact .refl _
theorem fwithin_c (n a b : Int) : PC Tryz.prog 93 [int n, int a, int b] (boo (inR n a b)) := by
  refine PC.body (c := Tryz.f93.body.getD .skip) (fun _ => false) mixed Tryz.func93 rfl (by kernel_rfl) ?_
  unfold Tryz.f93
  simp only [Option.getD_some]
  simp only [go_sem]
  exact .refl _
theorem owithin_c (n a b : Int) : PC Tryz.prog 142 [int n, int a, int b] (boo (inR n a b)) := by
  refine PC.body (c := Tryz.f142.body.getD .skip) (fun _ => false) mixed Tryz.func142 rfl (by kernel_rfl) ?_
  unfold Tryz.f142
  simp only [Option.getD_some]
  simp only [go_sem]
  exact .refl _
theorem wtick_c (n : Int) : PC Tryz.prog 185 [int n] (boo (inR n 0 4096)) := by
  refine PC.body (c := Tryz.f185.body.getD .skip) (fun _ => false) mixed Tryz.func185 rfl (by kernel_rfl) ?_
  unfold Tryz.f185
  simp only [Option.getD_some]
  simp only [go_sem]
  exact .refl _
theorem nplace_c (n : Network) (i : Int) : PC Tryz.prog 131 [.agg (encNetwork n), int i] (boo (decide (i ≥ 0) && decide (i < (n.places.length : Int)))) := by
  refine PC.body (c := Tryz.f131.body.getD .skip) (fun _ => false) mixed Tryz.func131 rfl (by kernel_rfl) ?_
  unfold Tryz.f131
  simp only [Option.getD_some]
  simp only [go_sem]
  exact .refl _
def wayA (a : Arc) : List AV := [int a.src, int a.dst, int a.profile]
theorem wayOf_c (a : Arc) : PC Tryz.prog 92 [.agg (encArc a)] (.agg (wayA a)) := by
  refine PC.body (c := Tryz.f92.body.getD .skip) (fun _ => false) mixed Tryz.func92 rfl (by kernel_rfl) ?_
  unfold Tryz.f92
  simp only [Option.getD_some]
  simp only [go_sem]
  refine anew_i fun j hj => ?_
  simp only [go_sem]
  refine wputE_n (updH_same _ _ _) (by simp) ?_
  have R : ∀ H q, updH H j q j = q := fun H q => updH_same _ _ _
  simp only [go_sem, R]
  exact .refl _
theorem wcheck_c (s : Stop) : PC Tryz.prog 143 [.agg (encStop s)] (int (windowR s)) := by
  refine PC.body (c := Tryz.f143.body.getD .skip) (fun _ => false) mixed Tryz.func143 rfl (by kernel_rfl) ?_
  unfold Tryz.f143
  simp only [Option.getD_some]
  simp only [go_sem]
  refine anew_i fun j hj => ?_
  simp only [go_sem]
  refine wputE_n (updH_same _ _ _) (by simp) ?_
  have R : ∀ H q, updH H j q j = q := fun H q => updH_same _ _ _
  simp only [go_sem, R]
  refine ⟨_, fun _ => (wtick_c _).q rfl, ?_⟩
  simp only [go_sem]
  refine ⟨_, fun _ => (wtick_c _).q rfl, ?_⟩
  simp only [go_sem]
  refine ⟨_, fun _ => (wtick_c _).q rfl, ?_⟩
  simp only [go_sem]
  refine acond_i (fun hb => ?_) (fun hb => ?_)
  · simp only [go_sem]
    refine cI ?_
    simp only [inR, Bool.or_eq_true, Bool.and_eq_true, decide_eq_true_eq, beq_iff_eq] at hb
    have : zeroStop s = true ∨ badStop s = false := by
      unfold zeroStop badStop
      simp only [Bool.and_eq_true, beq_iff_eq, Bool.or_eq_false_iff, decide_eq_false_iff_not]
      omega
    unfold windowR
    rcases this with h | h
    · rw [if_pos h]
    · rw [h]
      split <;> rfl
  · simp only [go_sem]
    refine cI ?_
    simp only [inR, Bool.and_true, Bool.or_eq_false_iff, Bool.and_eq_false_iff, decide_eq_false_iff_not, beq_eq_false_iff_ne] at hb
    have h1 : zeroStop s = false := by
      unfold zeroStop
      simp only [Bool.and_eq_false_iff, beq_eq_false_iff_ne]
      omega
    have h2 : badStop s = true := by
      unfold badStop
      simp only [Bool.or_eq_true, decide_eq_true_eq]
      omega
    unfold windowR
    rw [h1, h2]
    rfl
theorem lright_c (l : List Int) (d : Int) (hl : l.length ≤ 1048576) : PC Tryz.prog 141 [.sl (l.map encInt), int d] (boo (rightL l d)) := by
  refine PC.body (c := Tryz.f141.body.getD .skip) (fun _ => false) mixed Tryz.func141 rfl (by kernel_rfl) ?_
  unfold Tryz.f141
  simp only [Option.getD_some]
  simp only [go_sem]
  refine ⟨fun ρ H => ∃ (k : Nat), k ≤ l.length ∧ ρ 0 = .sl (l.map encInt) ∧ ρ 1 = int d ∧ ρ 7 = .sl (l.map encInt) ∧ ρ 8 = int (l.length : Nat) ∧ ρ 9 = int k ∧ (∀ n ∈ l.take k, (decide (n < 0) || decide (n > 1000)) = false), fun ρ _ => l.length - natOf (ρ 9), ⟨0, Nat.zero_le _, by simp only [go_sem], by simp only [go_sem], by simp only [go_sem], by simp only [go_sem, List.length_map], (by simp only [go_sem]; rfl), by simp⟩, ?_⟩
  rintro ρ H ⟨k, hk, e0, e1, e7, e8, e9, hz⟩
  simp only [go_sem, e0, e1, e7, e8, e9]
  refine acond_i (fun hlt => ?_) (fun hge => ?_)
  · have hlt := ltB (by simpa using hlt)
    obtain ⟨a, ha⟩ := getIn hlt
    have b1 := inB hlt
    simp only [go_sem, e0, e1, e7, e8, e9, getD_map ha, b1]
    refine acond_i (fun hb => ?_) (fun hb => ?_)
    · simp only [go_sem]
      refine cB ?_
      unfold rightL
      split
      · exact (List.all_eq_false.2 ⟨a, mem_of_get ha, by rw [hb]; simp⟩).symm
      · rfl
    · simp only [go_sem, e0, e1, e7, e8, e9, wrapS (show k ≤ 4611686018427387904 by omega)]
      exact ⟨⟨k + 1, hlt, rfl, take_allP (p := fun n => (decide (n < 0) || decide (n > 1000)) = false) ha hb hz⟩, by simp only [natOf_int]; omega⟩
  · have hge := geB hk hge
    subst hge
    simp only [go_sem, e0, e1, e7, e8, e9]
    refine cB ?_
    unfold rightL
    rw [List.take_of_length_le (Nat.le_refl _)] at hz
    split
    · next h =>
      rw [List.all_eq_true.2 fun n hn => by rw [hz n hn]; rfl]
      simpa using h
    · next h => simpa using h
def numB (o : Order) (T : Int) : Bool := inR o.penalty (-1) 1000000 && inR o.split 1 4 && (o.split == 1 || o.pick.place == -1 || o.drop.place == -1) && decide (o.last ≥ -1) && decide (o.last < T) && decide (o.now ≥ -1) && decide (o.now < T)
theorem numB_ref (o : Order) (T : Int) : (!numB o T) = (!inR o.penalty (-1) 1000000 || !inR o.split 1 4 || decide (o.split > 1) && (o.pick.place != -1 && o.drop.place != -1) || decide (o.last < -1) || decide (o.last ≥ T) || decide (o.now < -1) || decide (o.now ≥ T)) := by
  rw [Bool.eq_iff_iff]
  unfold numB inR
  simp only [Bool.not_eq_true', Bool.or_eq_true, Bool.and_eq_true, Bool.and_eq_false_iff, Bool.or_eq_false_iff, decide_eq_true_eq, decide_eq_false_iff_not, beq_eq_false_iff_ne, bne_iff_ne, ne_eq]
  omega
theorem onumbers_c (o : Order) (T : Int) : PC Tryz.prog 144 [.agg (encOrder o), int T] (boo (numB o T)) := by
  refine PC.body (c := Tryz.f144.body.getD .skip) (fun _ => false) mixed Tryz.func144 rfl (by kernel_rfl) ?_
  unfold Tryz.f144
  simp only [Option.getD_some]
  simp only [go_sem]
  refine PC.use (owithin_c _ _ _) ?_
  simp only [go_sem]
  refine ⟨_, fun _ => (owithin_c _ _ _).q rfl, ?_⟩
  simp only [go_sem]
  exact cB rfl
end Go.Proofs.YtmidcjlidploaaaGreatDoor.Nw
end

section
set_option linter.unusedSimpArgs false
set_option linter.unusedVariables false
namespace Go.Proofs.YtmidcjlidploaaaGreatDoor.Sc
open Go.Aw Go.Aw.D Go.Proofs Ty
open Go.Proofs.YtmidcjlidploaaaGreatDoor.Nw
open Go.Proofs.YtmidcjlidploaaaGreatDoor
set_option maxRecDepth 100000
def decZ (n : Int) : ByteArray := if n < 0 then ⟨#[45]⟩ ++ decN n.natAbs else decN n.toNat
def i64B (n : Int) : Prop := -9223372036854775808 ≤ n ∧ n ≤ 9223372036854775807
theorem decZ_eq (n : Int) : decZ n = ⟨(Lib.itoa n).toArray⟩ := by
  unfold decZ Lib.itoa
  split
  · rw [decN_eq]
    apply ByteArray.ext
    simp [ByteArray.data_append]
  · rw [decN_eq]
theorem decN_size20 : ∀ (k n : Nat), n < 10 ^ (k + 1) → (decN n).size ≤ k + 1 := by
  intro k
  induction k with
  | zero => intro n h; rw [decN_last (by omega), digitS_size]; omega
  | succ k ih =>
    intro n h
    rcases Nat.lt_or_ge n 10 with h1 | h1
    · rw [decN_last h1, digitS_size]; omega
    · rw [decN_step h1, ByteArray.size_append, digitS_size]
      have := ih (n / 10) (by rw [Nat.pow_succ] at h; omega)
      omega
theorem decZ_size {n : Int} (h : i64B n) : (decZ n).size ≤ 21 := by
  unfold decZ
  split
  · have := decN_size20 19 n.natAbs (by have := h.1; omega)
    rw [ByteArray.size_append]
    have : (⟨#[45]⟩ : ByteArray).size = 1 := rfl
    omega
  · have := decN_size20 19 n.toNat (by have := h.2; omega)
    omega
theorem itoaZ_c (n : Int) (h : i64B n) : PC Tryz.prog 48 [int n] (str (decZ n)) := by
  refine PC.lib (a := [.int .i64 n]) (v := .string (decZ n)) (fun S w => rfl) fun w ht => (Tryz.strconv_Itoa n h.1 h.2 w (tab_of ht)).mono fun e w' ⟨he, k, os, hw⟩ => ?_
  rw [hw]
  exact ⟨by rw [he, decZ_eq], grow_below k os⟩
theorem decimalZ_c (n : Int) (h : i64B n) : PC Tryz.prog 22 [int n] (str (decZ n)) := by
  refine PC.body (c := Tryz.f22.body.getD .skip) (fun _ => false) mixed Tryz.func22 rfl (by kernel_rfl) ?_
  unfold Tryz.f22
  simp only [Option.getD_some]
  simp only [go_sem]
  refine PC.use (itoaZ_c n h) ?_
  simp only [go_sem]
  exact .refl _
theorem code_c (n : Int) (h : i64B n) : PC Tryz.prog 23 [int n] (str (decZ n)) := by
  refine PC.body (c := Tryz.f23.body.getD .skip) (fun _ => false) mixed Tryz.func23 rfl (by kernel_rfl) ?_
  unfold Tryz.f23
  simp only [Option.getD_some]
  simp only [go_sem]
  refine PC.use (decimalZ_c n h) ?_
  simp only [go_sem]
  exact .refl _
end Go.Proofs.YtmidcjlidploaaaGreatDoor.Sc
end

section
set_option linter.unusedSimpArgs false
set_option linter.unusedVariables false
namespace Go.Proofs.YtmidcjlidploaaaGreatDoor.Sc
open Go.Aw Go.Aw.D Go.Proofs Ty
open Go.Proofs.YtmidcjlidploaaaGreatDoor.Nw
open Go.Proofs.YtmidcjlidploaaaGreatDoor
set_option maxRecDepth 100000
def catB : List ByteArray → ByteArray
  | [] => ⟨#[]⟩
  | a :: r => a ++ catB r
def tailB (s : ByteArray) (l : List ByteArray) : ByteArray := catB (l.map (s ++ ·))
def joinB (s : ByteArray) : List ByteArray → ByteArray
  | [] => ⟨#[]⟩
  | a :: r => a ++ tailB s r
theorem nil_app (a : ByteArray) : (⟨#[]⟩ : ByteArray) ++ a = a := ByteArray.empty_append
theorem app_nil (a : ByteArray) : a ++ (⟨#[]⟩ : ByteArray) = a := ByteArray.append_empty
theorem app_assoc (a b c : ByteArray) : a ++ b ++ c = a ++ (b ++ c) := ByteArray.append_assoc
theorem catB_app : ∀ (l m : List ByteArray), catB (l ++ m) = catB l ++ catB m
  | [], m => (nil_app _).symm
  | a :: r, m => by rw [List.cons_append, catB, catB, catB_app r m, app_assoc]
theorem catB_one (a : ByteArray) : catB [a] = a := app_nil a
theorem catB_take {α : Type} {f : α → ByteArray} {l : List α} {k : Nat} {x : α} (h : l[k]? = some x) : catB ((l.take (k + 1)).map f) = catB ((l.take k).map f) ++ f x := by
  rw [List.take_add_one, h, Option.toList_some, List.map_append, catB_app, List.map_cons, List.map_nil, catB_one]
theorem tailB_nil (s : ByteArray) : tailB s [] = ⟨#[]⟩ := rfl
theorem tailB_cons (s a : ByteArray) (r : List ByteArray) : tailB s (a :: r) = s ++ (a ++ tailB s r) := by
  show s ++ a ++ tailB s r = _
  rw [app_assoc]
theorem joinB_cons (s a : ByteArray) (r : List ByteArray) : joinB s (a :: r) = a ++ tailB s r := rfl
theorem catB_size {B : Nat} : ∀ l : List ByteArray, (∀ a ∈ l, a.size ≤ B) → (catB l).size ≤ l.length * B
  | [], _ => Nat.zero_le _
  | a :: r, h => by
    have := catB_size r fun x hx => h x (by simp [hx])
    have := h a (by simp)
    rw [catB, ByteArray.size_append, List.length_cons, Nat.add_mul]
    omega
theorem tailB_size {s : ByteArray} {B : Nat} (l : List ByteArray) (h : ∀ a ∈ l, a.size ≤ B) : (tailB s l).size ≤ l.length * (s.size + B) := by
  have := catB_size (B := s.size + B) (l.map (s ++ ·)) fun a ha => by
    obtain ⟨x, hx, rfl⟩ := List.mem_map.1 ha
    rw [ByteArray.size_append]
    have := h x hx
    omega
  rwa [List.length_map] at this
theorem joinB_size {s : ByteArray} {B : Nat} (l : List ByteArray) (h : ∀ a ∈ l, a.size ≤ B) : (joinB s l).size ≤ l.length * (s.size + B) := by
  cases l with
  | nil => exact Nat.zero_le _
  | cons a r =>
    have := tailB_size (s := s) r fun x hx => h x (by simp [hx])
    have := h a (by simp)
    rw [joinB_cons, ByteArray.size_append, List.length_cons, Nat.add_mul]
    omega
theorem join_eq (s : ByteArray) (l : List ByteArray) : (⟨(Lib.join (l.map (·.data.toList)) s.data.toList).toArray⟩ : ByteArray) = joinB s l := by
  have cat : ∀ r : List ByteArray, (⟨(Lib.joinTail s.data.toList (r.map (·.data.toList))).toArray⟩ : ByteArray) = tailB s r := by
    intro r
    induction r with
    | nil => rfl
    | cons a r ih =>
      rw [tailB_cons, ← ih]
      apply ByteArray.ext
      simp [Lib.joinTail, ByteArray.data_append]
  cases l with
  | nil => rfl
  | cons a r =>
    rw [List.map_cons, Lib.join_cons, joinB_cons, ← cat r]
    apply ByteArray.ext
    simp [ByteArray.data_append]
theorem replaceK_ne {a c : UInt8} (new : List UInt8) (h : c ≠ a) (k : Nat) (l : List UInt8) : Lib.replaceK [a] new k (c :: l) = c :: Lib.replaceK [a] new k l := by
  cases k with
  | zero => rfl
  | succ k =>
    have hi : Lib.index (c :: l) [a] = if Lib.index l [a] == -1 then -1 else Lib.index l [a] + 1 := by
      rw [Lib.index, if_neg (by simp [List.isPrefixOf]; exact fun e => h e.symm)]
    rw [Lib.replaceK, Lib.replaceK, hi]
    have hge := Lib.index_ge l [a]
    by_cases h1 : (Lib.index l [a] == -1) = true
    · rw [if_pos h1, if_pos h1, if_pos (by decide)]
    · have h2 : Lib.index l [a] ≠ -1 := by simpa using h1
      rw [if_neg h1, if_neg h1, if_neg (by simp; omega)]
      obtain ⟨i, hi⟩ : ∃ i : Nat, Lib.index l [a] = i := ⟨(Lib.index l [a]).toNat, by omega⟩
      rw [hi, show ((i : Int) + 1).toNat = i + 1 by omega, show ((i : Int)).toNat = i by omega]
      simp [show i + 1 + 1 = (i + 1) + 1 from rfl]
theorem replaceK_eq {a : UInt8} (new : List UInt8) (k : Nat) (l : List UInt8) : Lib.replaceK [a] new (k + 1) (a :: l) = new ++ Lib.replaceK [a] new k l := by
  have hi : Lib.index (a :: l) [a] = 0 := by rw [Lib.index, if_pos (by simp [List.isPrefixOf])]
  rw [Lib.replaceK, hi]
  simp
theorem replaceAll_one {a b : UInt8} (hab : a ≠ b) (s : List UInt8) : Lib.replaceAll s [a] [b] = s.map fun c => if c = a then b else c := by
  unfold Lib.replaceAll Lib.replace
  rw [if_neg (by simpa using hab)]
  have : Lib.replaceNum s [a] (-1) = Lib.count s [a] := by unfold Lib.replaceNum; rw [if_pos (.inl (by decide))]
  rw [this]
  induction s with
  | nil => cases h : Lib.count [] [a] <;> simp [Lib.replaceK, Lib.index]
  | cons c l ih =>
    by_cases h : c = a
    · subst h
      rw [Lib.count_cons_eq, Nat.add_comm, replaceK_eq, ih (by unfold Lib.replaceNum; rw [if_pos (.inl (by decide))])]
      simp
    · rw [Lib.count_cons_ne c a l h, replaceK_ne _ h, ih (by unfold Lib.replaceNum; rw [if_pos (.inl (by decide))])]
      simp [h]
def turnB (a b : UInt8) (s : ByteArray) : ByteArray := ⟨(s.data.toList.map fun c => if c = a then b else c).toArray⟩
theorem turnB_app (a b : UInt8) (s t : ByteArray) : turnB a b (s ++ t) = turnB a b s ++ turnB a b t := by
  unfold turnB
  apply ByteArray.ext
  simp [ByteArray.data_append]
theorem turnB_not {a b : UInt8} {s : ByteArray} (h : ∀ c ∈ s.data.toList, c ≠ a) : turnB a b s = s := by
  unfold turnB
  apply ByteArray.ext
  have : (s.data.toList.map fun c => if c = a then b else c) = s.data.toList := by
    rw [List.map_congr_left (g := id) fun c hc => by rw [if_neg (h c hc)]; rfl, List.map_id]
  rw [this]
theorem digit_bytes : ∀ n : Nat, n < 10 → ∀ c ∈ (digitS (n : Int)).data.toList, c ≠ 44 := by decide +kernel
theorem decN_bytes : ∀ n : Nat, ∀ c ∈ (decN n).data.toList, c ≠ 44 := by
  intro n
  induction n using Nat.strongRecOn with
  | ind n ih =>
    rcases Nat.lt_or_ge n 10 with h1 | h1
    · rw [decN_last h1]; exact digit_bytes _ h1
    · rw [decN_step h1]
      intro c hc
      rw [ByteArray.data_append, Array.toList_append, List.mem_append] at hc
      rcases hc with hc | hc
      · exact ih (n / 10) (by omega) c hc
      · exact digit_bytes (n % 10) (by omega) c hc
theorem decZ_bytes (n : Int) : ∀ c ∈ (decZ n).data.toList, c ≠ 44 := by
  intro c hc
  unfold decZ at hc
  split at hc
  · rw [ByteArray.data_append, Array.toList_append, List.mem_append] at hc
    rcases hc with hc | hc
    · simp at hc; subst hc; decide
    · exact decN_bytes _ c hc
  · exact decN_bytes _ c hc
theorem turn_tail (l : List Int) : turnB 44 58 (tailB ⟨#[44]⟩ (l.map decZ)) = tailB ⟨#[58]⟩ (l.map decZ) := by
  induction l with
  | nil => rfl
  | cons a l ih => rw [List.map_cons, tailB_cons, tailB_cons, turnB_app, turnB_app, ih, turnB_not (decZ_bytes a)]; rfl
theorem turn_join (l : List Int) : turnB 44 58 (joinB ⟨#[44]⟩ (l.map decZ)) = joinB ⟨#[58]⟩ (l.map decZ) := by
  cases l with
  | nil => rfl
  | cons a l => rw [List.map_cons, joinB_cons, joinB_cons, turnB_app, turn_tail, turnB_not (decZ_bytes a)]
def spB : ByteArray := ⟨#[32]⟩
def nlB : ByteArray := ⟨#[10]⟩
def listS (l : List Int) : ByteArray := match l with
  | [] => ⟨#[46]⟩
  | l => joinB ⟨#[44]⟩ (l.map decZ)
def stopS (s : Stop) : ByteArray := if zeroStop s = true then ⟨#[46]⟩ else joinB ⟨#[58]⟩ ([s.place, s.start, s.close, s.service].map decZ)
def pointS (p : Point) : ByteArray := decZ p.t ++ (⟨#[58]⟩ ++ decZ p.a)
def travelS (l : List Point) : ByteArray := match l with
  | [] => ⟨#[46]⟩
  | l => joinB ⟨#[44]⟩ (l.map pointS)
def lineS (l : List ByteArray) : ByteArray := joinB spB l ++ nlB
def placeL (s : ByteArray) : ByteArray := lineS [⟨#[112, 108, 97, 99, 101]⟩, s]
def arcL (a : Arc) : ByteArray := lineS [⟨#[97, 114, 99]⟩, decZ a.src, decZ a.dst, decZ a.profile, decZ a.miles, travelS a.travel, travelS a.slow]
def typeL (t : VType) : ByteArray := lineS [⟨#[116, 121, 112, 101]⟩, t.name, decZ t.count, decZ t.src, decZ t.dst, listS t.cap, decZ t.skills, decZ t.profile, decZ t.start, decZ t.close, decZ t.drive, decZ t.rest, decZ t.fixed, decZ t.perMile, decZ t.perTick]
def onS (b : Bool) : ByteArray := bif b then ⟨#[111, 102, 102]⟩ else ⟨#[111, 110]⟩
def orderL (o : Order) : ByteArray := lineS [⟨#[111, 114, 100, 101, 114]⟩, o.name, listS o.load, stopS o.pick, stopS o.drop, decZ o.skills, decZ o.penalty, decZ o.split, decZ o.last, decZ o.now, onS o.off]
def apartL (p : Pair) : ByteArray := lineS [⟨#[97, 112, 97, 114, 116]⟩, decZ p.a, decZ p.b]
def beforeL (p : Pair) : ByteArray := lineS [⟨#[98, 101, 102, 111, 114, 101]⟩, decZ p.a, decZ p.b]
def endL : ByteArray := ⟨#[101, 110, 100, 10]⟩
def text1 (x : Instance) : ByteArray := catB (x.net.places.map placeL)
def text2 (x : Instance) : ByteArray := text1 x ++ catB (x.net.arcs.map arcL)
def text3 (x : Instance) : ByteArray := text2 x ++ catB (x.types.map typeL)
def text4 (x : Instance) : ByteArray := text3 x ++ catB (x.orders.map orderL)
def text5 (x : Instance) : ByteArray := text4 x ++ catB (x.apart.map apartL)
def text6 (x : Instance) : ByteArray := text5 x ++ catB (x.before.map beforeL)
def textI (x : Instance) : ByteArray := text6 x ++ endL
end Go.Proofs.YtmidcjlidploaaaGreatDoor.Sc
end

section
set_option linter.unusedSimpArgs false
set_option linter.unusedVariables false
namespace Go.Proofs.YtmidcjlidploaaaGreatDoor.Sk
open Go.Aw Go.Aw.D Go.Proofs Ty
open Go.Proofs.YtmidcjlidploaaaGreatDoor (inR byteAt)
open Go.Proofs.YtmidcjlidploaaaGreatDoor.Nw
open Go.RowKit (Below)
set_option maxRecDepth 100000
def okC (c : Int) : Bool := !(decide (c ≤ 32) || decide (c > 126) || c == 34)
def wordR (s : ByteArray) : Bool := (List.range s.size).all (fun i => okC (byteAt s i)) && !decide (s.size = 0)
theorem word_c (s : ByteArray) (hl : s.size ≤ 1048576) : PC Tryz.prog 116 [str s] (boo (wordR s)) := by
  refine PC.body (c := Tryz.f116.body.getD .skip) (fun _ => false) mixed Tryz.func116 rfl (by kernel_rfl) ?_
  unfold Tryz.f116
  simp only [Option.getD_some]
  simp only [go_sem]
  refine ⟨fun ρ _ => ∃ k : Nat, k ≤ s.size ∧ ρ 0 = str s ∧ ρ 5 = int s.size ∧ ρ 6 = int k ∧ ∀ i ∈ (List.range s.size).take k, okC (byteAt s i) = true, fun ρ _ => s.size - natOf (ρ 6), ⟨0, Nat.zero_le _, rfl, rfl, rfl, by simp⟩, ?_⟩
  rintro ρ H ⟨k, hk, h0, h5, h6, hn⟩
  simp only [go_sem, h0, h5, h6]
  refine acond_i (fun hlt => ?_) (fun hge => ?_)
  · have hlt := le_of_lt_b hlt
    have b1 := inB hlt
    simp only [go_sem, h0, h5, h6, b1]
    refine acond_i (fun hb => ?_) (fun hb => ?_)
    · simp only [go_sem]
      have : wordR s = false := by
        unfold wordR
        rw [all_miss (mem_of_get (range_get hlt)) (congrArg (fun b => !b) hb)]
        rfl
      rw [this]
      exact .refl _
    · simp only [go_sem, h0, h5, h6, wrapS (show k ≤ 4611686018427387904 by omega)]
      exact ⟨⟨k + 1, hlt, rfl, take_all (range_get hlt) hn (congrArg (fun b => !b) hb)⟩, by simp only [natOf_int]; omega⟩
  · have hge := eq_of_ge_b hk hge
    simp only [go_sem, h0, h5, h6]
    rw [empty_b]
    refine cB ?_
    unfold wordR
    have ha : (List.range s.size).all (fun i => okC (byteAt s i)) = true := List.all_eq_true.2 fun i hi => hn i (by rw [hge, List.take_of_length_le (by simp)]; exact hi)
    rw [ha, Bool.true_and]
    congr 1
    exact decide_eq_decide.2 (by omega)
theorem idx_at : ∀ (l : List UInt8) (n : Nat), (∀ i, i < n → l[i]? ≠ some 32) → (l[n]? = some 32 → Lib.indexByte l 32 = (n : Int)) ∧ (l.length ≤ n → Lib.indexByte l 32 = -1)
  | [], n, _ => ⟨fun h => by simp at h, fun _ => rfl⟩
  | b :: l, 0, _ => ⟨fun h => by simp at h; subst h; rfl, fun h => by simp at h⟩
  | b :: l, n + 1, h => by
    have hb : b ≠ 32 := fun e => h 0 (by omega) (by rw [e]; rfl)
    obtain ⟨i1, i2⟩ := idx_at l n fun i hi => by simpa using h (i + 1) (by omega)
    have hb' : (b == 32) = false := by simpa using hb
    refine ⟨fun h1 => ?_, fun h1 => ?_⟩
    · have := i1 (by simpa using h1)
      simp only [Lib.indexByte, hb', this]
      rw [if_neg (by simp), if_neg (by simp)]
      push_cast
      rfl
    · have := i2 (by simpa using h1)
      simp only [Lib.indexByte, hb', this]
      rfl
theorem index_c (s : ByteArray) : PC Tryz.prog 35 [str s, .v (.int .u8 32)] (int (Lib.indexByte s.data.toList 32)) := by
  refine PC.lib (a := [.string s, .int .u8 32]) (v := .int .i64 (Lib.indexByte s.data.toList 32)) (fun S w => rfl) fun w ht => (Tryz.strings_IndexByte s 32 w).mono fun e w' ⟨he, hw⟩ => ⟨he, hw ▸ Below.refl _ _⟩
theorem wordR_spec {s : ByteArray} {n : Nat} (hn : n ≤ s.size) (hw : wordR (s.extract 0 n) = true) : 0 < n ∧ ∀ i, i < n → okC ((s.data.getD i 0).toNat : Int) = true := by
  unfold wordR at hw
  simp only [Bool.and_eq_true, Bool.not_eq_true', decide_eq_false_iff_not] at hw
  have hsz : (s.extract 0 n).size = n := by simp; omega
  rw [hsz] at hw
  refine ⟨by omega, fun i hi => ?_⟩
  have := List.all_eq_true.1 hw.1 i (List.mem_range.2 hi)
  have e : byteAt (s.extract 0 n) i = ((s.data.getD i 0).toNat : Int) := by
    unfold byteAt
    have hm : i < min n s.size := by omega
    have hi2 : i < s.data.size := by
      have : i < s.size := by omega
      exact this
    simp [Array.getD_eq_getD_getElem?, Array.getElem?_extract, hm]
    rw [Array.getElem?_eq_getElem hi2]
    rfl
  rw [← e]
  exact this
theorem part_c (s : ByteArray) (n : Nat) (hl : s.size ≤ 1048576) (hn : n ≤ s.size) (hw : wordR (s.extract 0 n) = true) (hs : n = s.size ∨ s.data[n]? = some 32) : PC Tryz.prog 77 [str s] (int n) := by
  obtain ⟨hp, hc⟩ := wordR_spec hn hw
  have h34 : (((s.data.getD 0 0).toNat : Int) == 34) = false := by
    have := hc 0 hp
    unfold okC at this
    simp only [Bool.not_eq_true', Bool.or_eq_false_iff] at this
    exact this.2
  have h32 : ∀ i, i < n → s.data.toList[i]? ≠ some 32 := fun i hi e => by
    have := hc i hi
    have e' : s.data.getD i 0 = 32 := by
      rw [Array.getD_eq_getD_getElem?, ← Array.getElem?_toList, e]
      rfl
    rw [e'] at this
    exact absurd this (by decide)
  obtain ⟨x1, x2⟩ := idx_at s.data.toList n h32
  refine PC.body (c := Tryz.f77.body.getD .skip) (fun _ => false) mixed Tryz.func77 rfl (by kernel_rfl) ?_
  unfold Tryz.f77
  simp only [Option.getD_some]
  simp only [go_sem]
  rw [empty_b, h34, Bool.and_false]
  refine ⟨fun h => ⟨by omega, by omega⟩, acond_i (fun hb => absurd hb (by decide)) (fun _ => ?_)⟩
  simp only [go_sem]
  refine PC.use (index_c s) ?_
  simp only [go_sem]
  rcases hs with hs | hs
  · subst hs
    rw [x2 (by simp)]
    refine acond_i (fun _ => ?_) (fun hb => absurd hb (by decide))
    simp only [go_sem]
    refine ⟨⟨by omega, by omega⟩, PC.use (word_c _ (by simp; omega)) ?_⟩
    rw [hw]
    simp only [go_sem]
    refine acond_i (fun hb => absurd hb (by decide)) (fun _ => ?_)
    simp only [go_sem]
    exact .refl _
  · rw [x1 (by rw [Array.getElem?_toList]; exact hs)]
    refine acond_i (fun hb => absurd (of_decide_eq_true hb) (by omega)) (fun _ => ?_)
    simp only [go_sem]
    refine ⟨⟨by omega, by omega⟩, PC.use (word_c _ (by simp; omega)) ?_⟩
    rw [hw]
    simp only [go_sem]
    refine acond_i (fun hb => absurd hb (by decide)) (fun _ => ?_)
    simp only [go_sem]
    exact .refl _
end Go.Proofs.YtmidcjlidploaaaGreatDoor.Sk
end

section
set_option linter.unusedSimpArgs false
set_option linter.unusedVariables false
namespace Go.Proofs.YtmidcjlidploaaaGreatDoor.Sc
open Go.Aw Go.Aw.D Go.Proofs Go.RowKit Ty
open Go.Proofs.YtmidcjlidploaaaGreatDoor
set_option maxRecDepth 100000
theorem bInfo : ∃ j, Tryz.prog.info? 65 = some j ∧ j.size = 2 := by
  obtain ⟨j, hj, h2⟩ := Option.map_eq_some_iff.1 (show (Tryz.prog.info? 65).map (·.size) = some 2 from by kernel_rfl)
  exact ⟨j, hj, h2⟩
theorem check_used (b : Nat) (w : World) (h0 : w.cell? ⟨b, 0, none⟩ = some (.pointer (some ⟨b, 0, none⟩))) :
    Calls Tryz.prog 31 #[.pointer (some ⟨b, 0, none⟩)] w fun e w' => e = .returned (.tuple #[]) ∧ w' = w := by
  obtain ⟨j, hj, hjs⟩ := bInfo
  go_enter Tryz.func31, Tryz.ntmps31
  go_wp2
  rw [Lib.run_neq_ptr_same w _ Tryz.underlying62 hj]
  go_wp2
  go_end0
  exact ⟨rfl, rfl⟩
theorem check_fresh (b c : Nat) (T : TypeId) (w : World) (h0 : w.cell? ⟨b, 0, none⟩ = some (.pointer none)) (hsh : w.shape? b = some (T, c)) (hc : 0 < c) (hfz : w.frozen? ⟨b, 0, none⟩ = false)
    (hl : liesAt Tryz.prog Tryz.prog.depth T (c / Tryz.prog.cellsOf T) 0 65 1 = true) :
    Calls Tryz.prog 31 #[.pointer (some ⟨b, 0, none⟩)] w fun e w' => e = .returned (.tuple #[]) ∧ w' = w.setCell ⟨b, 0, none⟩ (.pointer (some ⟨b, 0, none⟩)) := by
  obtain ⟨j, hj, hjs⟩ := bInfo
  go_enter Tryz.func31, Tryz.ntmps31
  go_wp2
  rw [Lib.run_to_unsafe w ⟨b, 0, none⟩ Tryz.underlying62 (by kernel_rfl) hj (by rw [hjs]; decide) hsh hc]
  simp only [Result.andThen]
  rw [Oper.upon_value]
  go_wp2
  rw [run_callFunc_extern Tryz.func59 (by kernel_rfl) (by kernel_rfl) (by kernel_rfl) (e := Extern.AbiNoEscape.same) (by kernel_rfl)]
  rw [Lib.run_noEscape]
  simp only [Result.andThen]
  rw [Oper.upon_value]
  go_wp2
  rw [Lib.run_from_unsafe w ⟨b, 0, none⟩ (by kernel_rfl) Tryz.underlying62 hj hsh hl]
  simp only [Result.andThen]
  rw [Oper.upon_value]
  go_wp2
  go_end0
  exact ⟨rfl, rfl⟩
theorem chk_c {H : Heap} {K : AV → Heap → Prop} {k : Nat} {T : TypeId} {a x : AV} (hk : H k = some ⟨T, 2, [[a, x]]⟩) (ha : a = .v (.pointer none) ∨ a = .op k 0 0)
    (hT : ∀ n, 0 < n → liesAt Tryz.prog Tryz.prog.depth T n 0 65 1 = true) (hc : Tryz.prog.cellsOf T = 2)
    (hK : ∀ H' : Heap, H' k = some ⟨T, 2, [[.op k 0 0, x]]⟩ → (∀ j, j ≠ k → H' j = H j) → K (.tup []) H') : FCalls Tryz.prog 31 [.op k 0 0] H K := by
  intro S w vals hS hr
  simp only [repL] at hr
  obtain ⟨u, t, rfl, hu, rfl⟩ := hr
  simp only [rep] at hu
  obtain ⟨hkN, g, n, c, hloc, rfl⟩ := hu
  obtain ⟨g', cap, cur, hloc', hg, hnc, hcm, hcs, hrep, hone⟩ := (hS.rows k _ hk).open hloc (by simp)
  rw [hloc] at hloc'
  injection hloc' with e1 e2 e3
  injection e1 with e1
  injection e1 with e1
  subst e1
  have hcap : 1 ≤ cap := hnc
  have hcs : cur.size = cap * 2 := hcs
  have c0 : ∃ u0, w.cell? ⟨g, 0, none⟩ = some u0 ∧ rep S w a u0 := by
    simp only [List.flatten_cons, List.flatten_nil, List.append_nil, List.cons_append, List.nil_append, List.length_cons, List.length_nil] at hrep
    simp only [repL] at hrep
    obtain ⟨u0, t, ht, h1, _⟩ := hrep
    refine ⟨u0, ?_, h1⟩
    rw [Lib.cell_of_heap hg]
    have : (cur.toList.take ((0 + 1) * 2))[0]? = some u0 := by rw [ht]; rfl
    rw [List.getElem?_take] at this
    simpa using this
  obtain ⟨u0, hc0, hu0⟩ := c0
  rw [Nat.zero_mul, Nat.add_zero]
  rcases ha with rfl | rfl
  · simp only [rep] at hu0
    subst hu0
    refine (check_fresh g cur.size T w hc0 (by simp [World.shape?, hg]) (by omega) (Lib.frozen_of_heap hg 0) (by rw [hc, hcs, Nat.mul_div_cancel _ (show 0 < 2 by decide)]; exact hT cap hcap)).mono ?_
    rintro e w' ⟨rfl, rfl⟩
    obtain ⟨g2, n2, c2, w', h1, h2, h3, h4⟩ := hS.store hk (i := 0) (f := 0) (cs := [.op k 0 0]) (l := [.pointer (some ⟨g, 0, none⟩)]) (by simp) (by simp) hloc (by simp only [repL, rep]; exact ⟨_, _, rfl, ⟨hkN, g, n, c, hloc, by simp⟩, rfl⟩) (by simp [Value.oneCell'])
    rw [hloc] at h1
    injection h1 with e1 _ _
    injection e1 with e1
    injection e1 with e1
    subst e1
    have h2 := h2 Tryz.prog
    have hw : w' = w.setCell ⟨g, 0, none⟩ (.pointer (some ⟨g, 0, none⟩)) := by
      have hf := Lib.frozen_of_heap hg 0
      simp [storeCells, run_store_pointer, stored, hc0, hf, Addr.add] at h2
      exact h2.symm
    subst hw
    refine ⟨_, .tup [], _, _, rfl, hK _ (by rw [updH_same]; rfl) (fun j hj => updH_ne _ _ _ _ hj), h3, by simp only [rep]; exact ⟨[], rfl, by simp [repL]⟩, h4, fun j hj h0 => ?_⟩
    by_cases e : j = k
    · subst e; rw [hk] at h0; cases h0
    · show updH H k _ j = none
      rw [updH_ne _ _ _ _ e]; exact h0
  · simp only [rep] at hu0
    obtain ⟨_, g2, n2, c2, hl2, rfl⟩ := hu0
    rw [hloc] at hl2
    injection hl2 with e1 _ _
    injection e1 with e1
    injection e1 with e1
    subst e1
    rw [Nat.zero_mul, Nat.add_zero] at hc0
    refine (check_used g w hc0).mono ?_
    rintro e w' ⟨rfl, rfl⟩
    exact ⟨_, .tup [], H, S, rfl, hK H hk (fun _ _ => rfl), hS, by simp only [rep]; exact ⟨[], rfl, by simp [repL]⟩, Grow.refl S _, NewK.refl _ _⟩
theorem string_w (b g n cap : Nat) (l : List UInt8) (w : World) (h0 : l ≠ []) (hc : w.cell? ⟨b, 1, none⟩ = some (.slice (some ⟨g, 0, none⟩) l.length cap)) (hsh : w.shape? g = some (5, n)) (hn : l.length ≤ n) (hcap : l.length ≤ cap) (h63 : l.length ≤ 140737488355328)
    (hcell : ∀ j x, l[j]? = some x → w.cell? ((⟨g, 0, none⟩ : Addr).add j) = some (.int .u8 x.toNat)) :
    Calls Tryz.prog 15 #[.pointer (some ⟨b, 0, none⟩)] w fun e w' => e = .returned (.string ⟨l.toArray⟩) ∧ w' = w.drew.freeze ⟨g, 0, none⟩ l.length := by
  have hl : l.length ≠ 0 := by simpa using h0
  have c1 : w.drew.cell? ⟨b, 1, none⟩ = some (.slice (some ⟨g, 0, none⟩) l.length cap) := hc
  have hSD : (Builtin.unsafeSliceData_ #[63] 107 #[.slice (some ⟨g, 0, none⟩) l.length cap]).run Tryz.prog w.drew = .ok (.pointer (some ⟨g, 0, none⟩)) w.drew :=
    Lib.run_unsafeSliceData_row _ _ _ _ _ _ (by omega)
  have hUS : (Builtin.unsafeString_ #[107, 3] 9 #[.pointer (some ⟨g, 0, none⟩), .int .i64 l.length]).run Tryz.prog w.drew = .ok (.string ⟨l.toArray⟩) (w.drew.freeze ⟨g, 0, none⟩ l.length) :=
    Lib.run_unsafeString_row w.drew 107 3 9 5 Tryz.underlying107 (by kernel_rfl) g n hsh l h0 hn (by omega) hcell
  go_enter Tryz.func15, Tryz.ntmps15
  go_wp2
  go_region
  all_goals (go_wp2; go_ret; exact ⟨rfl, rfl⟩)
theorem str_c {H : Heap} {K : AV → Heap → Prop} {k j : Nat} {T : TypeId} {a : AV} {s : ByteArray} (hk : H k = some ⟨T, 2, [[a, .os j]]⟩) (hj : H j = some ⟨5, 1, strA s⟩) (hs : 0 < s.size) (hm : s.size ≤ 140737488355328)
    (hK : ∀ H' : Heap, (∀ i, i ≠ j → H' i = H i) → K (str s) H') : FCalls Tryz.prog 15 [.op k 0 0] H K := by
  intro S w vals hS hr
  simp only [repL] at hr
  obtain ⟨u, t, rfl, hu, rfl⟩ := hr
  simp only [rep] at hu
  obtain ⟨hkN, b, n, c, hloc, rfl⟩ := hu
  obtain ⟨g', cap, cur, hloc', hg, hnc, hcm, hcs, hrep, hone⟩ := (hS.rows k _ hk).open hloc (by simp)
  rw [hloc] at hloc'
  injection hloc' with e1 e2 e3
  injection e1 with e1
  injection e1 with e1
  subst e1
  have c1 : ∃ u0, w.cell? ⟨b, 1, none⟩ = some u0 ∧ rep S w (.os j) u0 := by
    simp only [List.flatten_cons, List.flatten_nil, List.append_nil, List.cons_append, List.nil_append, List.length_cons, List.length_nil] at hrep
    simp only [repL] at hrep
    obtain ⟨u0, t, ht, _, u1, t1, rfl, h1, _⟩ := hrep
    refine ⟨u1, ?_, h1⟩
    rw [Lib.cell_of_heap hg]
    have : (cur.toList.take ((0 + 1) * 2))[1]? = some u1 := by rw [ht]; rfl
    rw [List.getElem?_take] at this
    simpa using this
  obtain ⟨u1, hc1, hu1⟩ := c1
  simp only [rep] at hu1
  obtain ⟨hjN, rfl, a1, n1, cp1, hlj⟩ := hu1
  have hne : strA s ≠ [] := fun e => by have := strA_len s; rw [e] at this; simp at this; omega
  obtain ⟨g, cap1, cur1, hlocj, hg1, hnc1, hcm1, hcs1, hrep1, hone1⟩ := (hS.rows j _ hj).open hlj hne
  have hlen : s.data.toList.length = (strA s).length := by simp [strA]
  have hl1 : (strA s).length = s.size := strA_len s
  have hcs1 : cur1.size = cap1 * 1 := hcs1
  have hnc1 : (strA s).length ≤ cap1 := hnc1
  rw [Nat.zero_mul, Nat.add_zero]
  have key := string_w b g cur1.size cap1 s.data.toList w (fun e => by rw [e] at hlen; simp at hlen; omega) (by rw [hc1, hlocj, hlen]) (by simp [World.shape?, hg1]) (by omega) (by omega) (by omega) (fun i x hx => by
    rw [Addr.add_lit, Lib.cell_of_heap hg1]
    have h2 : repL S w (strA s).flatten (cur1.toList.take ((strA s).length * 1)) := hrep1
    have h3 : (strA s).flatten[i]? = some (.v (.int .u8 x.toNat)) := by
      have : (strA s).flatten = s.data.toList.map fun b => AV.v (.int .u8 b.toNat) := by
        unfold strA
        generalize s.data.toList = l
        induction l with
        | nil => rfl
        | cons b l ih => simp [ih]
      rw [this, List.getElem?_map, hx]; rfl
    have hi : i < (strA s).flatten.length := (List.getElem?_eq_some_iff.1 h3).1
    obtain ⟨u, h4, h5⟩ := repL_get _ _ i h2 hi
    rw [List.getD_eq_getElem?_getD, h3] at h5
    simp only [Option.getD_some, rep] at h5
    subst h5
    rw [List.getElem?_take] at h4
    split at h4
    · simpa using h4
    · cases h4)
  refine key.mono ?_
  rintro e w' ⟨rfl, rfl⟩
  have hgf : ¬ S.fz g := hS.free j _ hj g (by rw [hlocj]; rfl)
  have hsame : ∀ i, i ≠ g → (w.drew.freeze ⟨g, 0, none⟩ s.data.toList.length).heap[i]? = w.heap[i]? := fun i hi => by
    unfold World.freeze
    split
    · rfl
    · simp only [Array.getElem?_modify]
      rw [if_neg (fun e => hi e.symm)]
      rfl
  have hsz : (w.drew.freeze ⟨g, 0, none⟩ s.data.toList.length).heap.size = w.heap.size := by
    unfold World.freeze
    split
    · rfl
    · simp
  have hoth : ∀ x : Nat, (w.drew.freeze ⟨g, 0, none⟩ x).os = w.os ∧ (w.drew.freeze ⟨g, 0, none⟩ x).tape = w.tape ∧ (w.drew.freeze ⟨g, 0, none⟩ x).output = w.output := fun x => by
    unfold World.freeze
    split <;> exact ⟨rfl, rfl, rfl⟩
  generalize hW : w.drew.freeze ⟨g, 0, none⟩ s.data.toList.length = w' at *
  have hkept : Kept S w w' := fun i hi => hsame i (fun e => hgf (e ▸ hS.ro_fz i hi))
  have hbyt : (⟨s.data.toList.toArray⟩ : ByteArray) = s := by apply ByteArray.ext; simp
  rw [hbyt]
  refine ⟨_, str s, fun i => if i = j then none else H i, S, rfl, hK _ (fun i hi => by simp [hi]), ?_, by simp only [rep], ?_, fun i hi h0 => ?_⟩
  · have hsub : ∀ i r, (if i = j then none else H i) = some r → i ≠ j ∧ H i = some r := fun i r h => by
      by_cases e : i = j
      · simp [e] at h
      · exact ⟨e, by simpa [e] using h⟩
    refine ⟨hS.ro_fz, fun i hi => by rw [hsz]; exact hS.fz_lt i hi, fun i r hi => ?_, fun i r hi => hS.free i r (hsub i r hi).2, fun i i' r r' hi hi' => hS.disj i i' r r' (hsub i r hi).2 (hsub i' r' hi').2, hS.tabs.keep S.le_refl hkept⟩
    obtain ⟨h1, h2⟩ := hsub i r hi
    exact (hS.rows i r h2).keep S.le_refl hkept fun g' hg' => hsame g' (fun e => hS.disj i j r _ h2 hj h1 g' hg' (by rw [hlocj, e]; rfl))
  · have hO := hoth s.data.toList.length
    rw [hW] at hO
    exact ⟨S.le_refl, fun _ h => h, hO.1, hO.2.1, hO.2.2, by rw [hsz]; exact Nat.le_refl _, fun i hi => hsame i (fun e => hgf (e ▸ hi)), fun _ h => .inl h⟩
  · show (if i = j then none else H i) = none
    split
    · rfl
    · exact h0
end Go.Proofs.YtmidcjlidploaaaGreatDoor.Sc
end
