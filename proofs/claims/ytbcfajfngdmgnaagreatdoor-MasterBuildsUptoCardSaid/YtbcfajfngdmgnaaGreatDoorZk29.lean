/- Texts joined by a program: MaA, CuR, SaidMB. -/
import Derived.Lib.LaidIn
import Derived.MakeChecks
import Derived.Stop.LaidErr
import Derived.Test.YtbcfajfngdmgnaaGreatDoorCards
import Derived.Test.YtbcfajfngdmgnaaGreatDoorTie
import Derived.Deep.DeepHandedRow
import Derived.Deep.DeepWitnessRowRef
import Derived.SevenTiedAt
import Derived.Test.YtbcfajfngdmgnaaGreatDoorZk21
import Derived.Test.YtbcfajfngdmgnaaGreatDoorZk24
import Derived.Test.YtbcfajfngdmgnaaGreatDoorZk25

section
set_option linter.unusedSimpArgs false
set_option linter.unusedVariables false
namespace Go.Proofs.YtbcfajfngdmgnaaGreatDoor.Dec
open Go.Aw Go.Aw.D Go.Proofs Ty
set_option maxRecDepth 100000
theorem convI {H : Heap} {k : IntKind} {a b : Int} (h : a = b) : Conv H (.v (.int k a)) (.v (.int k b)) := h ▸ .refl _
theorem convB {H : Heap} {a b : Bool} (h : a = b) : Conv H (.v (.bool a)) (.v (.bool b)) := h ▸ .refl _
def orderR (x : Instance) (n : Int) : Bool := decide (n ≥ 0) && decide (n < (x.orders.length : Int))
theorem order_c (x : Instance) (n : Int) : PC Tryz.prog 277 [.agg (encInstance x), int n] (boo (orderR x n)) := by
  refine PC.body (c := Tryz.f277.body.getD .skip) (fun _ => false) mixed Tryz.func277 rfl (by kernel_rfl) ?_
  unfold Tryz.f277
  simp only [Option.getD_some]
  simp only [go_sem]
  exact .refl _
theorem known1_c (x : Instance) (n : Int) : PC Tryz.prog 276 [int n, .rp (encInstance x) 0] (boo (orderR x n)) := by
  refine PC.body (c := Tryz.f276.body.getD .skip) (fun _ => false) mixed Tryz.func276 rfl (by kernel_rfl) ?_
  unfold Tryz.f276
  simp only [Option.getD_some]
  simp only [go_sem]
  exact .refl _
def knownR (x : Instance) (d : Decision) : Int :=
  if d.kind = 1 ∨ d.kind = 2 then (if orderR x d.a && orderR x d.b && d.a != d.b then 0 else 2)
  else if d.kind = 5 ∨ d.kind = 6 then (if orderR x d.a then 0 else 2)
  else if d.kind = 3 ∨ d.kind = 4 then (if decide (d.a ≥ 0) && decide (d.a < (x.types.length : Int)) && decide (d.n ≥ 0) && decide (d.n ≤ 10) then 0 else 2)
  else 8
theorem known_c (x : Instance) (d : Decision) : PC Tryz.prog 227 [.agg (encInstance x), .agg (encDecision d)] (int (knownR x d)) := by
  refine PC.body (c := Tryz.f227.body.getD .skip) (fun _ => false) mixed Tryz.func227 rfl (by kernel_rfl) ?_
  unfold Tryz.f227
  simp only [Option.getD_some]
  simp only [go_sem]
  repeat' (first | (refine PC.use (known1_c _ _) ?_) | (refine ⟨_, fun _ => PC.q (known1_c _ _) rfl, ?_⟩) | (refine ⟨_, PC.q (known1_c _ _) rfl, ?_⟩) | (refine acond_i (fun hb => ?_) (fun hb => ?_)) | (simp only [go_sem]))
  all_goals (refine convI ?_; (try unfold knownR); generalize orderR x d.a = p at *; generalize orderR x d.b = q at *; cases p <;> cases q <;> simp_all <;> (try omega))
theorem one_c (x : Instance) (d : Decision) : PC Tryz.prog 229 [.agg (encInstance x), .agg (encDecision d)] (int (knownR x d)) := by
  refine PC.body (c := Tryz.f229.body.getD .skip) (fun _ => false) mixed Tryz.func229 rfl (by kernel_rfl) ?_
  unfold Tryz.f229
  simp only [Option.getD_some]
  simp only [go_sem]
  repeat' (first | (refine PC.use (order_c _ _) ?_) | (refine ⟨_, fun _ => PC.q (order_c _ _) rfl, ?_⟩) | (refine ⟨_, PC.q (order_c _ _) rfl, ?_⟩) | (refine acond_i (fun hb => ?_) (fun hb => ?_)) | (simp only [go_sem]))
  all_goals (refine convI ?_; (try unfold knownR); generalize orderR x d.a = p at *; generalize orderR x d.b = q at *; cases p <;> cases q <;> simp_all <;> (try omega))
def firstErr : List Int → Int
  | [] => 0
  | e :: r => if e != 0 then e else firstErr r
theorem firstErr_hit {l : List Int} {k : Nat} {e : Int} (h : ∀ e ∈ l.take k, e = 0) (hk : l[k]? = some e) (he : (e != 0) = true) : firstErr l = e := by
  induction l generalizing k with
  | nil => simp at hk
  | cons a r ih =>
    cases k with
    | zero => simp at hk; subst hk; simp only [firstErr]; rw [if_pos he]
    | succ k =>
      have h0 := h a (by simp)
      subst h0
      simp only [firstErr]
      exact ih (k := k) (fun e he' => h e (by simp [he'])) (by simpa using hk)
theorem firstErr_none {l : List Int} (h : ∀ e ∈ l, e = 0) : firstErr l = 0 := by
  induction l with
  | nil => rfl
  | cons a r ih => have h0 := h a (by simp); subst h0; simp only [firstErr]; exact ih fun e he => h e (by simp [he])
theorem firstErr_zero {l : List Int} (h : firstErr l = 0) : ∀ e ∈ l, e = 0 := by
  induction l with
  | nil => simp
  | cons a r ih =>
    simp only [firstErr] at h
    split at h
    · rename_i hb; simp at hb; exact absurd h hb
    · rename_i hb; simp at hb; intro e he; rcases List.mem_cons.1 he with rfl | he; exact hb; exact ih h e he
def chkR (x : Instance) (l : List Decision) : Int := if decide ((l.length : Int) > 1024) then 4 else firstErr (l.map (knownR x))
theorem chk_c (x : Instance) (l : List Decision) (hl : l.length ≤ 1048576) : PC Tryz.prog 162 [.agg (encInstance x), .sl (l.map encDecision)] (int (chkR x l)) := by
  refine PC.body (c := Tryz.f162.body.getD .skip) (fun _ => false) mixed Tryz.func162 rfl (by kernel_rfl) ?_
  unfold Tryz.f162
  simp only [Option.getD_some]
  simp only [go_sem]
  refine acond_i (fun hb => ?_) (fun hb => ?_)
  · simp only [go_sem]
    exact convI (by unfold chkR; rw [if_pos hb])
  · have hc : chkR x l = firstErr (l.map (knownR x)) := by unfold chkR; rw [if_neg (by rw [hb]; simp)]
    rw [hc]
    simp only [go_sem]
    refine ⟨fun ρ _ => ∃ k : Nat, k ≤ l.length ∧ ρ 2 = .rp (encInstance x) 0 ∧ ρ 11 = .sl (l.map encDecision) ∧ ρ 12 = int l.length ∧ ρ 13 = int k ∧ ∀ e ∈ (l.map (knownR x)).take k, e = 0, fun ρ _ => l.length - natOf (ρ 13), ⟨0, Nat.zero_le _, rfl, rfl, rfl, rfl, by simp⟩, ?_⟩
    rintro ρ H ⟨k, hk, h2, h11, h12, h13, hz⟩
    simp only [go_sem, h2, h11, h12, h13]
    refine acond_i (fun hlt => ?_) (fun hge => ?_)
    · have hlt := le_of_lt_b hlt
      obtain ⟨d, hd⟩ := getIn hlt
      have b1 := inB hlt
      simp only [go_sem, h2, h11, h12, h13, getD_map hd, b1]
      refine anew_i fun j hj => ?_
      simp only [go_sem, h2, h11, h12, h13, getD_map hd, b1]
      refine wputE_n (updH_same _ _ _) (by simp [encDecision_len]) ?_
      simp only [go_sem, h2, h11, h12, h13, getD_map hd, b1]
      refine PC.use (known_c x d) ?_
      simp only [go_sem, h2, h11, h12, h13]
      refine acond_i (fun hb => ?_) (fun hb => ?_)
      · simp only [go_sem]
        exact convI (firstErr_hit hz (by simp [hd]) hb).symm
      · simp only [go_sem, h2, h11, h12, h13, wrapS (show k ≤ 4611686018427387904 by omega)]
        refine ⟨⟨k + 1, hlt, rfl, ?_⟩, by simp only [natOf_int]; omega⟩
        rw [take_succ (x := knownR x d) (by simp [hd])]
        intro e he
        rcases List.mem_append.1 he with he | he
        · exact hz e he
        · simp at he; subst he; simpa using hb
    · have hge := eq_of_ge_b hk hge
      subst hge
      simp only [go_sem]
      exact convI (firstErr_none (by rw [List.take_of_length_le (by simp)] at hz; exact hz)).symm
theorem chk29_c (x : Instance) (l : List Decision) (hl : l.length ≤ 1048576) : PC Tryz.prog 167 [.agg (encInstance x), .sl (l.map encDecision)] (int (chkR x l)) := by
  refine PC.body (c := Tryz.f167.body.getD .skip) (fun _ => false) mixed Tryz.func167 rfl (by kernel_rfl) ?_
  unfold Tryz.f167
  simp only [Option.getD_some]
  simp only [go_sem]
  refine acond_i (fun hb => ?_) (fun hb => ?_)
  · simp only [go_sem]
    exact convI (by unfold chkR; rw [if_pos hb])
  · have hc : chkR x l = firstErr (l.map (knownR x)) := by unfold chkR; rw [if_neg (by rw [hb]; simp)]
    rw [hc]
    simp only [go_sem]
    refine ⟨fun ρ _ => ∃ k : Nat, k ≤ l.length ∧ ρ 2 = .rp (encInstance x) 0 ∧ ρ 1 = .sl (l.map encDecision) ∧ ρ 5 = int k ∧ ∀ e ∈ (l.map (knownR x)).take k, e = 0, fun ρ _ => l.length - natOf (ρ 5), ⟨0, Nat.zero_le _, rfl, rfl, rfl, by simp⟩, ?_⟩
    rintro ρ H ⟨k, hk, h2, h1, h5, hz⟩
    simp only [go_sem, h2, h1, h5]
    refine acond_i (fun hlt => ?_) (fun hge => ?_)
    · have hlt := le_of_lt_b hlt
      obtain ⟨d, hd⟩ := getIn hlt
      have b1 := inB hlt
      simp only [go_sem]
      refine adraw_q (by rfl) (by kernel_rfl) ?_
      simp only [go_sem, h2, h1, h5, getD_map hd, b1]
      refine ⟨_, (one_c x d).q rfl, ?_⟩
      simp only [go_sem, h2, h1, h5]
      refine acond_i (fun hb => ?_) (fun hb => ?_)
      · simp only [go_sem]
        exact convI (firstErr_hit hz (by simp [hd]) hb).symm
      · simp only [go_sem, h2, h1, h5, wrapS (show k ≤ 4611686018427387904 by omega)]
        refine ⟨⟨k + 1, hlt, rfl, ?_⟩, by simp only [natOf_int]; omega⟩
        rw [take_succ (x := knownR x d) (by simp [hd])]
        intro e he
        rcases List.mem_append.1 he with he | he
        · exact hz e he
        · simp at he; subst he; simpa using hb
    · have hge := eq_of_ge_b hk hge
      subst hge
      simp only [go_sem]
      exact convI (firstErr_none (by rw [List.take_of_length_le (by simp)] at hz; exact hz)).symm
theorem and1 (x : Int) : bitV .and .i64 x 1 = x % 2 := by
  have h : ((BitVec.ofInt 64 x &&& BitVec.ofInt 64 1).toNat : Int) = x % 2 := by
    rw [BitVec.toNat_and, BitVec.toNat_ofInt, BitVec.toNat_ofInt]
    have : ((1 : Int) % ((2 ^ 64 : Nat) : Int)).toNat = 1 := by decide
    rw [this, Nat.and_one_is_mod]
    omega
  refine Eq.trans (congrArg IntKind.i64.wrap h) ?_
  exact wrap_in (by omega)
theorem or_nat {a b : Nat} (ha : a < 2 ^ 63) (hb : b < 2 ^ 63) : bitV .or .i64 (a : Int) (b : Int) = ((a ||| b : Nat) : Int) := by
  have h : ((BitVec.ofInt 64 (a : Int) ||| BitVec.ofInt 64 (b : Int)).toNat : Int) = ((a ||| b : Nat) : Int) := by
    rw [BitVec.toNat_or, BitVec.toNat_ofInt, BitVec.toNat_ofInt]
    have h1 : ((a : Int) % ((2 ^ 64 : Nat) : Int)).toNat = a := by omega
    have h2 : ((b : Int) % ((2 ^ 64 : Nat) : Int)).toNat = b := by omega
    rw [h1, h2]
  refine Eq.trans (congrArg IntKind.i64.wrap h) ?_
  have := Nat.or_lt_two_pow ha hb
  exact wrap_in (by omega)
theorem and_nat {a b : Nat} (ha : a < 2 ^ 63) (hb : b < 2 ^ 63) : bitV .and .i64 (a : Int) (b : Int) = ((a &&& b : Nat) : Int) := by
  have h : ((BitVec.ofInt 64 (a : Int) &&& BitVec.ofInt 64 (b : Int)).toNat : Int) = ((a &&& b : Nat) : Int) := by
    rw [BitVec.toNat_and, BitVec.toNat_ofInt, BitVec.toNat_ofInt]
    have h1 : ((a : Int) % ((2 ^ 64 : Nat) : Int)).toNat = a := by omega
    have h2 : ((b : Int) % ((2 ^ 64 : Nat) : Int)).toNat = b := by omega
    rw [h1, h2]
  refine Eq.trans (congrArg IntKind.i64.wrap h) ?_
  have := @Nat.and_le_left a b
  exact wrap_in (by omega)
theorem shr_in {x : Int} {i : Nat} (h : i ≤ 62) : shV .shr .i64 x (i : Int) = x / 2 ^ i := by
  show x.fdiv (2 ^ min ((i : Int)).toNat 64) = _
  have : min ((i : Int)).toNat 64 = i := by omega
  rw [this, Int.fdiv_eq_ediv_of_nonneg _ (by exact Int.le_of_lt (Int.pow_pos (by decide)))]
theorem shl_in {i : Nat} (h : i ≤ 62) : shV .shl .i64 1 (i : Int) = ((2 ^ i : Nat) : Int) := by
  show IntKind.i64.wrap (1 * 2 ^ min ((i : Int)).toNat 64) = _
  have : min ((i : Int)).toNat 64 = i := by omega
  rw [this, Int.one_mul]
  have h2 : (2 : Nat) ^ i ≤ 2 ^ 62 := Nat.pow_le_pow_right (by decide) h
  have h3 : ((2 : Int) ^ i) = ((2 ^ i : Nat) : Int) := by norm_cast
  rw [h3]
  generalize 2 ^ i = m at h2
  exact wrap_in (by omega)
def hasR (set i : Int) : Bool := decide (i ≥ 0) && decide (i ≤ 62) && ((set / 2 ^ i.toNat) % 2 == 1)
theorem has_c (set i : Int) : PC Tryz.prog 153 [int set, int i] (boo (hasR set i)) := by
  refine PC.body (c := Tryz.f153.body.getD .skip) (fun _ => false) mixed Tryz.func153 rfl (by kernel_rfl) ?_
  unfold Tryz.f153
  simp only [Option.getD_some]
  simp only [go_sem]
  refine ⟨fun h => ?_, ?_⟩
  · simp at h; omega
  · refine convB ?_
    unfold hasR
    rw [and1]
    by_cases h : 0 ≤ i ∧ i ≤ 62
    · obtain ⟨h0, h1⟩ := h
      have e := shr_in (x := set) (i := i.toNat) (by omega)
      rw [Int.toNat_of_nonneg h0] at e
      rw [e]
    · have : (decide (i ≥ 0) && decide (i ≤ 62)) = false := by simp; omega
      rw [this]; rfl
def hasN (set i : Int) : Bool := (set / 2 ^ i.toNat) % 2 == 1
theorem has29_c (set i : Int) (hs : 0 ≤ set) (hs2 : set ≤ 9223372036854775807) (hi : i ≤ 9223372036854775807) : PC Tryz.prog 230 [int set, int i] (boo (hasN set i)) := by
  refine PC.body (c := Tryz.f230.body.getD .skip) (fun _ => false) mixed Tryz.func230 rfl (by kernel_rfl) ?_
  unfold Tryz.f230
  simp only [Option.getD_some]
  simp only [go_sem]
  refine ⟨fun ρ _ => ∃ k : Nat, (k : Int) ≤ max i 0 ∧ ρ 1 = int i ∧ ρ 5 = int k ∧ ρ 0 = int (set / 2 ^ k), fun ρ _ => i.toNat - natOf (ρ 5), ⟨0, by omega, rfl, rfl, by simp [env0, upd]⟩, ?_⟩
  rintro ρ H ⟨k, hk, h1, h5, h0⟩
  have hpos : 0 ≤ set / 2 ^ k := Int.ediv_nonneg hs (Int.le_of_lt (Int.pow_pos (by decide)))
  simp only [go_sem, h1, h5, h0]
  refine acond_i (fun hlt => ?_) (fun hge => ?_)
  · have hlt : (k : Int) < i := by simpa using hlt
    have hw : IntKind.i64.wrap ((k : Int) + 1) = ((k + 1 : Nat) : Int) := by rw [wrap_in (by omega)]; omega
    simp only [go_sem, h1, h5, h0, hw, natOf_int]
    refine ⟨by omega, ⟨k + 1, by omega, rfl, ?_⟩, by omega⟩
    rw [Int.tdiv_eq_ediv_of_nonneg hpos, Int.pow_succ, ← Int.ediv_ediv_of_nonneg (Int.le_of_lt (Int.pow_pos (by decide)))]
    have hle : set / 2 ^ k ≤ set := Int.ediv_le_self _ hs
    generalize set / 2 ^ k = m at hpos hle
    exact congrArg (fun z => AV.v (Value.int .i64 z)) (wrap_in (by omega))
  · have hge : i ≤ (k : Int) := by simpa using hge
    have hki : k = i.toNat := by omega
    subst hki
    simp only [go_sem, h1, h5, h0]
    refine ⟨by omega, convB ?_⟩
    rw [Int.tmod_eq_emod_of_nonneg hpos]
    rfl
def allowsR (d : Decision) (set : Int) : Bool :=
  if d.kind = 1 then hasR set d.a == hasR set d.b else if d.kind = 2 then !hasR set d.a || !hasR set d.b else if d.kind = 6 then !hasR set d.a else true
theorem allows_c (d : Decision) (set : Int) : PC Tryz.prog 228 [.agg (encDecision d), int set] (boo (allowsR d set)) := by
  refine PC.body (c := Tryz.f228.body.getD .skip) (fun _ => false) mixed Tryz.func228 rfl (by kernel_rfl) ?_
  unfold Tryz.f228
  simp only [Option.getD_some]
  simp only [go_sem]
  refine adraw_q (by rfl) (by kernel_rfl) ?_
  repeat' (first | (refine PC.use (has_c _ _) ?_) | (refine ⟨_, fun _ => PC.q (has_c _ _) rfl, ?_⟩) | (refine ⟨_, PC.q (has_c _ _) rfl, ?_⟩) | (refine acond_i (fun hb => ?_) (fun hb => ?_)) | (simp only [go_sem]))
  all_goals (refine convB ?_; unfold allowsR; simp_all)
def forbidsR (d : Decision) (set : Int) : Bool :=
  if d.kind = 1 then hasN set d.a != hasN set d.b else if d.kind = 2 then hasN set d.a && hasN set d.b else if d.kind = 6 then hasN set d.a else false
def decB (d : Decision) : Prop := bDecision 0 d
theorem forbids_c (d : Decision) (set : Int) (hd : decB d) (hs : 0 ≤ set) (hs2 : set ≤ 9223372036854775807) : PC Tryz.prog 174 [.agg (encDecision d), int set] (boo (forbidsR d set)) := by
  have ha : d.a ≤ 9223372036854775807 := hd.2.1.2
  have hb' : d.b ≤ 9223372036854775807 := hd.2.2.1.2
  refine PC.body (c := Tryz.f174.body.getD .skip) (fun _ => false) mixed Tryz.func174 rfl (by kernel_rfl) ?_
  unfold Tryz.f174
  simp only [Option.getD_some]
  simp only [go_sem]
  refine acond_i (fun hb => ?_) (fun hb => ?_)
  · simp only [go_sem]
    refine adraw_q (by rfl) (by kernel_rfl) ?_
    repeat' (first | (refine PC.use (has29_c _ _ hs hs2 ha) ?_) | (refine ⟨_, fun _ => PC.q (has29_c _ _ hs hs2 ha) rfl, ?_⟩) | (refine ⟨_, PC.q (has29_c _ _ hs hs2 ha) rfl, ?_⟩) | (refine PC.use (has29_c _ _ hs hs2 hb') ?_) | (refine ⟨_, fun _ => PC.q (has29_c _ _ hs hs2 hb') rfl, ?_⟩) | (refine ⟨_, PC.q (has29_c _ _ hs hs2 hb') rfl, ?_⟩) | (refine acond_i (fun hb => ?_) (fun hb => ?_)) | (simp only [go_sem]))
    all_goals (refine convB ?_; unfold forbidsR; generalize hasN set d.a = p at *; generalize hasN set d.b = q at *; cases p <;> cases q <;> simp_all)
  · simp only [go_sem]
    repeat' (first | (refine PC.use (has29_c _ _ hs hs2 ha) ?_) | (refine ⟨_, fun _ => PC.q (has29_c _ _ hs hs2 ha) rfl, ?_⟩) | (refine ⟨_, PC.q (has29_c _ _ hs hs2 ha) rfl, ?_⟩) | (refine PC.use (has29_c _ _ hs hs2 hb') ?_) | (refine ⟨_, fun _ => PC.q (has29_c _ _ hs hs2 hb') rfl, ?_⟩) | (refine ⟨_, PC.q (has29_c _ _ hs hs2 hb') rfl, ?_⟩) | (refine acond_i (fun hb => ?_) (fun hb => ?_)) | (simp only [go_sem]))
    all_goals (refine convB ?_; unfold forbidsR; generalize hasN set d.a = p at *; generalize hasN set d.b = q at *; cases p <;> cases q <;> simp_all)
theorem all_hit {α : Type} {p : α → Bool} {l : List α} {k : Nat} {x : α} (hk : l[k]? = some x) (hx : p x = false) : l.all p = false := by
  rw [List.all_eq_false]
  exact ⟨x, List.mem_of_getElem? hk, by simp [hx]⟩
theorem all_none {α : Type} {p : α → Bool} {l : List α} (h : ∀ x ∈ l.take l.length, p x = true) : l.all p = true := by
  rw [List.take_length] at h
  rw [List.all_eq_true]; exact h
theorem take_all {α : Type} {p : α → Bool} {l : List α} {k : Nat} {x : α} (hk : l[k]? = some x) (hx : p x = true) (h : ∀ x ∈ l.take k, p x = true) : ∀ x ∈ l.take (k + 1), p x = true := by
  rw [take_succ hk]
  intro y hy
  rcases List.mem_append.1 hy with hy | hy
  · exact h y hy
  · simp at hy; subst hy; exact hx
theorem take_allP {α : Type} {p : α → Prop} {l : List α} {k : Nat} {x : α} (hk : l[k]? = some x) (hx : p x) (h : ∀ x ∈ l.take k, p x) : ∀ x ∈ l.take (k + 1), p x := by
  rw [take_succ hk]
  intro y hy
  rcases List.mem_append.1 hy with hy | hy
  · exact h y hy
  · simp at hy; subst hy; exact hx
theorem Allows_c (l : List Decision) (c : Column) (hl : l.length ≤ 1048576) : PC Tryz.prog 163 [.sl (l.map encDecision), .agg (encColumn c)] (boo (l.all fun d => allowsR d c.set)) := by
  refine PC.body (c := Tryz.f163.body.getD .skip) (fun _ => false) mixed Tryz.func163 rfl (by kernel_rfl) ?_
  unfold Tryz.f163
  simp only [Option.getD_some]
  simp only [go_sem]
  refine ⟨fun ρ _ => ∃ k : Nat, k ≤ l.length ∧ ρ 3 = .rp (encColumn c) 0 ∧ ρ 7 = .sl (l.map encDecision) ∧ ρ 8 = int l.length ∧ ρ 9 = int k ∧ ∀ d ∈ l.take k, allowsR d c.set = true, fun ρ _ => l.length - natOf (ρ 9), ⟨0, Nat.zero_le _, rfl, rfl, rfl, rfl, by simp⟩, ?_⟩
  rintro ρ H ⟨k, hk, h3, h7, h8, h9, hz⟩
  simp only [go_sem, h3, h7, h8, h9]
  refine acond_i (fun hlt => ?_) (fun hge => ?_)
  · have hlt := le_of_lt_b hlt
    obtain ⟨d, hd⟩ := getIn hlt
    have b1 := inB hlt
    simp only [go_sem, h3, h7, h8, h9, getD_map hd, b1]
    refine anew_i fun j hj => ?_
    simp only [go_sem, h3, h7, h8, h9, getD_map hd, b1]
    refine wputE_n (updH_same _ _ _) (by simp [encDecision_len]) ?_
    simp only [go_sem, h3, h7, h8, h9, getD_map hd, b1]
    refine PC.use (allows_c d _) ?_
    simp only [go_sem, h3, h7, h8, h9]
    refine acond_i (fun hb => ?_) (fun hb => ?_)
    · simp only [go_sem]
      exact convB (all_hit hd (by simpa using hb)).symm
    · simp only [go_sem, h3, h7, h8, h9, wrapS (show k ≤ 4611686018427387904 by omega)]
      exact ⟨⟨k + 1, hlt, rfl, take_all hd (by simpa using hb) hz⟩, by simp only [natOf_int]; omega⟩
  · have hge := eq_of_ge_b hk hge
    subst hge
    simp only [go_sem]
    exact convB (all_none hz).symm
theorem Allows29_c (l : List Decision) (c : Column) (hl : l.length ≤ 1048576) (hd0 : ∀ d ∈ l, decB d) (hs : 0 ≤ c.set) (hs2 : c.set ≤ 9223372036854775807) : PC Tryz.prog 113 [.sl (l.map encDecision), .agg (encColumn c)] (boo (l.all fun d => !forbidsR d c.set)) := by
  refine PC.body (c := Tryz.f113.body.getD .skip) (fun _ => false) mixed Tryz.func113 rfl (by kernel_rfl) ?_
  unfold Tryz.f113
  simp only [Option.getD_some]
  simp only [go_sem]
  refine ⟨fun ρ _ => ∃ k : Nat, k ≤ l.length ∧ ρ 3 = .rp (encColumn c) 0 ∧ ρ 0 = .sl (l.map encDecision) ∧ ρ 5 = int k ∧ ∀ d ∈ l.take k, forbidsR d c.set = false, fun ρ _ => l.length - natOf (ρ 5), ⟨0, Nat.zero_le _, rfl, rfl, rfl, by simp⟩, ?_⟩
  rintro ρ H ⟨k, hk, h3, h0, h5, hz⟩
  simp only [go_sem, h3, h0, h5]
  refine acond_i (fun hlt => ?_) (fun hge => ?_)
  · have hlt := le_of_lt_b hlt
    obtain ⟨d, hd⟩ := getIn hlt
    have b1 := inB hlt
    simp only [go_sem]
    refine adraw_q (by rfl) (by kernel_rfl) ?_
    simp only [go_sem, h3, h0, h5, getD_map hd, b1]
    refine ⟨_, (forbids_c d _ (hd0 d (List.mem_of_getElem? hd)) hs hs2).q rfl, ?_⟩
    refine acond_i (fun hb => ?_) (fun hb => ?_)
    · simp only [go_sem]
      exact convB (all_hit (p := fun d => !forbidsR d c.set) hd (by simpa using hb)).symm
    · simp only [go_sem, h3, h0, h5, wrapS (show k ≤ 4611686018427387904 by omega)]
      exact ⟨⟨k + 1, hlt, rfl, take_allP (p := fun d => forbidsR d c.set = false) hd (by simpa using hb) hz⟩, by simp only [natOf_int]; omega⟩
  · have hge := eq_of_ge_b hk hge
    subst hge
    simp only [go_sem]
    exact convB (all_none fun d hd => by rw [hz d hd]; rfl).symm
end Go.Proofs.YtbcfajfngdmgnaaGreatDoor.Dec
end

section
set_option linter.unusedSimpArgs false
set_option linter.unusedVariables false
namespace Go.Aw.D
open Go.Aw Go.RowKit Go.Proofs Go.Proofs.YtbcfajfngdmgnaaGreatDoor Go.WideShapes Go.ChangeShapes
set_option maxRecDepth 100000
section
variable {H : Type} {e : TypeId × Value → H} {w : World}
end
def rowLaid : List (String × DataW Unit) := [("math/bits.deBruijn32tab", Go.Proofs.YtbcfajfngdmgnaaGreatDoor.Rows.laid_math_bits_deBruijn32tab), ("math/bits.deBruijn64tab", Go.Proofs.YtbcfajfngdmgnaaGreatDoor.Rows.laid_math_bits_deBruijn64tab), ("internal/strconv.uint64pow10", Go.Proofs.YtbcfajfngdmgnaaGreatDoor.Rows.laid_internal_strconv_uint64pow10)]
theorem laid_bru : (Go.Proofs.YtbcfajfngdmgnaaGreatDoor.Rows.laid_math_bits_deBruijn64tab : DataW Unit) = Lib.tabData .u8 (Lib.deBruijn64tab.map fun z : Nat => (z : Int)) := by kernel_rfl
theorem laid_pow : (Go.Proofs.YtbcfajfngdmgnaaGreatDoor.Rows.laid_internal_strconv_uint64pow10 : DataW Unit) = Lib.tabData .u64 Lib.pow10Tab := by kernel_rfl
theorem tabsIn_of {W : World} (h : laidMetH Tryz.prog rowLaid W) : TabsIn W := by
  have h0 : laidMet Tryz.prog rowLaid W := (Go.MakeChecks.laidMetH_plain Tryz.prog rowLaid W (by kernel_rfl)) ▸ h
  have h1 := laidMet.tail h0
  have h2 := laidMet.tail h1
  rw [laid_bru] at h1
  rw [laid_pow] at h2
  have b := Lib.tabIs_of_head (g := 3) (by kernel_rfl) (by kernel_rfl) (t := 352) (e := 5) (n := 64) Tryz.underlying352 Tryz.underlying5 (by kernel_rfl) (by kernel_rfl) h1
  have p := Lib.tabIs_of_head (g := 1) (by kernel_rfl) (by kernel_rfl) (t := 337) (e := 317) (n := 20) Tryz.underlying337 Tryz.underlying317 (by kernel_rfl) (by kernel_rfl) h2
  unfold Lib.TabIs World.var? at b p
  rw [show Tryz.prog.globalNamed "math/bits.deBruijn64tab" = some 3 by kernel_rfl] at b
  rw [show Tryz.prog.globalNamed "internal/strconv.uint64pow10" = some 1 by kernel_rfl] at p
  intro t ht
  simp only [tabL, List.mem_cons, List.not_mem_nil, or_false] at ht
  rcases ht with rfl | rfl
  · exact p
  · have : bruTab = ((Lib.deBruijn64tab.map fun z : Nat => (z : Int)).map fun z => Value.int .u8 z).toArray := by simp [bruTab]
    rw [this]
    exact b
end Go.Aw.D
end

section
set_option linter.unusedSimpArgs false
set_option linter.unusedVariables false
namespace Go.Proofs.YtbcfajfngdmgnaaGreatDoor.masterBuilds
open Go.Aw Go.Aw.D Go.Proofs Go.RowKit Go.ChangeShapes Go.WideShapes Go.ChangeAt
set_option maxRecDepth 100000
def Holds : Prop := ∀ (x0 : Go.Aw.D.Ask), bAsk 1048576 x0 → PC Tryz.prog 7 [.agg (encAsk x0)] (.v (.bool true))
theorem own : ownKnob Tryz.prog.godebug = none := by kernel_rfl
theorem laid : laidOutB Tryz.prog = true := by kernel_rfl
theorem readAsk : Tryz.prog.readableRec 73 = true ∧ 73 < Tryz.prog.types.size := ⟨by kernel_rfl, by decide +kernel⟩
theorem contract (hh : Holds) (H : Type) (enc : TypeId × Value → H) (W : World) (base : Nat) (args : Array Value) (ds gs : List (DataW H)) (before : List MemPlace)
    (hval : ∀ (j : Nat) t v, Tryz.f7.params[j]? = some t → args[j]? = some v → Value.okWide Tryz.prog W .any base t v)
    (hW : DataW.Whole enc Tryz.prog Tryz.f7.params.toList Rows.masterBuildsSpec.vars false W args.toList ds gs before) (hk : Rows.uptoSmall H (ds ++ gs) = true) (ht : TabsIn W) :
    Calls Tryz.prog 7 args W fun e W' => ∃ v, e = .returned v ∧ Rows.masterBuildsSpec.post enc Tryz.prog Tryz.f7 false true false false W args v W' := by
  have hW' := hW
  obtain ⟨p, q, hA0, hV, rfl, hfz, hnd⟩ := hW
  have hA : DataW.TrodAll enc Tryz.prog W 0 (fun _ => true) true [73] args.toList ds p := hA0
  obtain ⟨v0, d0, rfl, rfl, h0⟩ := trodAll_one hA
  obtain ⟨rfl, rfl⟩ := trodVars_none hV
  clear hA0
  simp only [List.append_nil] at hW' hk
  have hb : Rows.uptoBulkAll [d0] ≤ 1048576 := of_decide_eq_true hk
  simp only [Rows.uptoBulkAll] at hb
  obtain ⟨x0, r0, b0⟩ := arg_struct Tryz.underlying73 rd_Ask (hval 0 73 v0 rfl rfl) h0
  refine (calls_of_PC (vals := [v0]) (hh x0 (b0 _ (by simp only [BK]; omega))) ht (by simp only [repL]; exact ⟨_, _, rfl, r0, rfl⟩)).mono fun e W' ⟨he, hg⟩ => ?_
  subst he
  exact ⟨_, rfl, post_true laid (by
    intro t ht
    have ht : t ∈ [73] := ht
    simp only [List.mem_cons, List.not_mem_nil, or_false] at ht
    rcases ht with rfl
    · exact readAsk
    ) rfl Tryz.underlying4 rfl (gs := []) (by simpa using hW') rfl rfl rfl hg⟩
def cellsOf : DataW Unit → Array Value
  | .agg l => (l.map fun d => match d with | .lit (.int k n) => Value.int k n | _ => undef).toArray
  | _ => #[]
noncomputable def laidWorld (os : Os) : World :=
  let w0 := World.holding Tryz.prog os ⟨#[], #[], []⟩
  let put (h : Array Obj) (g : Nat) (cs : Array Value) : Array Obj := h.modify g fun
    | .cells _ t frozen => .cells cs t frozen
    | o => o
  let h1 := put w0.heap 2 (cellsOf Rows.laid_math_bits_deBruijn32tab)
  let h2 := put h1 3 (cellsOf Rows.laid_math_bits_deBruijn64tab)
  let h3 := put h2 1 (cellsOf Rows.laid_internal_strconv_uint64pow10)
  { w0 with heap := h3 }
theorem laid_met (os : Os) : laidMet Tryz.prog Rows.masterBuildsUptoRow.laid ((laidWorld os).forCall (fun _ _ => 0) ⟨#[], #[.agg #[.slice none 0 0, .slice none 0 0, .slice none 0 0, .slice none 0 0, .slice none 0 0, .slice none 0 0, .slice none 0 0, .slice none 0 0, .slice none 0 0]], []⟩).memory :=
  laidMet_of_run' 8 (by kernel_rfl) (by kernel_rfl)
theorem reads (os : Os) {H : Type} (enc : TypeId × Value → H) : ∃ places, DataW.whole enc Tryz.prog ((laidWorld os).forCall (fun _ _ => 0) ⟨#[], #[.agg #[.slice none 0 0, .slice none 0 0, .slice none 0 0, .slice none 0 0, .slice none 0 0, .slice none 0 0, .slice none 0 0, .slice none 0 0, .slice none 0 0]], []⟩).memory Tryz.f7.params.toList Rows.masterBuildsSpec.vars false (#[.agg #[.slice none 0 0, .slice none 0 0, .slice none 0 0, .slice none 0 0, .slice none 0 0, .slice none 0 0, .slice none 0 0, .slice none 0 0, .slice none 0 0]] : Array Value).toList 8 = some ([.agg [.agg [.agg [.nil, .nil], .nil, .nil, .nil, .nil], .nil, .nil, .nil]], [], places) :=
  ⟨[], by kernel_rfl⟩
theorem lifted (hh : Holds) (os : Os) (started : os.Started) (H : Type) (enc : TypeId × Value → H) (F : Stop.Interp) :
    ReturnsInHanded {} Tryz.checked os 7 .any ((Rows.OpenSpec.upto Rows.masterBuildsSpec).preRow enc Tryz.prog Tryz.f7 Rows.masterBuildsUptoRow.domain false Rows.masterBuildsUptoRow.laid) (((Rows.OpenSpec.upto Rows.masterBuildsSpec).at F).post enc Tryz.prog Tryz.f7 false true false false) := by
  obtain ⟨places, hx⟩ := reads os enc
  refine returnsInHanded_of_row (C := Tryz.checked) (s := Rows.OpenSpec.upto Rows.masterBuildsSpec) own started (by kernel_rfl) Tryz.func7
    (witness_row_atRef (enc := enc) (C := Tryz.checked) false (laidWorld os) #[.agg #[.slice none 0 0, .slice none 0 0, .slice none 0 0, .slice none 0 0, .slice none 0 0, .slice none 0 0, .slice none 0 0, .slice none 0 0, .slice none 0 0]] rfl (by kernel_rfl) (by kernel_rfl) (by kernel_rfl)
      (OpenSpec.preRow_of_cond 8 hx (by kernel_rfl) (fun k hk => by cases hk; kernel_rfl) (by kernel_rfl) (laid_met os))) ?_
  intro W base args ds gs before hval hW _ hk _ hlaid _ _
  exact contract hh H enc W base args ds gs before hval hW (hk _ rfl) (tabsIn_of hlaid)
theorem and_mk {a b : Bool} (h1 : a = true) (h2 : b = true) : (a && b) = true := by rw [h1, h2]; rfl
set_option maxHeartbeats 4000000 in
theorem closed : joinedFacts Tryz.prog 7 Tryz.f7 (Rows.OpenSpec.upto Rows.masterBuildsSpec).bare Rows.masterBuildsUptoRow = true := by
  unfold joinedFacts
  repeat' (first | with_reducible refine and_mk ?_ ?_ | (as_aux_lemma => kernel_rfl))
set_option maxHeartbeats 4000000 in
theorem over (hh : Holds) : Rows.MasterBuildsUptoSaid :=
  OpenClaim.holds_of_cond 7 Tryz.f7 rfl rfl rfl rfl rfl rfl rfl ⟨rfl, rfl, rfl, rfl, rfl⟩ rfl rfl rfl rfl rfl (by as_aux_lemma => kernel_rfl) Tryz.func7 closed
    (of_decide_eq_true (by as_aux_lemma => kernel_rfl)) (by unfold Func.isWrapper; first | (rw [if_pos (by decide +kernel)]; kernel_rfl) | (rw [if_neg (by decide +kernel)]; exact ⟨rfl, rfl⟩))
    (fun os started H enc _ F => by rw [OpenClaim.pre_eq_preRow]; exact lifted hh os started H enc F)
set_option maxHeartbeats 4000000 in
theorem card (hh : Holds) : Rows.MasterBuildsUptoCardSaid :=
  Claim7.holds_tied_plain_at .later [] _ _ _ _ (over hh) (fun _ h => by cases h) (by as_aux_lemma => kernel_rfl) (fun _ h => by cases h) masterBuildsUpto_row_tie rfl ⟨rfl, rfl⟩ (by as_aux_lemma => kernel_rfl) rfl
    (fun f fn hf hfn => by
      obtain rfl : f = 7 := Option.some.inj ((show Tryz.prog.funcNamed "lorry/lorrylaw30.MasterBuilds" = some 7 by as_aux_lemma => kernel_rfl).symm.trans hf) |>.symm
      obtain rfl : fn = Tryz.f7 := (Option.some.inj (Tryz.func7.symm.trans hfn)).symm
      refine ⟨by as_aux_lemma => kernel_rfl, fun j t ht => ?_⟩
      have ht : (#[73] : Array TypeId)[j]? = some t := ht
      have hm := Array.mem_of_getElem? ht
      simp only [Array.mem_def, List.mem_cons, List.not_mem_nil, or_false, or_self] at hm
      subst hm
      exact (show Tryz.prog.wantsStandIn 73 = false by as_aux_lemma => kernel_rfl)) (by as_aux_lemma => kernel_rfl)
end Go.Proofs.YtbcfajfngdmgnaaGreatDoor.masterBuilds
end
