/- decide: sets of orders; which columns are allowed. -/
import Derived.Test.YtjlbikpgjejkjaaDecA
import Derived.Test.YtjlbikpgjejkjaaRead
set_option linter.unusedSimpArgs false
set_option linter.unusedVariables false
namespace Go.Proofs.Ytjlbikpgjejkjaa.Dec
open Go.Aw Go.Aw.D Go.Proofs Ty
set_option maxRecDepth 100000

theorem and1 (x : Int) : bitV .and .i64 x 1 = x % 2 := by
  have h : ((BitVec.ofInt 64 x &&& BitVec.ofInt 64 1).toNat : Int) = x % 2 := by
    rw [BitVec.toNat_and, BitVec.toNat_ofInt, BitVec.toNat_ofInt]
    have : ((1 : Int) % ((2 ^ 64 : Nat) : Int)).toNat = 1 := by decide
    rw [this, Nat.and_one_is_mod]
    omega
  refine Eq.trans (congrArg IntKind.i64.wrap h) ?_
  exact wrap_in (by omega)
theorem or_nat {a b : Nat} (ha : a < 2 ^ 63) (hb : b < 2 ^ 63) : bitV .or .i64 (a : Int) (b : Int) = ((a ||| b : Nat) : Int) := by
  have h : ((BitVec.ofInt 64 (a : Int) ||| BitVec.ofInt 64 (b : Int)).toNat : Int) = ((a ||| b : Nat) : Int) := by
    rw [BitVec.toNat_or, BitVec.toNat_ofInt, BitVec.toNat_ofInt]
    have h1 : ((a : Int) % ((2 ^ 64 : Nat) : Int)).toNat = a := by omega
    have h2 : ((b : Int) % ((2 ^ 64 : Nat) : Int)).toNat = b := by omega
    rw [h1, h2]
  refine Eq.trans (congrArg IntKind.i64.wrap h) ?_
  have := Nat.or_lt_two_pow ha hb
  exact wrap_in (by omega)
theorem and_nat {a b : Nat} (ha : a < 2 ^ 63) (hb : b < 2 ^ 63) : bitV .and .i64 (a : Int) (b : Int) = ((a &&& b : Nat) : Int) := by
  have h : ((BitVec.ofInt 64 (a : Int) &&& BitVec.ofInt 64 (b : Int)).toNat : Int) = ((a &&& b : Nat) : Int) := by
    rw [BitVec.toNat_and, BitVec.toNat_ofInt, BitVec.toNat_ofInt]
    have h1 : ((a : Int) % ((2 ^ 64 : Nat) : Int)).toNat = a := by omega
    have h2 : ((b : Int) % ((2 ^ 64 : Nat) : Int)).toNat = b := by omega
    rw [h1, h2]
  refine Eq.trans (congrArg IntKind.i64.wrap h) ?_
  have := @Nat.and_le_left a b
  exact wrap_in (by omega)
theorem shr_in {x : Int} {i : Nat} (h : i ≤ 62) : shV .shr .i64 x (i : Int) = x / 2 ^ i := by
  show x.fdiv (2 ^ min ((i : Int)).toNat 64) = _
  have : min ((i : Int)).toNat 64 = i := by omega
  rw [this, Int.fdiv_eq_ediv_of_nonneg _ (by exact Int.le_of_lt (Int.pow_pos (by decide)))]
theorem shl_in {i : Nat} (h : i ≤ 62) : shV .shl .i64 1 (i : Int) = ((2 ^ i : Nat) : Int) := by
  show IntKind.i64.wrap (1 * 2 ^ min ((i : Int)).toNat 64) = _
  have : min ((i : Int)).toNat 64 = i := by omega
  rw [this, Int.one_mul]
  have h2 : (2 : Nat) ^ i ≤ 2 ^ 62 := Nat.pow_le_pow_right (by decide) h
  have h3 : ((2 : Int) ^ i) = ((2 ^ i : Nat) : Int) := by norm_cast
  rw [h3]
  generalize 2 ^ i = m at h2
  exact wrap_in (by omega)

/-- is a number in a set? -/
def hasR (set i : Int) : Bool := decide (i ≥ 0) && decide (i ≤ 62) && ((set / 2 ^ i.toNat) % 2 == 1)
theorem has_c (set i : Int) : PC Try.prog 70 [int set, int i] (boo (hasR set i)) := by
  refine PC.body (c := Try.f70.body.getD .skip) (fun _ => false) mixed Try.func70 rfl (by kernel_rfl) ?_
  unfold Try.f70
  simp only [Option.getD_some]
  simp only [go_sem]
  refine ⟨fun h => ?_, ?_⟩
  · simp at h; omega
  · refine convB ?_
    unfold hasR
    rw [and1]
    by_cases h : 0 ≤ i ∧ i ≤ 62
    · obtain ⟨h0, h1⟩ := h
      have e := shr_in (x := set) (i := i.toNat) (by omega)
      rw [Int.toNat_of_nonneg h0] at e
      rw [e]
    · have : (decide (i ≥ 0) && decide (i ≤ 62)) = false := by simp; omega
      rw [this]; rfl
/-- the same, of a set that is not negative -/
def hasN (set i : Int) : Bool := (set / 2 ^ i.toNat) % 2 == 1
theorem has29_c (set i : Int) (hs : 0 ≤ set) (hs2 : set ≤ 9223372036854775807) (hi : i ≤ 9223372036854775807) : PC Try.prog 93 [int set, int i] (boo (hasN set i)) := by
  refine PC.body (c := Try.f93.body.getD .skip) (fun _ => false) mixed Try.func93 rfl (by kernel_rfl) ?_
  unfold Try.f93
  simp only [Option.getD_some]
  simp only [go_sem]
  refine ⟨fun ρ _ => ∃ k : Nat, (k : Int) ≤ max i 0 ∧ ρ 1 = int i ∧ ρ 5 = int k ∧ ρ 0 = int (set / 2 ^ k), fun ρ _ => i.toNat - natOf (ρ 5), ⟨0, by omega, rfl, rfl, by simp [env0, upd]⟩, ?_⟩
  rintro ρ H ⟨k, hk, h1, h5, h0⟩
  have hpos : 0 ≤ set / 2 ^ k := Int.ediv_nonneg hs (Int.le_of_lt (Int.pow_pos (by decide)))
  simp only [go_sem, h1, h5, h0]
  refine acond_i (fun hlt => ?_) (fun hge => ?_)
  · have hlt : (k : Int) < i := by simpa using hlt
    have hw : IntKind.i64.wrap ((k : Int) + 1) = ((k + 1 : Nat) : Int) := by rw [wrap_in (by omega)]; omega
    simp only [go_sem, h1, h5, h0, hw, natOf_int]
    refine ⟨by omega, ⟨k + 1, by omega, rfl, ?_⟩, by omega⟩
    rw [Int.tdiv_eq_ediv_of_nonneg hpos, Int.pow_succ, ← Int.ediv_ediv_of_nonneg (Int.le_of_lt (Int.pow_pos (by decide)))]
    have hle : set / 2 ^ k ≤ set := Int.ediv_le_self _ hs
    generalize set / 2 ^ k = m at hpos hle
    exact congrArg (fun z => AV.v (Value.int .i64 z)) (wrap_in (by omega))
  · have hge : i ≤ (k : Int) := by simpa using hge
    have hki : k = i.toNat := by omega
    subst hki
    simp only [go_sem, h1, h5, h0]
    refine ⟨by omega, convB ?_⟩
    rw [Int.tmod_eq_emod_of_nonneg hpos]
    rfl

def allowsR (d : Decision) (set : Int) : Bool :=
  if d.kind = 1 then hasR set d.a == hasR set d.b else if d.kind = 2 then !hasR set d.a || !hasR set d.b else if d.kind = 6 then !hasR set d.a else true
theorem allows_c (d : Decision) (set : Int) : PC Try.prog 64 [.agg (encDecision d), int set] (boo (allowsR d set)) := by
  refine PC.body (c := Try.f64.body.getD .skip) (fun _ => false) mixed Try.func64 rfl (by kernel_rfl) ?_
  unfold Try.f64
  simp only [Option.getD_some]
  simp only [go_sem]
  refine adraw_q (by rfl) (by kernel_rfl) ?_
  repeat' (first | (refine PC.use (has_c _ _) ?_) | (refine ⟨_, fun _ => PC.q (has_c _ _) rfl, ?_⟩) | (refine ⟨_, PC.q (has_c _ _) rfl, ?_⟩) | (refine acond_i (fun hb => ?_) (fun hb => ?_)) | (simp only [go_sem]))
  all_goals (refine convB ?_; unfold allowsR; simp_all)
def forbidsR (d : Decision) (set : Int) : Bool :=
  if d.kind = 1 then hasN set d.a != hasN set d.b else if d.kind = 2 then hasN set d.a && hasN set d.b else if d.kind = 6 then hasN set d.a else false
/-- numbers of a decision that the machine holds -/
def decB (d : Decision) : Prop := bDecision 0 d
theorem forbids_c (d : Decision) (set : Int) (hd : decB d) (hs : 0 ≤ set) (hs2 : set ≤ 9223372036854775807) : PC Try.prog 65 [.agg (encDecision d), int set] (boo (forbidsR d set)) := by
  have ha : d.a ≤ 9223372036854775807 := hd.2.1.2
  have hb' : d.b ≤ 9223372036854775807 := hd.2.2.1.2
  refine PC.body (c := Try.f65.body.getD .skip) (fun _ => false) mixed Try.func65 rfl (by kernel_rfl) ?_
  unfold Try.f65
  simp only [Option.getD_some]
  simp only [go_sem]
  refine acond_i (fun hb => ?_) (fun hb => ?_)
  · simp only [go_sem]
    refine adraw_q (by rfl) (by kernel_rfl) ?_
    repeat' (first | (refine PC.use (has29_c _ _ hs hs2 ha) ?_) | (refine ⟨_, fun _ => PC.q (has29_c _ _ hs hs2 ha) rfl, ?_⟩) | (refine ⟨_, PC.q (has29_c _ _ hs hs2 ha) rfl, ?_⟩) | (refine PC.use (has29_c _ _ hs hs2 hb') ?_) | (refine ⟨_, fun _ => PC.q (has29_c _ _ hs hs2 hb') rfl, ?_⟩) | (refine ⟨_, PC.q (has29_c _ _ hs hs2 hb') rfl, ?_⟩) | (refine acond_i (fun hb => ?_) (fun hb => ?_)) | (simp only [go_sem]))
    all_goals (refine convB ?_; unfold forbidsR; generalize hasN set d.a = p at *; generalize hasN set d.b = q at *; cases p <;> cases q <;> simp_all)
  · simp only [go_sem]
    repeat' (first | (refine PC.use (has29_c _ _ hs hs2 ha) ?_) | (refine ⟨_, fun _ => PC.q (has29_c _ _ hs hs2 ha) rfl, ?_⟩) | (refine ⟨_, PC.q (has29_c _ _ hs hs2 ha) rfl, ?_⟩) | (refine PC.use (has29_c _ _ hs hs2 hb') ?_) | (refine ⟨_, fun _ => PC.q (has29_c _ _ hs hs2 hb') rfl, ?_⟩) | (refine ⟨_, PC.q (has29_c _ _ hs hs2 hb') rfl, ?_⟩) | (refine acond_i (fun hb => ?_) (fun hb => ?_)) | (simp only [go_sem]))
    all_goals (refine convB ?_; unfold forbidsR; generalize hasN set d.a = p at *; generalize hasN set d.b = q at *; cases p <;> cases q <;> simp_all)
def allR (p : Decision → Bool) (l : List Decision) : Bool := l.all p
theorem all_hit {α : Type} {p : α → Bool} {l : List α} {k : Nat} {x : α} (hk : l[k]? = some x) (hx : p x = false) : l.all p = false := by
  rw [List.all_eq_false]
  exact ⟨x, List.mem_of_getElem? hk, by simp [hx]⟩
theorem all_none {α : Type} {p : α → Bool} {l : List α} (h : ∀ x ∈ l.take l.length, p x = true) : l.all p = true := by
  rw [List.take_length] at h
  rw [List.all_eq_true]; exact h
theorem take_all {α : Type} {p : α → Bool} {l : List α} {k : Nat} {x : α} (hk : l[k]? = some x) (hx : p x = true) (h : ∀ x ∈ l.take k, p x = true) : ∀ x ∈ l.take (k + 1), p x = true := by
  rw [take_succ hk]
  intro y hy
  rcases List.mem_append.1 hy with hy | hy
  · exact h y hy
  · simp at hy; subst hy; exact hx
theorem take_allP {α : Type} {p : α → Prop} {l : List α} {k : Nat} {x : α} (hk : l[k]? = some x) (hx : p x) (h : ∀ x ∈ l.take k, p x) : ∀ x ∈ l.take (k + 1), p x := by
  rw [take_succ hk]
  intro y hy
  rcases List.mem_append.1 hy with hy | hy
  · exact h y hy
  · simp at hy; subst hy; exact hx
theorem Allows_c (l : List Decision) (c : Column) (hl : l.length ≤ 1048576) : PC Try.prog 32 [.sl (l.map encDecision), .agg (encColumn c)] (boo (l.all fun d => allowsR d c.set)) := by
  refine PC.body (c := Try.f32.body.getD .skip) (fun _ => false) mixed Try.func32 rfl (by kernel_rfl) ?_
  unfold Try.f32
  simp only [Option.getD_some]
  simp only [go_sem]
  refine ⟨fun ρ _ => ∃ k : Nat, k ≤ l.length ∧ ρ 3 = .rp (encColumn c) 0 ∧ ρ 7 = .sl (l.map encDecision) ∧ ρ 8 = int l.length ∧ ρ 9 = int k ∧ ∀ d ∈ l.take k, allowsR d c.set = true, fun ρ _ => l.length - natOf (ρ 9), ⟨0, Nat.zero_le _, rfl, rfl, rfl, rfl, by simp⟩, ?_⟩
  rintro ρ H ⟨k, hk, h3, h7, h8, h9, hz⟩
  simp only [go_sem, h3, h7, h8, h9]
  refine acond_i (fun hlt => ?_) (fun hge => ?_)
  · have hlt := le_of_lt_b hlt
    obtain ⟨d, hd⟩ := getIn hlt
    have b1 := inB hlt
    simp only [go_sem, h3, h7, h8, h9, getD_map hd, b1]
    refine anew_i fun j hj => ?_
    simp only [go_sem, h3, h7, h8, h9, getD_map hd, b1]
    refine wputE_n (updH_same _ _ _) (by simp [encDecision_len]) ?_
    simp only [go_sem, h3, h7, h8, h9, getD_map hd, b1]
    refine PC.use (allows_c d _) ?_
    simp only [go_sem, h3, h7, h8, h9]
    refine acond_i (fun hb => ?_) (fun hb => ?_)
    · simp only [go_sem]
      exact convB (all_hit hd (by simpa using hb)).symm
    · simp only [go_sem, h3, h7, h8, h9, wrapS (show k ≤ 4611686018427387904 by omega)]
      exact ⟨⟨k + 1, hlt, rfl, take_all hd (by simpa using hb) hz⟩, by simp only [natOf_int]; omega⟩
  · have hge := eq_of_ge_b hk hge
    subst hge
    simp only [go_sem]
    exact convB (all_none hz).symm
theorem Allows29_c (l : List Decision) (c : Column) (hl : l.length ≤ 1048576) (hd0 : ∀ d ∈ l, decB d) (hs : 0 ≤ c.set) (hs2 : c.set ≤ 9223372036854775807) : PC Try.prog 33 [.sl (l.map encDecision), .agg (encColumn c)] (boo (l.all fun d => !forbidsR d c.set)) := by
  refine PC.body (c := Try.f33.body.getD .skip) (fun _ => false) mixed Try.func33 rfl (by kernel_rfl) ?_
  unfold Try.f33
  simp only [Option.getD_some]
  simp only [go_sem]
  refine ⟨fun ρ _ => ∃ k : Nat, k ≤ l.length ∧ ρ 3 = .rp (encColumn c) 0 ∧ ρ 0 = .sl (l.map encDecision) ∧ ρ 5 = int k ∧ ∀ d ∈ l.take k, forbidsR d c.set = false, fun ρ _ => l.length - natOf (ρ 5), ⟨0, Nat.zero_le _, rfl, rfl, rfl, by simp⟩, ?_⟩
  rintro ρ H ⟨k, hk, h3, h0, h5, hz⟩
  simp only [go_sem, h3, h0, h5]
  refine acond_i (fun hlt => ?_) (fun hge => ?_)
  · have hlt := le_of_lt_b hlt
    obtain ⟨d, hd⟩ := getIn hlt
    have b1 := inB hlt
    simp only [go_sem]
    refine adraw_q (by rfl) (by kernel_rfl) ?_
    simp only [go_sem, h3, h0, h5, getD_map hd, b1]
    refine ⟨_, (forbids_c d _ (hd0 d (List.mem_of_getElem? hd)) hs hs2).q rfl, ?_⟩
    refine acond_i (fun hb => ?_) (fun hb => ?_)
    · simp only [go_sem]
      exact convB (all_hit (p := fun d => !forbidsR d c.set) hd (by simpa using hb)).symm
    · simp only [go_sem, h3, h0, h5, wrapS (show k ≤ 4611686018427387904 by omega)]
      exact ⟨⟨k + 1, hlt, rfl, take_allP (p := fun d => forbidsR d c.set = false) hd (by simpa using hb) hz⟩, by simp only [natOf_int]; omega⟩
  · have hge := eq_of_ge_b hk hge
    subst hge
    simp only [go_sem]
    exact convB (all_none fun d hd => by rw [hz d hd]; rfl).symm
end Go.Proofs.Ytjlbikpgjejkjaa.Dec
