/- strong.Less and its reference: the plain law. -/
import Derived.Test.YtpdmcjaghdolcaaGreatDoorBridge
set_option linter.unusedSimpArgs false
set_option linter.unusedVariables false
namespace Go.Proofs.YtpdmcjaghdolcaaGreatDoor.St
open Go.Aw Go.Aw.D Go.Proofs

/-- two bounds compared; a missing one is greater than all others -/
def cmpL (m : Bool) (a : Int) (p : Bool) (b : Int) : Int := if (m && p) = true then 0 else if m = true then 1 else if p = true then -1 else if a < b then -1 else if a > b then 1 else 0
theorem cmpL_range (m a p b) : cmpL m a p b = -1 ∨ cmpL m a p b = 0 ∨ cmpL m a p b = 1 := by
  unfold cmpL; repeat' split
  all_goals omega
theorem cmpL_anti (m a p b) : cmpL p b m a = - cmpL m a p b := by
  cases m <;> cases p <;> simp only [cmpL, Bool.and_true, Bool.and_false, Bool.true_and, Bool.false_and, if_true, Bool.false_eq_true, if_false] <;> (repeat' split) <;> omega
theorem cmpL_zero {m a p b} (h : cmpL m a p b = 0) (q : Bool) (c : Int) : cmpL m a q c = cmpL p b q c := by
  cases m <;> cases p <;> cases q <;> simp only [cmpL, Bool.and_true, Bool.and_false, Bool.true_and, Bool.false_and, if_true, Bool.false_eq_true, if_false] at h ⊢ <;> (repeat' split at h) <;> (repeat' split) <;> omega
theorem cmpL_pos {m a p b q c} (h : cmpL m a p b = 1) (h' : cmpL p b q c = 1) : cmpL m a q c = 1 := by
  cases m <;> cases p <;> cases q <;> simp only [cmpL, Bool.and_true, Bool.and_false, Bool.true_and, Bool.false_and, if_true, Bool.false_eq_true, if_false] at h h' ⊢ <;> (repeat' split at h) <;> (repeat' split at h') <;> (repeat' split) <;> omega
theorem cmpL_self (m a) : cmpL m a m a = 0 := by
  cases m <;> simp only [cmpL, Bool.and_true, Bool.and_false, Bool.true_and, Bool.false_and, if_true, Bool.false_eq_true, if_false] <;> (repeat' split) <;> omega

structure Lim where
  missing : Bool
  n : Int
def encLim (l : Lim) : List AV := [.v (.bool l.missing), .v (.int .i64 l.n)]
def cmp (x y : Lim) : Int := cmpL x.missing x.n y.missing y.n
def swapB (w : Weight) : Bool := decide (cmpL w.noneYes w.yes w.noneNo w.no > 0)
def lo (w : Weight) : Lim := if swapB w = true then ⟨w.noneNo, w.no⟩ else ⟨w.noneYes, w.yes⟩
def hi (w : Weight) : Lim := if swapB w = true then ⟨w.noneYes, w.yes⟩ else ⟨w.noneNo, w.no⟩
def lessW (a b : Weight) : Bool := if (cmp (lo a) (lo b) != 0) = true then decide (cmp (lo a) (lo b) > 0) else decide (cmp (hi a) (hi b) > 0)

/-! ### the reference -/
def swapR (w : Weight) : Bool := w.noneYes || !w.noneNo && decide (w.no < w.yes)
def loR (w : Weight) : Lim := if swapR w = true then ⟨w.noneNo, w.no⟩ else ⟨w.noneYes, w.yes⟩
def hiR (w : Weight) : Lim := if swapR w = true then ⟨w.noneYes, w.yes⟩ else ⟨w.noneNo, w.no⟩
def aboveR (x y : Lim) : Int := if (x.missing && y.missing || !x.missing && !y.missing && x.n == y.n) = true then 0 else if (x.missing || !y.missing && decide (x.n > y.n)) = true then 1 else -1
def lessR (a b : Weight) : Bool := aboveR (loR a) (loR b) == 1 || aboveR (loR a) (loR b) == 0 && aboveR (hiR a) (hiR b) == 1

theorem above_cmp (x y : Lim) : aboveR x y = cmp x y := by
  obtain ⟨m, a⟩ := x; obtain ⟨p, b⟩ := y
  unfold aboveR cmp cmpL
  cases m <;> cases p <;> simp <;> (repeat' split) <;> omega
theorem swap_cases (w : Weight) : (loR w = lo w ∧ hiR w = hi w) ∨ (loR w = hi w ∧ hiR w = lo w ∧ cmp (lo w) (hi w) = 0) := by
  obtain ⟨y, n, ny, nn⟩ := w
  unfold loR hiR lo hi swapR swapB cmp cmpL
  cases ny <;> cases nn <;> simp
  · by_cases h : n < y
    · have h1 : ¬ y < n := by omega
      simp [h, h1]
    · by_cases h1 : y < n
      · simp [h, h1]
      · have h2 : y = n := by omega
        simp [h2]
theorem cmp_zero {x y : Lim} (h : cmp x y = 0) (z : Lim) : cmp x z = cmp y z := cmpL_zero h _ _
theorem cmp_anti (x y : Lim) : cmp y x = - cmp x y := cmpL_anti _ _ _ _
theorem cmp_range (x y : Lim) : cmp x y = -1 ∨ cmp x y = 0 ∨ cmp x y = 1 := cmpL_range _ _ _ _
theorem cmp_self (x : Lim) : cmp x x = 0 := cmpL_self _ _
theorem cmp_pos {x y z : Lim} (h : cmp x y = 1) (h' : cmp y z = 1) : cmp x z = 1 := cmpL_pos h h'
theorem cmp_zero' {x y : Lim} (h : cmp x y = 0) (z : Lim) : cmp z x = cmp z y := by rw [cmp_anti x z, cmp_anti y z, cmp_zero h]
theorem lo_R (w : Weight) (z : Lim) : cmp (loR w) z = cmp (lo w) z ∧ cmp z (loR w) = cmp z (lo w) := by
  rcases swap_cases w with ⟨h, _⟩ | ⟨h, _, h0⟩
  · rw [h]; exact ⟨rfl, rfl⟩
  · rw [h]; exact ⟨(cmp_zero h0 z).symm, (cmp_zero' h0 z).symm⟩
theorem hi_R (w : Weight) (z : Lim) : cmp (hiR w) z = cmp (hi w) z ∧ cmp z (hiR w) = cmp z (hi w) := by
  rcases swap_cases w with ⟨_, h⟩ | ⟨_, h, h0⟩
  · rw [h]; exact ⟨rfl, rfl⟩
  · rw [h]; exact ⟨cmp_zero h0 z, cmp_zero' h0 z⟩
theorem less_same (a b : Weight) : lessR a b = lessW a b := by
  unfold lessR lessW
  rw [above_cmp, above_cmp, (lo_R a _).1, (lo_R b _).2, (hi_R a _).1, (hi_R b _).2]
  rcases cmp_range (lo a) (lo b) with h | h | h <;> rcases cmp_range (hi a) (hi b) with h' | h' | h' <;> rw [h, h'] <;> decide

/-! ### a strict weak order -/
def lx (a b : Weight) : Prop := cmp (lo a) (lo b) = 1 ∨ cmp (lo a) (lo b) = 0 ∧ cmp (hi a) (hi b) = 1
theorem less_iff (a b : Weight) : lessW a b = true ↔ lx a b := by
  unfold lessW lx
  rcases cmp_range (lo a) (lo b) with h | h | h <;> rcases cmp_range (hi a) (hi b) with h' | h' | h' <;> rw [h, h'] <;> decide
theorem less_irr (a : Weight) : lessW a a = false := by
  rw [Bool.eq_false_iff, Ne, less_iff]
  unfold lx
  rw [cmp_self, cmp_self]; decide
theorem less_asym {a b : Weight} (h : lessW a b = true) : lessW b a = false := by
  rw [Bool.eq_false_iff, Ne, less_iff]
  rw [less_iff] at h
  unfold lx at h ⊢
  rw [cmp_anti (lo a) (lo b), cmp_anti (hi a) (hi b)]
  omega
theorem less_trans {a b c : Weight} (h : lessW a b = true) (h' : lessW b c = true) : lessW a c = true := by
  rw [less_iff] at *
  unfold lx at *
  rcases h with h | ⟨h, h1⟩
  · rcases h' with h' | ⟨h', h2⟩
    · exact .inl (cmp_pos h h')
    · exact .inl ((cmp_zero' h' (lo a)) ▸ h)
  · rcases h' with h' | ⟨h', h2⟩
    · exact .inl ((cmp_zero h (lo c)).trans h')
    · exact .inr ⟨(cmp_zero h (lo c)).trans h', cmp_pos h1 h2⟩
theorem less_eq {a b : Weight} (h : lessW a b = false) (h' : lessW b a = false) : cmp (lo a) (lo b) = 0 ∧ cmp (hi a) (hi b) = 0 := by
  rw [Bool.eq_false_iff, Ne, less_iff] at h h'
  unfold lx at h h'
  rw [cmp_anti (lo a) (lo b), cmp_anti (hi a) (hi b)] at h'
  rcases cmp_range (lo a) (lo b) with h1 | h1 | h1 <;> rcases cmp_range (hi a) (hi b) with h2 | h2 | h2 <;> rw [h1, h2] at h h' ⊢ <;> first | exact ⟨rfl, rfl⟩ | (exfalso; omega)
theorem less_weak {a b : Weight} (h : lessW a b = false) (h' : lessW b a = false) (c : Weight) : lessW a c = lessW b c ∧ lessW c a = lessW c b := by
  obtain ⟨h1, h2⟩ := less_eq h h'
  unfold lessW
  rw [cmp_zero h1, cmp_zero h2, cmp_zero' h1, cmp_zero' h2]
  exact ⟨rfl, rfl⟩
def turned (a : Weight) : Weight := ⟨a.no, a.yes, a.noneNo, a.noneYes⟩
theorem turned_same (a : Weight) : lessW a (turned a) = false ∧ lessW (turned a) a = false := by
  have h : cmp (lo a) (lo (turned a)) = 0 ∧ cmp (hi a) (hi (turned a)) = 0 := by
    obtain ⟨y, n, ny, nn⟩ := a
    unfold turned lo hi swapB cmp cmpL
    cases ny <;> cases nn <;> simp
    · by_cases h : n < y
      · have h1 : ¬ y < n := by omega
        simp [h, h1]
      · by_cases h1 : y < n
        · simp [h, h1]
        · have h2 : y = n := by omega
          simp [h2]
  unfold lessW
  rw [cmp_anti (lo a) (lo (turned a)), cmp_anti (hi a) (hi (turned a)), h.1, h.2]
  decide
end Go.Proofs.YtpdmcjaghdolcaaGreatDoor.St
