/- decide: decisions that contradict each other. -/
import Derived.Test.YtjlbikpgjejkjaaDecE
set_option linter.unusedSimpArgs false
set_option linter.unusedVariables false
namespace Go.Proofs.Ytjlbikpgjejkjaa.Dec
open Go.Aw Go.Aw.D Go.Proofs Ty
set_option maxRecDepth 100000

def serveD (i : Int) (d : Decision) : Bool := d.kind == 5 && d.a == i
def mustB (x : Instance) (l : List Decision) (i : Nat) : Bool := match x.orders[i]? with
  | some o => (o.penalty == -1 || l.any (serveD i)) && !o.off
  | none => false
def mustN (x : Instance) (l : List Decision) (k : Nat) : Nat := (List.range k).foldl (fun s i => if mustB x l i = true then s ||| 2 ^ i else s) 0
theorem mustN_succ (x : Instance) (l : List Decision) (k : Nat) : mustN x l (k + 1) = if mustB x l k = true then mustN x l k ||| 2 ^ k else mustN x l k := by simp [mustN, List.range_succ]
theorem mustN_lt (x : Instance) (l : List Decision) (k : Nat) : mustN x l k < 2 ^ k := by
  induction k with
  | zero => simp [mustN]
  | succ k ih =>
    rw [mustN_succ]
    have h2 : 2 ^ k < 2 ^ (k + 1) := Nat.pow_lt_pow_right (by decide) (by omega)
    split
    · exact Nat.or_lt_two_pow (by omega) h2
    · omega
theorem mustN_bit (x : Instance) (l : List Decision) (i : Nat) : ∀ k, (mustN x l k).testBit i = (decide (i < k) && mustB x l i)
  | 0 => by simp [mustN]
  | k + 1 => by
    rw [mustN_succ]
    split
    · rename_i h
      rw [Nat.testBit_or, mustN_bit x l i k, Nat.testBit_two_pow]
      by_cases e : k = i
      · subst e; simp [h]
      · have : (decide (i < k)) = decide (i < k + 1) := by rw [Bool.eq_iff_iff]; simp; omega
        simp [e, this]
    · rename_i h
      rw [mustN_bit x l i k]
      by_cases e : k = i
      · subst e; simp [h]
      · have : (decide (i < k)) = decide (i < k + 1) := by rw [Bool.eq_iff_iff]; simp; omega
        rw [this]
theorem must_c (x : Instance) (l : List Decision) (ho : x.orders.length ≤ 62) (hl : l.length ≤ 1048576) : PC Try.prog 69 [.agg (encInstance x), .sl (l.map encDecision)] (int (mustN x l x.orders.length : Nat)) := by
  refine PC.body (c := Try.f69.body.getD .skip) (fun _ => false) mixed Try.func69 rfl (by kernel_rfl) ?_
  unfold Try.f69
  simp only [Option.getD_some]
  simp only [go_sem]
  refine ⟨fun ρ _ => ∃ k : Nat, k ≤ x.orders.length ∧ ρ 1 = .sl (l.map encDecision) ∧ ρ 12 = .sl (x.orders.map encOrder) ∧ ρ 13 = int x.orders.length ∧ ρ 14 = int k ∧ ρ 5 = int (mustN x l k : Nat), fun ρ _ => x.orders.length - natOf (ρ 14), ⟨0, Nat.zero_le _, rfl, rfl, rfl, rfl, rfl⟩, ?_⟩
  rintro ρ H ⟨k, hk, h1, h12, h13, h14, h5⟩
  simp only [go_sem, h1, h12, h13, h14, h5]
  refine acond_i (fun hlt => ?_) (fun hge => ?_)
  · have hlt := le_of_lt_b hlt
    obtain ⟨o, ho2⟩ := getIn hlt
    have b1 := inB hlt
    simp only [go_sem, h1, h12, h13, h14, h5, getD_map ho2, b1]
    refine anew_i fun j hj => ?_
    simp only [go_sem, h1, h12, h13, h14, h5, getD_map ho2, b1]
    refine wputE_n (updH_same _ _ _) (by simp [encOrder_len]) ?_
    simp only [go_sem, h1, h12, h13, h14, h5, getD_map ho2, b1]
    refine ⟨fun ρ H => ∃ i : Nat, i ≤ l.length ∧ ρ 1 = .sl (l.map encDecision) ∧ ρ 5 = int (mustN x l k : Nat) ∧ ρ 6 = int k ∧ ρ 7 = .op j 0 0 ∧ ρ 12 = .sl (x.orders.map encOrder) ∧ ρ 13 = int x.orders.length ∧ ρ 14 = int k ∧ ρ 22 = .sl (l.map encDecision) ∧ ρ 23 = int l.length ∧ ρ 24 = int i ∧ ρ 8 = boo (o.penalty == -1 || (l.take i).any (serveD k)) ∧ H j = some ⟨75, 16, [encOrder o]⟩, fun ρ _ => l.length - natOf (ρ 24), ⟨0, Nat.zero_le _, by simp only [go_sem, h1], by simp only [go_sem, h5], by simp only [go_sem], by simp only [go_sem], by simp only [go_sem, h12], by simp only [go_sem, h13], by simp only [go_sem, h14], by simp only [go_sem], by simp only [go_sem], by simp only [go_sem]; rfl, by simp only [go_sem]; simp, updH_same _ _ _⟩, ?_⟩
    clear h1 h12 h13 h14 h5 hj
    rintro ρ H ⟨i, hi, h1, h5, h6, h7, h12, h13, h14, h22, h23, h24, h8, hj⟩
    simp only [go_sem, h1, h5, h6, h7, h12, h13, h14, h22, h23, h24, h8]
    refine acond_i (fun hlt2 => ?_) (fun hge2 => ?_)
    · have hlt2 := le_of_lt_b hlt2
      obtain ⟨d, hd⟩ := getIn hlt2
      have b2 := inB hlt2
      simp only [go_sem, h1, h5, h6, h7, h12, h13, h14, h22, h23, h24, h8, getD_map hd, b2]
      refine anew_i fun i2 hi2 => ?_
      have hne : j ≠ i2 := ne_new hj hi2
      simp only [go_sem, h1, h5, h6, h7, h12, h13, h14, h22, h23, h24, h8, getD_map hd, b2]
      refine wputE_n (updH_same _ _ _) (by simp [encDecision_len]) ?_
      simp only [go_sem, h1, h5, h6, h7, h12, h13, h14, h22, h23, h24, h8, getD_map hd, b2, wrapS (show i ≤ 4611686018427387904 by omega)]
      have hs := any_succ (p := serveD k) hd
      refine ⟨⟨i + 1, hlt2, rfl, ?_, by rw [updH_ne _ _ _ _ hne, updH_ne _ _ _ _ hne]; exact hj⟩, by simp only [natOf_int]; omega⟩
      rw [hs]
      exact congrArg boo (Bool.or_assoc _ _ _)
    · have hge2 := eq_of_ge_b hi hge2
      subst hge2
      simp only [go_sem, h1, h5, h6, h7, h12, h13, h14, h8, hj]
      rw [List.take_length]
      have hm : mustB x l k = ((o.penalty == -1 || l.any (serveD (k : Int))) && !o.off) := by unfold mustB; rw [ho2]
      have hlt62 : mustN x l k < 2 ^ 62 := Nat.lt_of_lt_of_le (mustN_lt x l k) (Nat.pow_le_pow_right (by decide) (by omega))
      rw [← hm]
      refine acond_joinL (fun ρ' _ => ρ' 1 = .sl (l.map encDecision) ∧ ρ' 12 = .sl (x.orders.map encOrder) ∧ ρ' 13 = int x.orders.length ∧ ρ' 14 = int k ∧ ρ' 5 = int (mustN x l (k + 1) : Nat)) ?_ fun K hK _ _ => acond_i (fun hb => ?_) (fun hb => ?_)
      · clear h1 h5 h6 h7 h12 h13 h14 h8
        rintro ρ H ⟨h1, h12, h13, h14, h5⟩
        simp only [go_sem, h1, h12, h13, h14, h5, wrapS (show k ≤ 4611686018427387904 by omega)]
        exact ⟨⟨k + 1, hlt, rfl, rfl⟩, by simp only [natOf_int]; omega⟩
      · have e2 := or_nat (a := mustN x l k) (b := 2 ^ k) (by omega) (Nat.pow_lt_pow_right (by decide) (by omega))
        simp only [go_sem, h1, h5, h6, h7, h12, h13, h14, h8, shl_in (show k ≤ 62 by omega), e2]
        refine ⟨by omega, hK _ _ ⟨by simp only [go_sem, h1], by simp only [go_sem, h12], by simp only [go_sem, h13], by simp only [go_sem, h14], ?_⟩⟩
        simp only [go_sem]
        rw [mustN_succ, if_pos hb]
      · simp only [go_sem, h1, h5, h6, h7, h12, h13, h14, h8]
        refine hK _ _ ⟨by simp only [go_sem, h1], by simp only [go_sem, h12], by simp only [go_sem, h13], by simp only [go_sem, h14], ?_⟩
        simp only [go_sem, h5]
        rw [mustN_succ, if_neg (by rw [hb]; simp)]
  · have hge := eq_of_ge_b hk hge
    subst hge
    simp only [go_sem, h5]
    exact .refl _
def sameR (a b : Decision) : Bool := a.a == b.a && a.b == b.b || a.a == b.b && a.b == b.a
def againstG (has : Int → Bool) (a b : Decision) : Bool :=
  if (a.kind == 1 && b.kind == 2) = true then sameR a b && (has a.a || has a.b) else a.kind == 3 && b.kind == 4 && (a.a == b.a && decide (a.n < b.n))
theorem against_c (a b : Decision) (s : Int) : PC Try.prog 71 [.agg (encDecision a), .agg (encDecision b), int s] (boo (againstG (hasR s) a b)) := by
  refine PC.body (c := Try.f71.body.getD .skip) (fun _ => false) mixed Try.func71 rfl (by kernel_rfl) ?_
  unfold Try.f71
  simp only [Option.getD_some]
  simp only [go_sem]
  repeat' (first | (refine PC.use (has_c _ _) ?_) | (refine ⟨_, fun _ => PC.q (has_c _ _) rfl, ?_⟩) | (refine ⟨_, PC.q (has_c _ _) rfl, ?_⟩) | (refine acond_i (fun hb => ?_) (fun hb => ?_)) | (simp only [go_sem]))
  all_goals (refine convB ?_; unfold againstG sameR; simp_all)

theorem getD_none {α : Type} {f : α → List AV} {l : List α} {k : Nat} (h : l[k]? = none) : (l.map f).getD k [] = [] := by simp [List.getD, h]
def countAt (x : Instance) (i : Int) : Int := match x.types[i.toNat]? with | some t => t.count | none => 0
def overR (x : Instance) (a : Decision) : Bool := a.kind == 4 && decide (a.a ≥ 0) && decide (a.a < (x.types.length : Int)) && decide (a.n > countAt x a.a)
def clashG (x : Instance) (l : List Decision) (has : Int → Bool) : Bool := l.any fun a => a.kind == 6 && has a.a || overR x a || l.any (againstG has a)
theorem Clash_c (x : Instance) (l : List Decision) (ho : x.orders.length ≤ 62) (hl : l.length ≤ 1048576) : PC Try.prog 37 [.agg (encInstance x), .sl (l.map encDecision)] (boo (clashG x l (hasR (mustN x l x.orders.length : Nat)))) := by
  refine PC.body (c := Try.f37.body.getD .skip) (fun _ => false) mixed Try.func37 rfl (by kernel_rfl) ?_
  unfold Try.f37
  simp only [Option.getD_some]
  simp only [go_sem]
  refine PC.use (must_c x l ho hl) ?_
  generalize hS : ((mustN x l x.orders.length : Nat) : Int) = s
  simp only [go_sem]
  refine ⟨fun ρ _ => ∃ k : Nat, k ≤ l.length ∧ ρ 1 = .sl (l.map encDecision) ∧ ρ 2 = .rp (encInstance x) 0 ∧ ρ 5 = int s ∧ ρ 13 = .sl (l.map encDecision) ∧ ρ 14 = int l.length ∧ ρ 15 = int k ∧ ∀ a ∈ l.take k, (a.kind == 6 && hasR s a.a || overR x a || l.any (againstG (hasR s) a)) = false, fun ρ _ => l.length - natOf (ρ 15), ⟨0, Nat.zero_le _, rfl, rfl, rfl, rfl, rfl, rfl, by simp⟩, ?_⟩
  rintro ρ H ⟨k, hk, h1, h2, h5, h13, h14, h15, hz⟩
  simp only [go_sem, h1, h2, h5, h13, h14, h15]
  refine acond_i (fun hlt => ?_) (fun hge => ?_)
  · have hlt := le_of_lt_b hlt
    obtain ⟨a, ha⟩ := getIn hlt
    have b1 := inB hlt
    simp only [go_sem, h1, h2, h5, h13, h14, h15, getD_map ha, b1]
    refine anew_i fun j hj => ?_
    simp only [go_sem, h1, h2, h5, h13, h14, h15, getD_map ha, b1]
    refine wputE_n (updH_same _ _ _) (by simp [encDecision_len]) ?_
    simp only [go_sem, h1, h2, h5, h13, h14, h15, getD_map ha, b1]
    refine ⟨_, fun _ => (has_c _ _).q rfl, ?_⟩
    simp only [go_sem, h1, h2, h5, h13, h14, h15, getD_map ha, b1]
    refine acond_i (fun hb => ?_) (fun hb => ?_)
    · simp only [go_sem]
      exact convB (any_hit ha (by rw [hb]; rfl)).symm
    simp only [go_sem, h1, h2, h5, h13, h14, h15, getD_map ha, b1]
    refine adraw_q (by rfl) (by kernel_rfl) ?_
    simp only [go_sem, h1, h2, h5, h13, h14, h15, getD_map ha, b1]
    rcases hty : x.types[a.a.toNat]? with _ | t
    · have hr' : (a.kind == 4 && decide (a.a ≥ 0) && decide (a.a < (x.types.length : Int))) = false := by
        rw [List.getElem?_eq_none_iff] at hty
        rw [Bool.and_eq_false_iff]
        by_cases h0 : 0 ≤ a.a
        · right; simp; omega
        · left; simp; omega
      have hb2 : overR x a = false := by unfold overR; rw [hr']; rfl
      refine ⟨fun h => absurd (by simpa using h) (show ¬ (a.kind == 4 && decide (a.a ≥ 0) && decide (a.a < (x.types.length : Int))) = true by rw [hr']; simp), fun h => absurd (by simpa using h) (show ¬ (a.kind == 4 && decide (a.a ≥ 0) && decide (a.a < (x.types.length : Int))) = true by rw [hr']; simp), ?_⟩
      simp only [go_sem, h1, h2, h5, h13, h14, h15, getD_map ha, b1, hr', getD_none hty]
      refine acond_i (fun hb2 => by simp at hb2) (fun _ => ?_)
      · skip
        simp only [go_sem, h1, h2, h5, h13, h14, h15]
        refine ⟨fun ρ H => ∃ i : Nat, i ≤ l.length ∧ ρ 1 = .sl (l.map encDecision) ∧ ρ 2 = .rp (encInstance x) 0 ∧ ρ 5 = int s ∧ ρ 7 = .op j 0 0 ∧ ρ 13 = .sl (l.map encDecision) ∧ ρ 14 = int l.length ∧ ρ 15 = int k ∧ ρ 56 = .sl (l.map encDecision) ∧ ρ 57 = int l.length ∧ H j = some ⟨57, 4, [encDecision a]⟩ ∧ ρ 58 = int i ∧ ∀ b ∈ l.take i, againstG (hasR s) a b = false, fun ρ _ => l.length - natOf (ρ 58), ⟨0, Nat.zero_le _, by simp only [go_sem, h1], by simp only [go_sem, h2], by simp only [go_sem, h5], by simp only [go_sem], by simp only [go_sem, h13], by simp only [go_sem, h14], by simp only [go_sem, h15], by simp only [go_sem], by simp only [go_sem], updH_same _ _ _, by simp only [go_sem]; rfl, by simp⟩, ?_⟩
        clear h1 h2 h5 h13 h14 h15
        rintro ρ H ⟨i, hi, h1, h2, h5, h7, h13, h14, h15, h56, h57, hj, hti, hy⟩
        simp only [go_sem, h1, h2, h5, h7, h13, h14, h15, h56, h57, hj, hti]
        refine acond_i (fun hlt2 => ?_) (fun hge2 => ?_)
        · have hlt2 := le_of_lt_b hlt2
          obtain ⟨b, hbk⟩ := getIn hlt2
          have b2 := inB hlt2
          simp only [go_sem, h1, h2, h5, h7, h13, h14, h15, h56, h57, hti, hj, getD_map hbk, b2]
          refine anew_i fun j2 hj2 => ?_
          have hne : j ≠ j2 := ne_new hj hj2
          simp only [go_sem, h1, h2, h5, h7, h13, h14, h15, h56, h57, hti, hj, getD_map hbk, b2]
          refine wputE_n (updH_same _ _ _) (by simp [encDecision_len]) ?_
          have hj' : updH (updH H j2 (some ⟨57, 4, [[int 0, int 0, int 0, int 0]]⟩)) j2 (some ⟨57, 4, [encDecision b]⟩) j = some ⟨57, 4, [encDecision a]⟩ := by rw [updH_ne _ _ _ _ hne, updH_ne _ _ _ _ hne]; exact hj
          simp only [go_sem, h1, h2, h5, h7, h13, h14, h15, h56, h57, hti, hj', getD_map hbk, b2]
          refine PC.use (against_c a b s) ?_
          simp only [go_sem, h1, h2, h5, h7, h13, h14, h15, h56, h57, hti]
          refine acond_i (fun hb3 => ?_) (fun hb3 => ?_)
          · simp only [go_sem]
            exact convB (any_hit ha (by rw [any_hit hbk hb3]; simp)).symm
          · simp only [go_sem, h1, h2, h5, h7, h13, h14, h15, h56, h57, hti, wrapS (show i ≤ 4611686018427387904 by omega)]
            exact ⟨⟨i + 1, hlt2, hj', rfl, take_allP (p := fun b => againstG (hasR s) a b = false) hbk hb3 hy⟩, by simp only [natOf_int]; omega⟩
        · have hge2 := eq_of_ge_b hi hge2
          subst hge2
          simp only [go_sem, h1, h2, h5, h7, h13, h14, h15, h56, h57, hti, wrapS (show k ≤ 4611686018427387904 by omega)]
          refine ⟨⟨k + 1, hlt, rfl, take_allP (p := fun a => (a.kind == 6 && hasR s a.a || overR x a || l.any (againstG (hasR s) a)) = false) ha (by rw [hb, hb2, any_none hy]; rfl) hz⟩, by simp only [natOf_int]; omega⟩
    · have hc : countAt x a.a = t.count := by unfold countAt; rw [hty]
      simp only [go_sem, h1, h2, h5, h13, h14, h15, getD_map ha, b1, getD_map hty]
      refine ⟨fun h => by simp at h; omega, ?_⟩
      have hov : (a.kind == 4 && decide (a.a ≥ 0) && decide (a.a < (x.types.length : Int)) && decide (a.n > t.count)) = overR x a := by unfold overR; rw [hc]
      rw [hov]
      refine acond_i (fun hb2 => ?_) (fun hb2 => ?_)
      · simp only [go_sem]
        exact convB (any_hit ha (by rw [hb2]; simp)).symm
      · skip
        simp only [go_sem, h1, h2, h5, h13, h14, h15]
        refine ⟨fun ρ H => ∃ i : Nat, i ≤ l.length ∧ ρ 1 = .sl (l.map encDecision) ∧ ρ 2 = .rp (encInstance x) 0 ∧ ρ 5 = int s ∧ ρ 7 = .op j 0 0 ∧ ρ 13 = .sl (l.map encDecision) ∧ ρ 14 = int l.length ∧ ρ 15 = int k ∧ ρ 56 = .sl (l.map encDecision) ∧ ρ 57 = int l.length ∧ H j = some ⟨57, 4, [encDecision a]⟩ ∧ ρ 58 = int i ∧ ∀ b ∈ l.take i, againstG (hasR s) a b = false, fun ρ _ => l.length - natOf (ρ 58), ⟨0, Nat.zero_le _, by simp only [go_sem, h1], by simp only [go_sem, h2], by simp only [go_sem, h5], by simp only [go_sem], by simp only [go_sem, h13], by simp only [go_sem, h14], by simp only [go_sem, h15], by simp only [go_sem], by simp only [go_sem], updH_same _ _ _, by simp only [go_sem]; rfl, by simp⟩, ?_⟩
        clear h1 h2 h5 h13 h14 h15
        rintro ρ H ⟨i, hi, h1, h2, h5, h7, h13, h14, h15, h56, h57, hj, hti, hy⟩
        simp only [go_sem, h1, h2, h5, h7, h13, h14, h15, h56, h57, hj, hti]
        refine acond_i (fun hlt2 => ?_) (fun hge2 => ?_)
        · have hlt2 := le_of_lt_b hlt2
          obtain ⟨b, hbk⟩ := getIn hlt2
          have b2 := inB hlt2
          simp only [go_sem, h1, h2, h5, h7, h13, h14, h15, h56, h57, hti, hj, getD_map hbk, b2]
          refine anew_i fun j2 hj2 => ?_
          have hne : j ≠ j2 := ne_new hj hj2
          simp only [go_sem, h1, h2, h5, h7, h13, h14, h15, h56, h57, hti, hj, getD_map hbk, b2]
          refine wputE_n (updH_same _ _ _) (by simp [encDecision_len]) ?_
          have hj' : updH (updH H j2 (some ⟨57, 4, [[int 0, int 0, int 0, int 0]]⟩)) j2 (some ⟨57, 4, [encDecision b]⟩) j = some ⟨57, 4, [encDecision a]⟩ := by rw [updH_ne _ _ _ _ hne, updH_ne _ _ _ _ hne]; exact hj
          simp only [go_sem, h1, h2, h5, h7, h13, h14, h15, h56, h57, hti, hj', getD_map hbk, b2]
          refine PC.use (against_c a b s) ?_
          simp only [go_sem, h1, h2, h5, h7, h13, h14, h15, h56, h57, hti]
          refine acond_i (fun hb3 => ?_) (fun hb3 => ?_)
          · simp only [go_sem]
            exact convB (any_hit ha (by rw [any_hit hbk hb3]; simp)).symm
          · simp only [go_sem, h1, h2, h5, h7, h13, h14, h15, h56, h57, hti, wrapS (show i ≤ 4611686018427387904 by omega)]
            exact ⟨⟨i + 1, hlt2, hj', rfl, take_allP (p := fun b => againstG (hasR s) a b = false) hbk hb3 hy⟩, by simp only [natOf_int]; omega⟩
        · have hge2 := eq_of_ge_b hi hge2
          subst hge2
          simp only [go_sem, h1, h2, h5, h7, h13, h14, h15, h56, h57, hti, wrapS (show k ≤ 4611686018427387904 by omega)]
          refine ⟨⟨k + 1, hlt, rfl, take_allP (p := fun a => (a.kind == 6 && hasR s a.a || overR x a || l.any (againstG (hasR s) a)) = false) ha (by rw [hb, hb2, any_none hy]; rfl) hz⟩, by simp only [natOf_int]; omega⟩
  · have hge := eq_of_ge_b hk hge
    subst hge
    simp only [go_sem]
    exact convB (any_none hz).symm
theorem Must_c (x : Instance) (l : List Decision) (i : Int) (hi : 0 ≤ i ∧ i < (x.orders.length : Int)) (hl : l.length ≤ 1048576) : PC Try.prog 72 [.agg (encInstance x), .sl (l.map encDecision), int i] (boo (mustB x l i.toNat)) := by
  obtain ⟨o, ho⟩ := getIn (show i.toNat < x.orders.length by omega)
  have b0 : 0 ≤ i ∧ i < (x.orders.length : Int) := hi
  have hm : mustB x l i.toNat = ((o.penalty == -1 || l.any (serveD i)) && !o.off) := by unfold mustB; rw [ho, Int.toNat_of_nonneg hi.1]
  rw [hm]
  refine PC.body (c := Try.f72.body.getD .skip) (fun _ => false) mixed Try.func72 rfl (by kernel_rfl) ?_
  unfold Try.f72
  simp only [Option.getD_some]
  simp only [go_sem]
  simp only [go_sem, getD_map ho, b0]
  refine acond_i (fun hb => ?_) (fun hb => ?_)
  · simp only [go_sem]
    exact convB (by rw [hb]; simp)
  · rw [hb]
    simp only [go_sem, getD_map ho, b0]
    refine ⟨fun ρ _ => ∃ k : Nat, k ≤ l.length ∧ ρ 1 = .sl (l.map encDecision) ∧ ρ 2 = int i ∧ ρ 3 = .rp (encInstance x) 0 ∧ ρ 7 = int k ∧ ∀ d ∈ l.take k, serveD i d = false, fun ρ _ => l.length - natOf (ρ 7), ⟨0, Nat.zero_le _, rfl, rfl, rfl, rfl, by simp⟩, ?_⟩
    rintro ρ H ⟨k, hk, h1, h2, h3, h7, hz⟩
    simp only [go_sem, h1, h2, h3, h7]
    refine acond_i (fun hlt => ?_) (fun hge => ?_)
    · have hlt := le_of_lt_b hlt
      obtain ⟨d, hd⟩ := getIn hlt
      have b1 := inB hlt
      simp only [go_sem, h1, h2, h3, h7, getD_map hd, b1]
      refine acond_i (fun hb => ?_) (fun hb => ?_)
      · simp only [go_sem]
        exact convB (by rw [any_hit hd hb]; simp)
      · simp only [go_sem, h1, h2, h3, h7, wrapS (show k ≤ 4611686018427387904 by omega)]
        exact ⟨⟨k + 1, hlt, rfl, take_allP (p := fun d => serveD i d = false) hd hb hz⟩, by simp only [natOf_int]; omega⟩
    · have hge := eq_of_ge_b hk hge
      subst hge
      simp only [go_sem, h1, h2, h3, h7, getD_map ho, b0]
      exact convB (by rw [any_none hz]; simp)
theorem pair_c (x : Instance) (l : List Decision) (a b : Decision) (hl : l.length ≤ 1048576) (ha : a.kind = 1 → (0 ≤ a.a ∧ a.a < (x.orders.length : Int)) ∧ 0 ≤ a.b ∧ a.b < (x.orders.length : Int)) :
    PC Try.prog 73 [.agg (encInstance x), .sl (l.map encDecision), .agg (encDecision a), .agg (encDecision b)] (boo (againstG (fun i => mustB x l i.toNat) a b)) := by
  refine PC.body (c := Try.f73.body.getD .skip) (fun _ => false) mixed Try.func73 rfl (by kernel_rfl) ?_
  unfold Try.f73
  simp only [Option.getD_some]
  simp only [go_sem]
  refine acond_i (fun hb => ?_) (fun hb => ?_)
  · have hk : a.kind = 1 := by simp at hb; exact hb.1
    simp only [go_sem]
    repeat' (first | (refine PC.use (Must_c x l a.a (ha hk).1 hl) ?_) | (refine ⟨_, fun _ => PC.q (Must_c x l a.a (ha hk).1 hl) rfl, ?_⟩) | (refine ⟨_, PC.q (Must_c x l a.a (ha hk).1 hl) rfl, ?_⟩) | (refine PC.use (Must_c x l a.b (ha hk).2 hl) ?_) | (refine ⟨_, fun _ => PC.q (Must_c x l a.b (ha hk).2 hl) rfl, ?_⟩) | (refine ⟨_, PC.q (Must_c x l a.b (ha hk).2 hl) rfl, ?_⟩) | (refine acond_i (fun hb => ?_) (fun hb => ?_)) | (simp only [go_sem]))
    all_goals (refine convB ?_; unfold againstG sameR; rw [if_pos hb])
  · simp only [go_sem]
    repeat' (first | (refine acond_i (fun hb => ?_) (fun hb => ?_)) | (simp only [go_sem]))
    all_goals (refine convB ?_; unfold againstG; rw [if_neg (by rw [hb]; simp)]; simp [Bool.and_assoc])
/-- what the reference asks of a decision -/
def refOk (x : Instance) (a : Decision) : Prop := (a.kind = 1 → (0 ≤ a.a ∧ a.a < (x.orders.length : Int)) ∧ 0 ≤ a.b ∧ a.b < (x.orders.length : Int)) ∧ (a.kind = 6 → 0 ≤ a.a ∧ a.a < (x.orders.length : Int)) ∧ (a.kind = 4 → 0 ≤ a.a ∧ a.a < (x.types.length : Int))
theorem Clash29_c (x : Instance) (l : List Decision) (hl : l.length ≤ 1048576) (hd : ∀ a ∈ l, refOk x a) : PC Try.prog 38 [.agg (encInstance x), .sl (l.map encDecision)] (boo (clashG x l (fun i => mustB x l i.toNat))) := by
  refine PC.body (c := Try.f38.body.getD .skip) (fun _ => false) mixed Try.func38 rfl (by kernel_rfl) ?_
  unfold Try.f38
  simp only [Option.getD_some]
  simp only [go_sem]
  generalize hH : (fun i : Int => mustB x l i.toNat) = has
  refine ⟨fun ρ _ => ∃ k : Nat, k ≤ l.length ∧ ρ 1 = .sl (l.map encDecision) ∧ ρ 2 = .rp (encInstance x) 0 ∧ ρ 5 = int k ∧ ∀ a ∈ l.take k, (a.kind == 6 && has a.a || overR x a || l.any (againstG has a)) = false, fun ρ _ => l.length - natOf (ρ 5), ⟨0, Nat.zero_le _, rfl, rfl, rfl, by simp⟩, ?_⟩
  rintro ρ H ⟨k, hk, h1, h2, h5, hz⟩
  simp only [go_sem, h1, h2, h5]
  refine acond_i (fun hlt => ?_) (fun hge => ?_)
  · have hlt := le_of_lt_b hlt
    obtain ⟨a, ha⟩ := getIn hlt
    have b1 := inB hlt
    have hr := hd a (List.mem_of_getElem? ha)
    simp only [go_sem]
    refine adraw_q (by rfl) (by kernel_rfl) ?_
    simp only [go_sem, h1, h2, h5, getD_map ha, b1]
    have hm : mustB x l a.a.toNat = has a.a := by rw [← hH]
    refine ⟨_, fun hg => (Must_c x l a.a (hr.2.1 (by simpa using hg)) hl).q rfl, ?_⟩
    rw [hm]
    simp only [go_sem, h1, h2, h5, getD_map ha, b1]
    rcases hty : x.types[a.a.toNat]? with _ | t
    · have hk4 : (a.kind == 4) = false := by
        rw [List.getElem?_eq_none_iff] at hty
        simp only [beq_eq_false_iff_ne, ne_eq]
        intro e
        have := hr.2.2 e
        omega
      have hov : overR x a = false := by unfold overR; rw [hk4]; rfl
      refine ⟨fun h => by rw [hk4] at h; simp at h, fun h => by rw [hk4] at h; simp at h, ?_⟩
      simp only [go_sem, h1, h2, h5, getD_map ha, b1, hk4, getD_none hty, Bool.and_false]
      refine acond_i (fun hb => ?_) (fun hb => ?_)
      · rw [Bool.and_true] at hb
        simp only [go_sem]
        exact convB (any_hit ha (by rw [hb]; rfl)).symm
      · rw [Bool.and_true] at hb
        have hb : (a.kind == 6 && has a.a || overR x a) = false := by rw [hb, hov]; rfl
        simp only [go_sem, h1, h2, h5]
        refine ⟨fun ρ H => ∃ i : Nat, i ≤ l.length ∧ ρ 1 = .sl (l.map encDecision) ∧ ρ 2 = .rp (encInstance x) 0 ∧ ρ 5 = int k ∧ ρ 6 = int i ∧ ∀ b ∈ l.take i, againstG has a b = false, fun ρ _ => l.length - natOf (ρ 6), ⟨0, Nat.zero_le _, by simp only [go_sem, h1], by simp only [go_sem, h2], by simp only [go_sem, h5], by simp only [go_sem]; rfl, by simp⟩, ?_⟩
        clear h1 h2 h5
        rintro ρ H ⟨i, hi, h1, h2, h5, h6, hy⟩
        simp only [go_sem, h1, h2, h5, h6]
        refine acond_i (fun hlt2 => ?_) (fun hge2 => ?_)
        · have hlt2 := le_of_lt_b hlt2
          obtain ⟨b, hbk⟩ := getIn hlt2
          have b2 := inB hlt2
          simp only [go_sem]
          refine adraw_q (by rfl) (by kernel_rfl) ?_
          simp only [go_sem, h1, h2, h5, h6, getD_map ha, getD_map hbk, b1, b2]
          have hpr := (pair_c x l a b hl hr.1).q (H := H) rfl
          rw [hH] at hpr
          refine ⟨_, hpr, ?_⟩
          simp only [go_sem, h1, h2, h5, h6]
          refine acond_i (fun hb3 => ?_) (fun hb3 => ?_)
          · simp only [go_sem]
            exact convB (any_hit ha (by rw [any_hit hbk hb3]; simp)).symm
          · simp only [go_sem, h1, h2, h5, h6, wrapS (show i ≤ 4611686018427387904 by omega)]
            exact ⟨⟨i + 1, hlt2, rfl, take_allP (p := fun b => againstG has a b = false) hbk hb3 hy⟩, by simp only [natOf_int]; omega⟩
        · have hge2 := eq_of_ge_b hi hge2
          subst hge2
          simp only [go_sem, h1, h2, h5, h6, wrapS (show k ≤ 4611686018427387904 by omega)]
          refine ⟨⟨k + 1, hlt, rfl, take_allP (p := fun a => (a.kind == 6 && has a.a || overR x a || l.any (againstG has a)) = false) ha (by rw [hb, any_none hy]; rfl) hz⟩, by simp only [natOf_int]; omega⟩
    · have hov : overR x a = (a.kind == 4 && decide (a.n > t.count)) := by
        unfold overR countAt
        rw [hty]
        by_cases e : a.kind = 4
        · have h0 := hr.2.2 e
          have e1 : decide (a.a ≥ 0) = true := by simpa using h0.1
          have e2 : decide (a.a < (x.types.length : Int)) = true := by simpa using h0.2
          rw [e1, e2]; simp
        · have : (a.kind == 4) = false := by simpa using e
          rw [this]; rfl
      simp only [go_sem, h1, h2, h5, getD_map ha, b1, getD_map hty]
      refine ⟨fun h => hr.2.2 (by simpa using h.2), ?_⟩
      rw [← hov]
      refine acond_i (fun hb => ?_) (fun hb => ?_)
      · simp only [go_sem]
        exact convB (any_hit ha (by rw [hb]; rfl)).symm
      · skip
        simp only [go_sem, h1, h2, h5]
        refine ⟨fun ρ H => ∃ i : Nat, i ≤ l.length ∧ ρ 1 = .sl (l.map encDecision) ∧ ρ 2 = .rp (encInstance x) 0 ∧ ρ 5 = int k ∧ ρ 6 = int i ∧ ∀ b ∈ l.take i, againstG has a b = false, fun ρ _ => l.length - natOf (ρ 6), ⟨0, Nat.zero_le _, by simp only [go_sem, h1], by simp only [go_sem, h2], by simp only [go_sem, h5], by simp only [go_sem]; rfl, by simp⟩, ?_⟩
        clear h1 h2 h5
        rintro ρ H ⟨i, hi, h1, h2, h5, h6, hy⟩
        simp only [go_sem, h1, h2, h5, h6]
        refine acond_i (fun hlt2 => ?_) (fun hge2 => ?_)
        · have hlt2 := le_of_lt_b hlt2
          obtain ⟨b, hbk⟩ := getIn hlt2
          have b2 := inB hlt2
          simp only [go_sem]
          refine adraw_q (by rfl) (by kernel_rfl) ?_
          simp only [go_sem, h1, h2, h5, h6, getD_map ha, getD_map hbk, b1, b2]
          have hpr := (pair_c x l a b hl hr.1).q (H := H) rfl
          rw [hH] at hpr
          refine ⟨_, hpr, ?_⟩
          simp only [go_sem, h1, h2, h5, h6]
          refine acond_i (fun hb3 => ?_) (fun hb3 => ?_)
          · simp only [go_sem]
            exact convB (any_hit ha (by rw [any_hit hbk hb3]; simp)).symm
          · simp only [go_sem, h1, h2, h5, h6, wrapS (show i ≤ 4611686018427387904 by omega)]
            exact ⟨⟨i + 1, hlt2, rfl, take_allP (p := fun b => againstG has a b = false) hbk hb3 hy⟩, by simp only [natOf_int]; omega⟩
        · have hge2 := eq_of_ge_b hi hge2
          subst hge2
          simp only [go_sem, h1, h2, h5, h6, wrapS (show k ≤ 4611686018427387904 by omega)]
          refine ⟨⟨k + 1, hlt, rfl, take_allP (p := fun a => (a.kind == 6 && has a.a || overR x a || l.any (againstG has a)) = false) ha (by rw [hb, any_none hy]; rfl) hz⟩, by simp only [natOf_int]; omega⟩
  · have hge := eq_of_ge_b hk hge
    subst hge
    simp only [go_sem]
    exact convB (any_none hz).symm

def accN (l : List Route) : Nat := l.foldl (fun s r => s ||| setN r.visits) 0
theorem accN_succ {l : List Route} {k : Nat} {r : Route} (h : l[k]? = some r) : accN (l.take (k + 1)) = accN (l.take k) ||| setN r.visits := foldl_take h
theorem accN_lt (l : List Route) (h : ∀ r ∈ l, setN r.visits < 2 ^ 62) : accN l < 2 ^ 62 := by
  suffices ∀ (l : List Route) (s : Nat), s < 2 ^ 62 → (∀ r ∈ l, setN r.visits < 2 ^ 62) → l.foldl (fun s r => s ||| setN r.visits) s < 2 ^ 62 from this l 0 (by decide) h
  intro l
  induction l with
  | nil => intro s hs _; exact hs
  | cons r l ih => intro s hs h; rw [List.foldl_cons]; exact ih _ (Nat.or_lt_two_pow hs (h r (by simp))) fun r hr => h r (by simp [hr])
/-- no order on two routes -/
def aloneAt (l : List Route) (k : Nat) : Bool := match l[k]? with | some r => accN (l.take k) &&& setN r.visits == 0 | none => true
def singleR (p : Plan) : Bool := (List.range p.routes.length).all (aloneAt p.routes)
theorem single_c (p : Plan) (hp : p.routes.length ≤ 1048576) (hv : ∀ r ∈ p.routes, smallV r) : PC Try.prog 39 [.agg (encPlan p)] (boo (singleR p)) := by
  refine PC.body (c := Try.f39.body.getD .skip) (fun _ => false) mixed Try.func39 rfl (by kernel_rfl) ?_
  unfold Try.f39
  simp only [Option.getD_some]
  simp only [go_sem]
  refine ⟨fun ρ _ => ∃ k : Nat, k ≤ p.routes.length ∧ ρ 8 = .sl (p.routes.map encRoute) ∧ ρ 9 = int p.routes.length ∧ ρ 10 = int k ∧ ρ 3 = int (accN (p.routes.take k) : Nat) ∧ ∀ i < k, aloneAt p.routes i = true, fun ρ _ => p.routes.length - natOf (ρ 10), ⟨0, Nat.zero_le _, rfl, rfl, rfl, rfl, by simp⟩, ?_⟩
  rintro ρ H ⟨k, hk, h8, h9, h10, h3, hz⟩
  simp only [go_sem, h8, h9, h10, h3]
  refine acond_i (fun hlt => ?_) (fun hge => ?_)
  · have hlt := le_of_lt_b hlt
    obtain ⟨r, hr⟩ := getIn hlt
    have b1 := inB hlt
    have hs := hv r (List.mem_of_getElem? hr)
    have hl1 := smallV_lt hs
    have hl2 : accN (p.routes.take k) < 2 ^ 62 := accN_lt _ fun r hr => smallV_lt (hv r (List.mem_of_mem_take hr))
    simp only [go_sem, h8, h9, h10, h3, getD_map hr, b1]
    refine anew_i fun j hj => ?_
    simp only [go_sem, h8, h9, h10, h3, getD_map hr, b1]
    refine wputE_n (updH_same _ _ _) (by simp [encRoute_len]) ?_
    simp only [go_sem, h8, h9, h10, h3, getD_map hr, b1]
    refine PC.use (set_c r hs.1 hs.2) ?_
    simp only [go_sem, h8, h9, h10, h3, and_nat (show accN (p.routes.take k) < 2 ^ 63 by omega) (show setN r.visits < 2 ^ 63 by omega)]
    have ha : aloneAt p.routes k = (accN (p.routes.take k) &&& setN r.visits == 0) := by unfold aloneAt; rw [hr]
    refine acond_i (fun hb => ?_) (fun hb => ?_)
    · simp only [go_sem]
      refine convB (Eq.symm ?_)
      unfold singleR
      rw [List.all_eq_false]
      refine ⟨k, by simpa using hlt, ?_⟩
      rw [ha]
      simp only [bne_iff_ne, ne_eq, beq_iff_eq] at hb ⊢
      omega
    · simp only [go_sem, h8, h9, h10, h3, or_nat (show accN (p.routes.take k) < 2 ^ 63 by omega) (show setN r.visits < 2 ^ 63 by omega), wrapS (show k ≤ 4611686018427387904 by omega)]
      refine ⟨⟨k + 1, hlt, rfl, by rw [accN_succ hr], fun i hi => ?_⟩, by simp only [natOf_int]; omega⟩
      rcases Nat.lt_or_ge i k with h | h
      · exact hz i h
      · have e : i = k := by omega
        subst e
        rw [ha]
        simp only [bne_eq_false_iff_eq] at hb
        simp only [beq_iff_eq]
        omega
  · have hge := eq_of_ge_b hk hge
    subst hge
    simp only [go_sem]
    refine convB (Eq.symm ?_)
    unfold singleR
    rw [List.all_eq_true]
    intro i hi
    exact hz i (by simpa using hi)
end Go.Proofs.Ytjlbikpgjejkjaa.Dec
