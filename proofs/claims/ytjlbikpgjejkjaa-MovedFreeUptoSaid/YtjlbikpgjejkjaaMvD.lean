/- moved.Count; the example of the laws; MovedCounts. -/
import Derived.Test.YtjlbikpgjejkjaaMvC
import Derived.Test.YtjlbikpgjejkjaaRefP
import Derived.Test.YtjlbikpgjejkjaaBridge
set_option linter.unusedSimpArgs false
set_option linter.unusedVariables false
namespace Go.Proofs.Ytjlbikpgjejkjaa.Mv
open Go.Aw Go.Aw.D Go.Proofs Ty
set_option maxRecDepth 100000

theorem Count_c (x : Instance) (a b : Plan) (ho : x.orders.length ≤ 1048576) (ha : PlanB a) (hb : PlanB b) :
    PC Try.prog 15 [.agg (encInstance x), .agg (encPlan a), .agg (encPlan b)] (.tup [int (countR x a b).1, int (countR x a b).2]) := by
  refine PC.body (c := Try.f15.body.getD .skip) (fun _ => false) mixed Try.func15 rfl (by kernel_rfl) ?_
  unfold Try.f15
  simp only [Option.getD_some]
  simp only [go_sem]
  refine PC.use (Kinds_c x a ho ha.routes ha.visits) ?_
  simp only [go_sem]
  refine acond_i (fun h1 => ?_) (fun h1 => ?_)
  · simp only [go_sem]
    have : countR x a b = (0, wrongR x a) := if_pos h1
    rw [this]; exact .refl _
  · simp only [go_sem]
    refine PC.use (Kinds_c x b ho hb.routes hb.visits) ?_
    simp only [go_sem]
    refine acond_i (fun h2 => ?_) (fun h2 => ?_)
    · simp only [go_sem]
      have : countR x a b = (0, wrongR x b) := by unfold countR; rw [if_neg (by rw [h1]; simp), if_pos h2]
      rw [this]; exact .refl _
    · have hc : countR x a b = (((diffsR (kindsR x a) (kindsR x b) : Nat) : Int), 0) := by unfold countR; rw [if_neg (by rw [h1]; simp), if_neg (by rw [h2]; simp)]
      have e1 := kindsR_len h1
      have e2 := kindsR_len h2
      rw [hc]
      generalize kindsR x a = la at e1
      generalize kindsR x b = lb at e2
      simp only [go_sem]
      refine ⟨fun ρ _ => ∃ k : Nat, k ≤ la.length ∧ ρ 8 = .sl (la.map encInt) ∧ ρ 10 = .sl (lb.map encInt) ∧ ρ 32 = int la.length ∧ ρ 33 = int k ∧ ρ 11 = int ((List.range k).countP fun i => la.getD i 0 != lb.getD i 0 : Nat), fun ρ _ => la.length - natOf (ρ 33), ⟨0, Nat.zero_le _, rfl, rfl, rfl, rfl, rfl⟩, ?_⟩
      rintro ρ H ⟨k, hk, h8, h10, h32, h13, h12⟩
      simp only [go_sem, h8, h10, h32, h13, h12]
      refine acond_i (fun hlt => ?_) (fun hge => ?_)
      · have hlt := le_of_lt_b hlt
        obtain ⟨u, hu⟩ := getIn hlt
        obtain ⟨v, hv⟩ := getIn (show k < lb.length by omega)
        have b1 := inB hlt
        have b2 := inB (show k < lb.length by omega)
        have hcl : (List.range k).countP (fun i => la.getD i 0 != lb.getD i 0) ≤ k := Nat.le_trans List.countP_le_length (by simp)
        have hs : (List.range (k + 1)).countP (fun i => la.getD i 0 != lb.getD i 0) = (List.range k).countP (fun i => la.getD i 0 != lb.getD i 0) + (if (u != v) = true then 1 else 0) := by
          rw [List.range_succ, List.countP_append, List.countP_singleton]; simp [List.getD, hu, hv]
        generalize (List.range k).countP (fun i => la.getD i 0 != lb.getD i 0) = c at hs hcl h12
        simp only [go_sem, h13]
        refine adraw_q (by rfl) (by kernel_rfl) ?_
        simp only [go_sem, h8, h10, h32, h13, b1, b2, getD_map hu, getD_map hv]
        refine acond_joinL (fun ρ' _ => ρ' 8 = .sl (la.map encInt) ∧ ρ' 10 = .sl (lb.map encInt) ∧ ρ' 32 = int la.length ∧ ρ' 33 = int k ∧ ρ' 11 = int ((c + (if (u != v) = true then 1 else 0) : Nat) : Int)) ?_ fun K hK _ _ => acond_i (fun hb => ?_) (fun hb => ?_)
        · clear h8 h10 h32 h13 h12
          rintro ρ H ⟨h8, h10, h32, h13, h12⟩
          simp only [go_sem, h8, h10, h32, h13, h12, wrapS (show k ≤ 4611686018427387904 by omega)]
          exact ⟨⟨k + 1, hlt, rfl, by rw [hs]⟩, by simp only [natOf_int]; omega⟩
        · simp only [go_sem, h12, wrapS (show c ≤ 4611686018427387904 by omega)]
          refine hK _ _ ⟨by simp only [go_sem, h8], by simp only [go_sem, h10], by simp only [go_sem, h32], by simp only [go_sem, h13], ?_⟩
          simp only [go_sem]
          rw [if_pos hb]
        · simp only [go_sem]
          refine hK _ _ ⟨by simp only [go_sem, h8], by simp only [go_sem, h10], by simp only [go_sem, h32], by simp only [go_sem, h13], ?_⟩
          simp only [go_sem, h12]
          rw [if_neg (by rw [hb]; simp), Nat.add_zero]
      · have hge := eq_of_ge_b hk hge
        subst hge
        simp only [go_sem, h12]
        exact .refl _
def aO (s : ByteArray) (off : Bool) : Order := ⟨s, [1], ⟨-1, 0, 0, 0⟩, ⟨0, 0, 9, 0⟩, 0, 3, 1, -1, -1, off⟩
def aT : VType := ⟨exS 118, 1, 0, 0, [5], 0, 0, 0, 9, 9, 0, 0, 0, 0⟩
def aX : Instance := ⟨⟨[exS 97], []⟩, [aT], [aO (exS 112) true, aO (exS 111) false], [], []⟩
def aP : Plan := ⟨[], [1]⟩
def aQ : Plan := ⟨[⟨1, 0, [], []⟩], []⟩
theorem a1 : PC Try.prog 17 [.agg (encInstance aX), .agg (encPlan aP)] (.tup [.sl [[int (-1)], [int (-1)]], int 0]) := Kinds_c aX aP (by decide) (by decide) (by decide)
theorem a2 : PC Try.prog 15 [.agg (encInstance aX), .agg (encPlan ⟨[], []⟩), .agg (encPlan aQ)] (.tup [int 0, int 2]) := Count_c aX ⟨[], []⟩ aQ (by decide) ⟨by decide, by decide⟩ ⟨by decide, by decide⟩
theorem awake_c : PC Try.prog 14 [] (boo true) := by
  refine PC.body (c := Try.f14.body.getD .skip) (fun _ => false) mixed Try.func14 rfl (by kernel_rfl) ?_
  unfold Try.f14
  simp only [Option.getD_some]
  simp only [go_sem]
  refine anew_i fun j1 hj1 => ?_
  simp only [go_sem]
  refine wputE_n (updH_same _ _ _) (by simp) ?_
  simp only [go_sem]
  refine anew_i fun j2 hj2 => ?_
  have hne : j1 ≠ j2 := ne_new (updH_same _ _ _) hj2
  simp only [go_sem]
  refine wputE_n (updH_same _ _ _) (by simp) ?_
  simp only [go_sem]
  refine wputE_1 so9 (updH_same _ _ _) (by simp) ?_
  simp only [go_sem]
  refine wputE_1 so4 (updH_same _ _ _) (by simp) ?_
  simp only [go_sem]
  generalize hG : updH _ j2 _ = HG
  have B2 : HG j2 = some ⟨75, 16, [encOrder (aO (exS 112) true)]⟩ := by rw [← hG, updH_same]; rfl
  have B1 : HG j1 = some ⟨75, 16, [encOrder (aO (exS 111) false)]⟩ := by rw [← hG]; simp only [updH_ne _ _ _ _ hne, updH_same]; rfl
  clear hG
  simp only [go_sem, B1, B2]
  refine anew_i fun j3 hj3 => ?_
  simp only [go_sem]
  refine wputE_n (updH_same _ _ _) (by simp) ?_
  simp only [go_sem]
  refine PC.use a1 ?_
  simp only [go_sem]
  refine PC.use a2 ?_
  simp only [go_sem]
  refine ⟨fun _ => by decide, fun _ => by decide, ?_⟩
  exact .refl _

/-! ### MovedCounts -/
theorem countP_imp2 {α : Type} {p q r : α → Bool} (h : ∀ x, p x = true → q x = true ∨ r x = true) : ∀ l : List α, l.countP p ≤ l.countP q + l.countP r
  | [] => by simp
  | x :: l => by
    have ih := countP_imp2 h l
    simp only [List.countP_cons]
    have hx := h x
    split
    · rename_i hp
      rcases hx hp with h1 | h1 <;> rw [if_pos h1] <;> split <;> omega
    · split <;> split <;> omega
theorem diffs_comm {la lb : List Int} (h : la.length = lb.length) : diffsR la lb = diffsR lb la := by
  unfold diffsR
  rw [h]
  refine List.countP_congr fun i _ => ?_
  simp only [bne_iff_ne, ne_eq]
  exact ⟨fun h e => h e.symm, fun h e => h e.symm⟩
theorem diffs_self (la : List Int) : diffsR la la = 0 := by
  unfold diffsR
  rw [List.countP_eq_zero]
  intro i _
  simp
theorem diffs_three {la lb lc : List Int} (h : la.length = lb.length) : diffsR la lc ≤ diffsR la lb + diffsR lb lc := by
  unfold diffsR
  rw [← h]
  refine countP_imp2 (fun i hi => ?_) _
  simp only [bne_iff_ne, ne_eq] at hi ⊢
  by_cases e : la.getD i 0 = lb.getD i 0
  · right; rw [← e]; exact hi
  · left; exact e
theorem diffs_le (la lb : List Int) : diffsR la lb ≤ la.length := Nat.le_trans List.countP_le_length (by simp)
theorem count_ok {x : Instance} {a b : Plan} (h : (countR x a b).2 = 0) : wrongR x a = 0 ∧ wrongR x b = 0 ∧ (countR x a b).1 = (diffsR (kindsR x a) (kindsR x b) : Nat) := by
  unfold countR at h ⊢
  by_cases h1 : (wrongR x a != 0) = true
  · rw [if_pos h1] at h; simp at h1; exact absurd h h1
  · rw [if_neg h1] at h ⊢
    by_cases h2 : (wrongR x b != 0) = true
    · rw [if_pos h2] at h; simp at h2; exact absurd h h2
    · rw [if_neg h2]
      simp at h1 h2
      exact ⟨h1, h2, rfl⟩
theorem count_law {x : Instance} {a b c : Plan} (ho : x.orders.length ≤ 1048576) (h1 : (countR x a b).2 = 0) (h2 : (countR x b c).2 = 0) :
    (countR x b a).1 = (countR x a b).1 ∧ (countR x a c).1 ≤ IntKind.i64.wrap ((countR x a b).1 + (countR x b c).1) ∧ (countR x a a).1 = 0 ∧ (countR x a a).2 = 0 := by
  obtain ⟨wa, wb, e1⟩ := count_ok h1
  obtain ⟨_, wc, e2⟩ := count_ok h2
  have ok : ∀ {p q : Plan}, wrongR x p = 0 → wrongR x q = 0 → countR x p q = (((diffsR (kindsR x p) (kindsR x q) : Nat) : Int), 0) := fun hp hq => by
    unfold countR; rw [if_neg (by rw [hp]; simp), if_neg (by rw [hq]; simp)]
  have la := kindsR_len (x := x) (p := a) (by rw [wa]; rfl)
  have lb := kindsR_len (x := x) (p := b) (by rw [wb]; rfl)
  have d1 := diffs_le (kindsR x a) (kindsR x b)
  have d2 := diffs_le (kindsR x b) (kindsR x c)
  have d3 := diffs_three (lc := kindsR x c) (la.trans lb.symm)
  rw [ok wb wa, ok wa wb, ok wa wc, ok wb wc, ok wa wa, diffs_comm (lb.trans la.symm), diffs_self]
  refine ⟨rfl, ?_, rfl, rfl⟩
  simp only
  rw [wrap_in (by omega)]
  omega
theorem planB_of {p : Plan} (h : bPlan 1048576 p) : PlanB p := ⟨h.1.1, fun r hr => (h.1.2 r hr).2.2.2.1⟩
theorem countsLaw_c (x : Instance) (l : Plan3) (hx : bInstance 1048576 x) (hl : bPlan3 1048576 l) :
    PC Try.prog 3 [.agg (encInstance x), .agg (encPlan3 l)] (.v (.bool true)) := by
  have hI := NC.pc (check_c x (inB_of hx))
  have ho : x.orders.length ≤ 1048576 := hx.2.2.1.1
  obtain ⟨hp, hq, hr⟩ := hl
  have bp := planB_of hp
  have bq := planB_of hq
  have br := planB_of hr
  have l6 : (encPlan3 l).length = 6 := rfl
  have t0 : (encPlan3 l).take 2 = encPlan l.p := rfl
  have t1 : ((encPlan3 l).drop 2).take 2 = encPlan l.q := rfl
  have t2 : ((encPlan3 l).drop 4).take 2 = encPlan l.r := rfl
  refine PC.body (c := Try.f3.body.getD .skip) (fun _ => false) mixed Try.func3 rfl (by kernel_rfl) ?_
  unfold Try.f3
  simp only [Option.getD_some]
  simp only [go_sem]
  refine PC.use hI ?_
  simp only [go_sem, l6, t0, t1, t2]
  refine ⟨fun _ => by decide, _, fun _ => (few_c l.p bp.routes).q rfl, ?_⟩
  simp only [go_sem, l6, t0, t1, t2]
  refine ⟨fun _ => by decide, _, fun _ => (few_c l.q bq.routes).q rfl, ?_⟩
  simp only [go_sem, l6, t0, t1, t2]
  refine ⟨fun _ => by decide, _, fun _ => (few_c l.r br.routes).q rfl, ?_⟩
  simp only [go_sem, l6, t0, t1, t2]
  refine acond_i (fun hb => ?_) (fun hb => ?_)
  · simp only [go_sem, l6, t0, t1, t2]
    refine PC.use awake_c ?_
    simp only [go_sem, l6, t0, t1, t2]
    exact .refl _
  clear hb
  simp only [go_sem, l6, t0, t1, t2]
  refine ⟨by decide, by decide, PC.use (Count_c x l.p l.q ho bp bq) ?_⟩
  simp only [go_sem, l6, t0, t1, t2]
  refine ⟨by decide, by decide, PC.use (count_c x l.p l.q ho bp bq) ?_⟩
  simp only [go_sem, l6, t0, t1, t2]
  refine acond_i (fun hb => by simp at hb) (fun hb => ?_)
  clear hb
  simp only [go_sem, l6, t0, t1, t2]
  refine ⟨by decide, by decide, PC.use (Count_c x l.q l.p ho bq bp) ?_⟩
  simp only [go_sem, l6, t0, t1, t2]
  refine ⟨by decide, by decide, PC.use (Count_c x l.q l.r ho bq br) ?_⟩
  simp only [go_sem, l6, t0, t1, t2]
  refine ⟨by decide, by decide, PC.use (Count_c x l.p l.r ho bp br) ?_⟩
  simp only [go_sem, l6, t0, t1, t2]
  refine acond_i (fun hb => ?_) (fun hb => ?_)
  · simp only [go_sem, l6, t0, t1, t2]
    refine PC.use awake_c ?_
    simp only [go_sem, l6, t0, t1, t2]
    exact .refl _
  simp only [Bool.or_eq_false_iff, bne_eq_false_iff_eq] at hb
  obtain ⟨⟨⟨k1, _⟩, k2⟩, _⟩ := hb
  obtain ⟨q1, q2, q3, q4⟩ := count_law ho k1 k2
  simp only [go_sem, l6, t0, t1, t2]
  refine ⟨by decide, by decide, PC.use (Count_c x l.p l.p ho bp bp) ?_⟩
  simp only [go_sem, l6, t0, t1, t2]
  refine ⟨_, fun _ => awake_c.q rfl, ?_⟩
  simp only [go_sem, l6, t0, t1, t2]
  refine convB ?_
  rw [q1, q3, q4]
  simp
  omega
end Go.Proofs.Ytjlbikpgjejkjaa.Mv
