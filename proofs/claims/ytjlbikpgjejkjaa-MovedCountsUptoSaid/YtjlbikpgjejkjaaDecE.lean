/- decide: the reference on plans; the plans that the laws speak of. -/
import Derived.Test.YtjlbikpgjejkjaaDecD
set_option linter.unusedSimpArgs false
set_option linter.unusedVariables false
namespace Go.Proofs.Ytjlbikpgjejkjaa.Dec
open Go.Aw Go.Aw.D Go.Proofs Ty
set_option maxRecDepth 100000

theorem any_succ {α : Type} {p : α → Bool} {l : List α} {k : Nat} {x : α} (h : l[k]? = some x) : (l.take (k + 1)).any p = ((l.take k).any p || p x) := by rw [take_succ h, List.any_append]; simp
theorem countP_succ {α : Type} {p : α → Bool} {l : List α} {k : Nat} {x : α} (h : l[k]? = some x) : (l.take (k + 1)).countP p = (l.take k).countP p + (if p x = true then 1 else 0) := by rw [take_succ h, List.countP_append, List.countP_singleton]
/-- visits of orders that fit into a set -/
def smallV (r : Route) : Prop := r.visits.length ≤ 1048576 ∧ ∀ v ∈ r.visits, 0 ≤ v.order ∧ v.order ≤ 61
theorem smallV_lt {r : Route} (h : smallV r) : setN r.visits < 2 ^ 62 := setN_lt _ fun v hv => by have := h.2 v hv; omega
def routeOk (d : Decision) (r : Route) : Bool := !((d.kind == 1 || d.kind == 2) && forbidsR d (setN r.visits : Nat))
def kind29R (d : Decision) (served : Bool) (n : Int) : Bool := if d.kind = 5 then served else if d.kind = 6 then !served else if d.kind = 3 then decide (n ≤ d.n) else if d.kind = 4 then decide (n ≥ d.n) else true
def servedR (d : Decision) (l : List Route) : Bool := l.any fun r => hasN (setN r.visits : Nat) d.a
def countT (l : List Route) (t : Int) : Nat := l.countP fun r => r.type == t
def holds29R (d : Decision) (p : Plan) : Bool := p.routes.all (routeOk d) && kind29R d (servedR d p.routes) (countT p.routes d.a : Nat)
theorem holds29_c (d : Decision) (p : Plan) (hd : decB d) (hp : p.routes.length ≤ 1048576) (hv : ∀ r ∈ p.routes, smallV r) : PC Try.prog 68 [.agg (encDecision d), .agg (encPlan p)] (boo (holds29R d p)) := by
  refine PC.body (c := Try.f68.body.getD .skip) (fun _ => false) mixed Try.func68 rfl (by kernel_rfl) ?_
  unfold Try.f68
  simp only [Option.getD_some]
  simp only [go_sem]
  refine ⟨fun ρ _ => ∃ k : Nat, k ≤ p.routes.length ∧ ρ 2 = .rp (encDecision d) 0 ∧ ρ 3 = .rp (encPlan p) 0 ∧ ρ 7 = int k ∧ ρ 5 = boo (servedR d (p.routes.take k)) ∧ ρ 6 = int (countT (p.routes.take k) d.a : Nat) ∧ ∀ r ∈ p.routes.take k, routeOk d r = true, fun ρ _ => p.routes.length - natOf (ρ 7), ⟨0, Nat.zero_le _, rfl, rfl, rfl, rfl, rfl, by simp⟩, ?_⟩
  rintro ρ H ⟨k, hk, h2, h3, h7, h5, h6, hz⟩
  simp only [go_sem, h2, h3, h7, h5, h6]
  refine acond_i (fun hlt => ?_) (fun hge => ?_)
  · have hlt := le_of_lt_b hlt
    obtain ⟨r, hr⟩ := getIn hlt
    have b1 := inB hlt
    have hs := hv r (List.mem_of_getElem? hr)
    have hl62 := smallV_lt hs
    simp only [go_sem, h2, h3, h7, h5, h6, getD_map hr, b1]
    refine PC.use (set_c r hs.1 hs.2) ?_
    simp only [go_sem, h2, h3, h7, h5, h6, getD_map hr, b1]
    refine ⟨_, fun _ => (forbids_c d _ hd (by omega) (by omega)).q rfl, ?_⟩
    simp only [go_sem, h2, h3, h7, h5, h6, getD_map hr, b1]
    refine acond_i (fun hb => ?_) (fun hb => ?_)
    · simp only [go_sem]
      refine convB ?_
      unfold holds29R
      rw [all_hit hr (by unfold routeOk; rw [hb]; rfl)]
      rfl
    · have hok : routeOk d r = true := by unfold routeOk; rw [hb]; rfl
      simp only [go_sem, h2, h3, h7, h5, h6, getD_map hr, b1]
      refine ⟨_, fun _ => (has29_c _ _ (by omega) (by omega) hd.2.1.2).q rfl, ?_⟩
      simp only [go_sem, h2, h3, h7, h5, h6, getD_map hr, b1]
      refine adraw_q (by rfl) (by kernel_rfl) ?_
      simp only [go_sem, h2, h3, h7, h5, h6, getD_map hr, b1]
      have hc : countT (p.routes.take k) d.a ≤ k := Nat.le_trans List.countP_le_length (by simp; omega)
      have hsucc := any_succ (p := fun r => hasN (setN r.visits : Nat) d.a) hr
      have hcs := countP_succ (p := fun r => r.type == d.a) hr
      refine acond_joinL (fun ρ' _ => ρ' 2 = .rp (encDecision d) 0 ∧ ρ' 3 = .rp (encPlan p) 0 ∧ ρ' 7 = int k ∧ ρ' 5 = boo (servedR d (p.routes.take (k + 1))) ∧ ρ' 6 = int (countT (p.routes.take (k + 1)) d.a : Nat)) ?_ fun K hK _ _ => acond_i (fun hb => ?_) (fun hb => ?_)
      · clear h2 h3 h7 h5 h6
        rintro ρ H ⟨h2, h3, h7, h5, h6⟩
        simp only [go_sem, h2, h3, h7, h5, h6, wrapS (show k ≤ 4611686018427387904 by omega)]
        exact ⟨⟨k + 1, hlt, rfl, rfl, rfl, take_all hr hok hz⟩, by simp only [natOf_int]; omega⟩
      · simp only [go_sem, h2, h3, h7, h5, h6, wrapS (show countT (p.routes.take k) d.a ≤ 4611686018427387904 by omega)]
        refine hK _ _ ⟨by simp only [go_sem, h2], by simp only [go_sem, h3], by simp only [go_sem, h7], ?_, ?_⟩
        · simp only [go_sem]; exact congrArg boo hsucc.symm
        · simp only [go_sem]; rw [if_pos hb] at hcs; unfold countT; rw [hcs]
      · simp only [go_sem, h2, h3, h7, h5, h6]
        refine hK _ _ ⟨by simp only [go_sem, h2], by simp only [go_sem, h3], by simp only [go_sem, h7], ?_, ?_⟩
        · simp only [go_sem]; exact congrArg boo hsucc.symm
        · simp only [go_sem, h6]; rw [if_neg (by rw [hb]; simp)] at hcs; unfold countT; rw [hcs]; rfl
  · have hge := eq_of_ge_b hk hge
    subst hge
    rw [List.take_length] at h5 h6
    have hall : holds29R d p = kind29R d (servedR d p.routes) (countT p.routes d.a : Nat) := by unfold holds29R; rw [all_none hz]; rfl
    rw [hall]
    simp only [go_sem, h2, h3, h5, h6]
    repeat' (first | (refine acond_i (fun hb => ?_) (fun hb => ?_)) | (simp only [go_sem, h2, h3, h5, h6]))
    all_goals (refine convB ?_; unfold kind29R; simp_all)
theorem Holds29_c (x : Instance) (l : List Decision) (p : Plan) (hl : l.length ≤ 1048576) (hd : ∀ d ∈ l, decB d) (hp : p.routes.length ≤ 1048576) (hv : ∀ r ∈ p.routes, smallV r) :
    PC Try.prog 36 [.agg (encInstance x), .sl (l.map encDecision), .agg (encPlan p)] (boo (l.all fun d => holds29R d p)) := by
  refine PC.body (c := Try.f36.body.getD .skip) (fun _ => false) mixed Try.func36 rfl (by kernel_rfl) ?_
  unfold Try.f36
  simp only [Option.getD_some]
  simp only [go_sem]
  refine ⟨fun ρ _ => ∃ k : Nat, k ≤ l.length ∧ ρ 1 = .sl (l.map encDecision) ∧ ρ 5 = .rp (encPlan p) 0 ∧ ρ 7 = int k ∧ ∀ d ∈ l.take k, holds29R d p = true, fun ρ _ => l.length - natOf (ρ 7), ⟨0, Nat.zero_le _, rfl, rfl, rfl, by simp⟩, ?_⟩
  rintro ρ H ⟨k, hk, h1, h5, h7, hz⟩
  simp only [go_sem, h1, h5, h7]
  refine acond_i (fun hlt => ?_) (fun hge => ?_)
  · have hlt := le_of_lt_b hlt
    obtain ⟨d, hdk⟩ := getIn hlt
    have b1 := inB hlt
    simp only [go_sem]
    refine adraw_q (by rfl) (by kernel_rfl) ?_
    simp only [go_sem, h1, h5, h7, getD_map hdk, b1]
    refine ⟨_, (holds29_c d p (hd d (List.mem_of_getElem? hdk)) hp hv).q rfl, ?_⟩
    simp only [go_sem, h1, h5, h7]
    refine acond_i (fun hb => ?_) (fun hb => ?_)
    · simp only [go_sem]
      exact convB (all_hit hdk (by simpa using hb)).symm
    · simp only [go_sem, h1, h5, h7, wrapS (show k ≤ 4611686018427387904 by omega)]
      exact ⟨⟨k + 1, hlt, rfl, take_all hdk (by simpa using hb) hz⟩, by simp only [natOf_int]; omega⟩
  · have hge := eq_of_ge_b hk hge
    subst hge
    simp only [go_sem]
    exact convB (all_none hz).symm
/-- a nested search over the visits of a plan -/
def servesAt (p : Plan) (o : Int) : Bool := p.routes.any fun r => r.visits.any fun v => v.order == o
theorem any_hit {α : Type} {p : α → Bool} {l : List α} {k : Nat} {x : α} (hk : l[k]? = some x) (hx : p x = true) : l.any p = true := List.any_eq_true.2 ⟨x, List.mem_of_getElem? hk, hx⟩
theorem any_none {α : Type} {p : α → Bool} {l : List α} (h : ∀ x ∈ l.take l.length, p x = false) : l.any p = false := by
  rw [List.take_length] at h
  rw [List.any_eq_false]; intro x hx; rw [h x hx]; simp
theorem serves_c (p : Plan) (o : Int) (hp : p.routes.length ≤ 1048576) (hv : ∀ r ∈ p.routes, r.visits.length ≤ 1048576) : PC Try.prog 40 [.agg (encPlan p), int o] (boo (servesAt p o)) := by
  refine PC.body (c := Try.f40.body.getD .skip) (fun _ => false) mixed Try.func40 rfl (by kernel_rfl) ?_
  unfold Try.f40
  simp only [Option.getD_some]
  simp only [go_sem]
  refine ⟨fun ρ _ => ∃ k : Nat, k ≤ p.routes.length ∧ ρ 1 = int o ∧ ρ 10 = .sl (p.routes.map encRoute) ∧ ρ 11 = int p.routes.length ∧ ρ 12 = int k ∧ ∀ r ∈ p.routes.take k, (r.visits.any fun v => v.order == o) = false, fun ρ _ => p.routes.length - natOf (ρ 12), ⟨0, Nat.zero_le _, rfl, rfl, rfl, rfl, by simp⟩, ?_⟩
  rintro ρ H ⟨k, hk, h1, h10, h11, h12, hz⟩
  simp only [go_sem, h1, h10, h11, h12]
  refine acond_i (fun hlt => ?_) (fun hge => ?_)
  · have hlt := le_of_lt_b hlt
    obtain ⟨r, hr⟩ := getIn hlt
    have b1 := inB hlt
    have hvr := hv r (List.mem_of_getElem? hr)
    simp only [go_sem, h1, h10, h11, h12, getD_map hr, b1]
    refine anew_i fun j hj => ?_
    simp only [go_sem, h1, h10, h11, h12, getD_map hr, b1]
    refine wputE_n (updH_same _ _ _) (by simp [encRoute_len]) ?_
    simp only [go_sem, h1, h10, h11, h12, getD_map hr, b1]
    refine ⟨fun ρ _ => ∃ i : Nat, i ≤ r.visits.length ∧ ρ 1 = int o ∧ ρ 10 = .sl (p.routes.map encRoute) ∧ ρ 11 = int p.routes.length ∧ ρ 12 = int k ∧ ρ 17 = .sl (r.visits.map encVisit) ∧ ρ 18 = int r.visits.length ∧ ρ 19 = int i ∧ ∀ v ∈ r.visits.take i, (v.order == o) = false, fun ρ _ => r.visits.length - natOf (ρ 19), ⟨0, Nat.zero_le _, by simp only [go_sem, h1], by simp only [go_sem, h10], by simp only [go_sem, h11], by simp only [go_sem, h12], by simp only [go_sem], by simp only [go_sem], by simp only [go_sem]; rfl, by simp⟩, ?_⟩
    clear h1 h10 h11 h12
    rintro ρ H ⟨i, hi, h1, h10, h11, h12, h17, h18, h19, hy⟩
    simp only [go_sem, h1, h10, h11, h12, h17, h18, h19]
    refine acond_i (fun hlt2 => ?_) (fun hge2 => ?_)
    · have hlt2 := le_of_lt_b hlt2
      obtain ⟨v, hvk⟩ := getIn hlt2
      have b2 := inB hlt2
      simp only [go_sem, h1, h10, h11, h12, h17, h18, h19, getD_map hvk, b2]
      refine anew_i fun j hj => ?_
      simp only [go_sem, h1, h10, h11, h12, h17, h18, h19, getD_map hvk, b2]
      refine wputE_n (updH_same _ _ _) (by simp [encVisit_len]) ?_
      simp only [go_sem, h1, h10, h11, h12, h17, h18, h19, getD_map hvk, b2]
      refine acond_i (fun hb => ?_) (fun hb => ?_)
      · simp only [go_sem]
        exact convB (any_hit hr (any_hit hvk hb)).symm
      · simp only [go_sem, h1, h10, h11, h12, h17, h18, h19, wrapS (show i ≤ 4611686018427387904 by omega)]
        exact ⟨⟨i + 1, hlt2, rfl, take_allP (p := fun v => (v.order == o) = false) hvk hb hy⟩, by simp only [natOf_int]; omega⟩
    · have hge2 := eq_of_ge_b hi hge2
      subst hge2
      simp only [go_sem, h1, h10, h11, h12, wrapS (show k ≤ 4611686018427387904 by omega)]
      exact ⟨⟨k + 1, hlt, rfl, take_allP (p := fun r => (r.visits.any fun v => v.order == o) = false) hr (any_none hy) hz⟩, by simp only [natOf_int]; omega⟩
  · have hge := eq_of_ge_b hk hge
    subst hge
    simp only [go_sem]
    exact convB (any_none hz).symm
def badV (x : Instance) (v : Visit) : Bool := decide (v.order < 0) || decide (v.order ≥ (x.orders.length : Int))
def plainRt (x : Instance) (r : Route) : Bool := !decide ((r.visits.length : Int) > 20) && r.visits.all fun v => !badV x v
def plainR (x : Instance) (p : Plan) : Bool := !decide ((p.routes.length : Int) > 20) && p.routes.all (plainRt x)
theorem plain_c (x : Instance) (p : Plan) (hp : p.routes.length ≤ 1048576) (hv : ∀ r ∈ p.routes, r.visits.length ≤ 1048576) : PC Try.prog 34 [.agg (encInstance x), .agg (encPlan p)] (boo (plainR x p)) := by
  refine PC.body (c := Try.f34.body.getD .skip) (fun _ => false) mixed Try.func34 rfl (by kernel_rfl) ?_
  unfold Try.f34
  simp only [Option.getD_some]
  simp only [go_sem]
  refine acond_i (fun hb => ?_) (fun hb => ?_)
  · simp only [go_sem]
    exact convB (by unfold plainR; rw [hb]; rfl)
  have hpl : plainR x p = p.routes.all (plainRt x) := by unfold plainR; rw [hb]; rfl
  rw [hpl]
  simp only [go_sem]
  refine ⟨fun ρ _ => ∃ k : Nat, k ≤ p.routes.length ∧ ρ 2 = .rp (encInstance x) 0 ∧ ρ 14 = .sl (p.routes.map encRoute) ∧ ρ 15 = int p.routes.length ∧ ρ 16 = int k ∧ ∀ r ∈ p.routes.take k, plainRt x r = true, fun ρ _ => p.routes.length - natOf (ρ 16), ⟨0, Nat.zero_le _, rfl, rfl, rfl, rfl, by simp⟩, ?_⟩
  rintro ρ H ⟨k, hk, h2, h14, h15, h16, hz⟩
  simp only [go_sem, h2, h14, h15, h16]
  refine acond_i (fun hlt => ?_) (fun hge => ?_)
  · have hlt := le_of_lt_b hlt
    obtain ⟨r, hr⟩ := getIn hlt
    have b1 := inB hlt
    have hvr := hv r (List.mem_of_getElem? hr)
    simp only [go_sem, h2, h14, h15, h16, getD_map hr, b1]
    refine anew_i fun j hj => ?_
    simp only [go_sem, h2, h14, h15, h16, getD_map hr, b1]
    refine wputE_n (updH_same _ _ _) (by simp [encRoute_len]) ?_
    simp only [go_sem, h2, h14, h15, h16, getD_map hr, b1]
    refine acond_i (fun hb => ?_) (fun hb => ?_)
    · simp only [go_sem]
      exact convB (all_hit hr (by unfold plainRt; rw [hb]; rfl)).symm
    simp only [go_sem, h2, h14, h15, h16, getD_map hr, b1]
    refine ⟨fun ρ _ => ∃ i : Nat, i ≤ r.visits.length ∧ ρ 2 = .rp (encInstance x) 0 ∧ ρ 14 = .sl (p.routes.map encRoute) ∧ ρ 15 = int p.routes.length ∧ ρ 16 = int k ∧ ρ 25 = .sl (r.visits.map encVisit) ∧ ρ 26 = int r.visits.length ∧ ρ 27 = int i ∧ ∀ v ∈ r.visits.take i, badV x v = false, fun ρ _ => r.visits.length - natOf (ρ 27), ⟨0, Nat.zero_le _, by simp only [go_sem, h2], by simp only [go_sem, h14], by simp only [go_sem, h15], by simp only [go_sem, h16], by simp only [go_sem], by simp only [go_sem], by simp only [go_sem]; rfl, by simp⟩, ?_⟩
    clear h2 h14 h15 h16
    rintro ρ H ⟨i, hi, h2, h14, h15, h16, h25, h26, h27, hy⟩
    simp only [go_sem, h2, h14, h15, h16, h25, h26, h27]
    refine acond_i (fun hlt2 => ?_) (fun hge2 => ?_)
    · have hlt2 := le_of_lt_b hlt2
      obtain ⟨v, hvk⟩ := getIn hlt2
      have b2 := inB hlt2
      simp only [go_sem, h2, h14, h15, h16, h25, h26, h27, getD_map hvk, b2]
      refine anew_i fun j hj => ?_
      simp only [go_sem, h2, h14, h15, h16, h25, h26, h27, getD_map hvk, b2]
      refine wputE_n (updH_same _ _ _) (by simp [encVisit_len]) ?_
      simp only [go_sem, h2, h14, h15, h16, h25, h26, h27, getD_map hvk, b2]
      refine acond_i (fun hb => ?_) (fun hb => ?_)
      · simp only [go_sem]
        refine convB (all_hit hr ?_).symm
        unfold plainRt
        rw [all_hit (p := fun v => !badV x v) hvk (by unfold badV; rw [hb]; rfl)]
        simp
      · simp only [go_sem, h2, h14, h15, h16, h25, h26, h27, wrapS (show i ≤ 4611686018427387904 by omega)]
        exact ⟨⟨i + 1, hlt2, rfl, take_allP (p := fun v => badV x v = false) hvk hb hy⟩, by simp only [natOf_int]; omega⟩
    · have hge2 := eq_of_ge_b hi hge2
      subst hge2
      simp only [go_sem, h2, h14, h15, h16, wrapS (show k ≤ 4611686018427387904 by omega)]
      refine ⟨⟨k + 1, hlt, rfl, take_all hr ?_ hz⟩, by simp only [natOf_int]; omega⟩
      unfold plainRt
      rw [hb, all_none (p := fun v => !badV x v) (fun v hv => by rw [hy v hv]; rfl)]
      rfl
  · have hge := eq_of_ge_b hk hge
    subst hge
    simp only [go_sem]
    exact convB (all_none hz).symm
end Go.Proofs.Ytjlbikpgjejkjaa.Dec
