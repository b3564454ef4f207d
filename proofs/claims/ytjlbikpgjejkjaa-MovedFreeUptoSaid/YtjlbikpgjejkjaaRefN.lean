/- lorryref46.wrong -/
import Derived.Test.YtjlbikpgjejkjaaRefM
import Derived.Test.YtjlbikpgjejkjaaMvKind
set_option linter.unusedSimpArgs false
set_option linter.unusedVariables false
namespace Go.Proofs.Ytjlbikpgjejkjaa
open Go.Aw Go.Aw.D Go.Proofs Ty
set_option maxRecDepth 100000

def badNo (n N : Int) : Bool := decide (n < 0) || decide (n ≥ N)
def badRoute (T O : Int) (r : Route) : Bool := badNo r.type T || r.visits.any fun v => badNo v.order O
def timesR (l : List Route) (i : Int) : Nat := l.countP fun r => decide (kindR [r] i ≥ 0)
def wrongR (x : Instance) (p : Plan) : Int := if (p.routes.any (badRoute x.types.length x.orders.length)) = true then 2 else if ((List.range x.orders.length).any fun i => decide (timesR p.routes i > 1)) = true then 6 else 0
theorem routes_all : ∀ l : List Route, allLen 4 (l.map encRoute)
  | [] => trivial
  | f :: r => ⟨rfl, routes_all r⟩
theorem wrong_c (x : Instance) (p : Plan) (ho : x.orders.length ≤ 1048576) (hp : p.routes.length ≤ 1048576) (hv : ∀ r ∈ p.routes, r.visits.length ≤ 1048576) :
    PC Try.prog 48 [.agg (encInstance x), .agg (encPlan p)] (int (wrongR x p)) := by
  refine PC.body (c := Try.f48.body.getD .skip) (fun _ => false) mixed Try.func48 rfl (by kernel_rfl) ?_
  unfold Try.f48
  simp only [Option.getD_some]
  simp only [go_sem]
  refine aloop_join (fun ρ' H' => ρ' 2 = .rp (encInstance x) 0 ∧ ρ' 3 = .rp (encPlan p) 0 ∧ ∀ r ∈ p.routes, badRoute x.types.length x.orders.length r = false) ?_ fun Q hQ hret => ?_
  · rintro ρ H ⟨h2, h3, hall⟩
    simp only [go_sem, h2, h3]
    have hany : p.routes.any (badRoute x.types.length x.orders.length) = false := List.any_eq_false.2 fun r hr => by simp [hall r hr]
    refine ⟨fun ρ _ => ∃ i : Nat, i ≤ x.orders.length ∧ ρ 2 = .rp (encInstance x) 0 ∧ ρ 3 = .rp (encPlan p) 0 ∧ ρ 7 = int i ∧ ∀ q ∈ (List.range x.orders.length).take i, decide (timesR p.routes q > 1) = false, fun ρ _ => x.orders.length - natOf (ρ 7),
      ⟨0, Nat.zero_le _, by simp only [go_sem, h2], by simp only [go_sem, h3], by simp only [go_sem]; rfl, by simp⟩, ?_⟩
    clear h2 h3
    rintro ρ H ⟨i, hi, h2, h3, h7, hn⟩
    simp only [go_sem, h2, h3, h7]
    refine acond_i (fun hlt => ?_) (fun hge => ?_)
    · have hlt := le_of_lt_b hlt
      simp only [go_sem, h2, h3, h7]
      refine ⟨fun ρ _ => ∃ k : Nat, k ≤ p.routes.length ∧ ρ 2 = .rp (encInstance x) 0 ∧ ρ 3 = .rp (encPlan p) 0 ∧ ρ 7 = int i ∧ ρ 8 = int (timesR (p.routes.take k) i : Nat) ∧ ρ 9 = int k, fun ρ _ => p.routes.length - natOf (ρ 9),
        ⟨0, Nat.zero_le _, by simp only [go_sem, h2], by simp only [go_sem, h3], by simp only [go_sem, h7], by simp only [go_sem]; rfl, by simp only [go_sem]; rfl⟩, ?_⟩
      clear h2 h3 h7
      rintro ρ H ⟨k, hk, h2, h3, h7, h8, h9⟩
      simp only [go_sem, h2, h3, h7, h8, h9]
      refine acond_i (fun hlt2 => ?_) (fun hge2 => ?_)
      · have hlt2 := le_of_lt_b hlt2
        obtain ⟨r, hr⟩ := getIn hlt2
        have hsl : ((p.routes.map encRoute).drop k).take (k + 1 - k) = [encRoute r] := by
          rw [show k + 1 - k = 1 by omega, List.take_one, List.head?_drop, List.getElem?_map, hr]; rfl
        have hsl2 : ((p.routes.map encRoute).take (k + 1)).drop k = [encRoute r] := by
          rw [← List.map_take, take_succ hr, List.map_append, List.drop_append_of_le_length (by simp; omega), List.drop_of_length_le (by simp; omega)]; rfl
        simp only [go_sem, h2, h3, h7, h8, h9, wrapS (show k ≤ 4611686018427387904 by omega), hsl, hsl2]
        have hkr := kind_c ⟨[r], []⟩ i (by simp) (by intro r' hr'; simp at hr'; subst hr'; exact hv _ (mem_of_get hr))
        refine ⟨⟨⟨by omega, by omega, by omega⟩, routes_all _⟩, ?_⟩
        refine PC.use hkr ?_
        simp only [go_sem]
        have hts : timesR (p.routes.take (k + 1)) i = timesR (p.routes.take k) i + (if decide (kindR [r] i ≥ 0) = true then 1 else 0) := by
          unfold timesR
          rw [take_succ hr, List.countP_append, List.countP_singleton]
        have hcl : timesR (p.routes.take k) i ≤ 1048576 := Nat.le_trans List.countP_le_length (by rw [List.length_take]; omega)
        refine acond_joinL (fun ρ' _ => ρ' 2 = .rp (encInstance x) 0 ∧ ρ' 3 = .rp (encPlan p) 0 ∧ ρ' 7 = int i ∧ ρ' 8 = int (timesR (p.routes.take (k + 1)) i : Nat) ∧ ρ' 9 = int k) ?_ fun K hK _ _ => acond_i (fun hb => ?_) (fun hb => ?_)
        · clear h2 h3 h7 h8 h9
          rintro ρ H ⟨h2, h3, h7, h8, h9⟩
          simp only [go_sem, h2, h3, h7, h8, h9, wrapS (show k ≤ 4611686018427387904 by omega)]
          exact ⟨⟨k + 1, hlt2, rfl, rfl⟩, by simp only [natOf_int]; omega⟩
        · simp only [go_sem, h8, wrapS (show timesR (p.routes.take k) i ≤ 4611686018427387904 by omega)]
          refine hK _ _ ⟨by simp only [go_sem, h2], by simp only [go_sem, h3], by simp only [go_sem, h7], ?_, by simp only [go_sem, h9]⟩
          simp only [go_sem]
          rw [hts, if_pos hb]
        · simp only [go_sem]
          refine hK _ _ ⟨by simp only [go_sem, h2], by simp only [go_sem, h3], by simp only [go_sem, h7], ?_, by simp only [go_sem, h9]⟩
          simp only [go_sem, h8]
          rw [hts, if_neg (by intro h; exact absurd (h.symm.trans hb) (by simp)), Nat.add_zero]
      · have hge2 := eq_of_ge_b hk hge2
        subst hge2
        simp only [go_sem, h2, h3, h7, h8, h9]
        rw [List.take_length]
        refine acond_i (fun hb => ?_) (fun hb => ?_)
        · simp only [go_sem]
          have : wrongR x p = 6 := by
            unfold wrongR
            rw [if_neg (by simp [hany]), if_pos]
            have h1 : (1 : Int) < (timesR p.routes i : Nat) := by simpa using hb
            have h2 : timesR p.routes i > 1 := by omega
            exact List.any_eq_true.2 ⟨i, List.mem_range.2 hlt, by simpa using h2⟩
          rw [this]; exact .refl _
        · simp only [go_sem, h2, h3, h7, wrapS (show i ≤ 4611686018427387904 by omega)]
          have h1 : ((timesR p.routes i : Nat) : Int) ≤ 1 := by simpa using hb
          have h2 : timesR p.routes i ≤ 1 := by omega
          exact ⟨⟨i + 1, hlt, rfl, take_all (range_get hlt) hn (by simpa using h2)⟩, by simp only [natOf_int]; omega⟩
    · have hge := eq_of_ge_b hi hge
      simp only [go_sem]
      have : wrongR x p = 0 := by
        unfold wrongR
        rw [if_neg (by simp [hany]), if_neg]
        intro h
        obtain ⟨q, hq, hq2⟩ := List.any_eq_true.1 h
        rw [hn q (by rw [hge, List.take_of_length_le (by simp)]; exact hq)] at hq2
        cases hq2
      rw [this]; exact .refl _
  · simp only [go_sem] at hret
    refine ⟨fun ρ _ => ∃ k : Nat, k ≤ p.routes.length ∧ ρ 2 = .rp (encInstance x) 0 ∧ ρ 3 = .rp (encPlan p) 0 ∧ ρ 5 = int k ∧ ∀ r ∈ p.routes.take k, badRoute x.types.length x.orders.length r = false, fun ρ _ => p.routes.length - natOf (ρ 5), ⟨0, Nat.zero_le _, rfl, rfl, rfl, by simp⟩, ?_⟩
    rintro ρ H ⟨k, hk, h2, h3, h5, hn⟩
    simp only [go_sem, h2, h3, h5]
    refine acond_i (fun hlt => ?_) (fun hge => ?_)
    · have hlt := le_of_lt_b hlt
      obtain ⟨r, hr⟩ := getIn hlt
      have b1 := inB hlt
      simp only [go_sem, h2, h3, h5, b1, getD_map hr]
      refine adraw_q (by rfl) (by kernel_rfl) ?_
      simp only [go_sem, h2, h3, h5, b1, getD_map hr]
      have hw2 : badRoute x.types.length x.orders.length r = true → wrongR x p = 2 := fun h => if_pos (List.any_eq_true.2 ⟨r, mem_of_get hr, h⟩)
      refine acond_i (fun hb => ?_) (fun hb => ?_)
      · simp only [go_sem]
        refine hret _ _ ?_
        simp only [go_sem]
        rw [hw2 (by rw [badRoute, show badNo r.type x.types.length = true from hb]; rfl)]
        exact .refl _
      · simp only [go_sem, h2, h3, h5]
        have hvr := hv r (mem_of_get hr)
        refine ⟨fun ρ _ => ∃ m : Nat, m ≤ r.visits.length ∧ ρ 2 = .rp (encInstance x) 0 ∧ ρ 3 = .rp (encPlan p) 0 ∧ ρ 5 = int k ∧ ρ 6 = int m ∧ ∀ v ∈ r.visits.take m, badNo v.order x.orders.length = false, fun ρ _ => r.visits.length - natOf (ρ 6), ⟨0, Nat.zero_le _, by simp only [go_sem, h2], by simp only [go_sem, h3], by simp only [go_sem, h5], by simp only [go_sem]; rfl, by simp⟩, ?_⟩
        clear h2 h3 h5
        rintro ρ H ⟨m, hm, h2, h3, h5, h6, hn2⟩
        simp only [go_sem, h2, h3, h5, h6, b1, getD_map hr]
        refine acond_i (fun hlt2 => ?_) (fun hge2 => ?_)
        · have hlt2 := le_of_lt_b hlt2
          obtain ⟨v, hv2⟩ := getIn hlt2
          have b2 := inB hlt2
          simp only [go_sem]
          refine adraw_q (by rfl) (by kernel_rfl) ?_
          simp only [go_sem, h2, h3, h5, h6, b1, b2, getD_map hr, getD_map hv2]
          refine acond_i (fun hb2 => ?_) (fun hb2 => ?_)
          · simp only [go_sem]
            refine hret _ _ ?_
            simp only [go_sem]
            rw [hw2 (by rw [badRoute, Bool.or_eq_true]; exact .inr (List.any_eq_true.2 ⟨v, mem_of_get hv2, hb2⟩))]
            exact .refl _
          · simp only [go_sem, h2, h3, h5, h6, wrapS (show m ≤ 4611686018427387904 by omega)]
            exact ⟨⟨m + 1, hlt2, rfl, take_all hv2 hn2 hb2⟩, by simp only [natOf_int]; omega⟩
        · have hge2 := eq_of_ge_b hm hge2
          simp only [go_sem, h2, h3, h5, h6, wrapS (show k ≤ 4611686018427387904 by omega)]
          refine ⟨⟨k + 1, hlt, rfl, take_all hr hn ?_⟩, by simp only [natOf_int]; omega⟩
          rw [badRoute, show badNo r.type x.types.length = false from hb, Bool.false_or]
          exact List.any_eq_false.2 fun v hv => by simp [hn2 v (by rw [hge2, List.take_length]; exact hv)]
    · have hge := eq_of_ge_b hk hge
      subst hge
      simp only [go_sem]
      exact hQ _ _ ⟨by simp only [go_sem, h2], by simp only [go_sem, h3], by simpa using hn⟩
end Go.Proofs.Ytjlbikpgjejkjaa
