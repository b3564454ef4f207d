/- moved.Kinds -/
import Derived.Test.YtjlbikpgjejkjaaMvB
set_option linter.unusedSimpArgs false
set_option linter.unusedVariables false
namespace Go.Proofs.Ytjlbikpgjejkjaa.Mv
open Go.Aw Go.Aw.D Go.Proofs Ty
set_option maxRecDepth 100000

theorem wrong_bad {x : Instance} {p : Plan} {r : Route} (hr : r ∈ p.routes) (h : badRoute x.types.length x.orders.length r = true) : wrongR x p = 2 := if_pos (List.any_eq_true.2 ⟨r, hr, h⟩)
theorem bad_none {x : Instance} {p : Plan} (h : ∀ r ∈ p.routes, badRoute x.types.length x.orders.length r = false) : p.routes.any (badRoute x.types.length x.orders.length) = false := List.any_eq_false.2 fun r hr => by simp [h r hr]
theorem wrong_twice {x : Instance} {p : Plan} (h : ∀ r ∈ p.routes, badRoute x.types.length x.orders.length r = false) : wrongR x p = if twiceL x.orders.length p.routes = true then 6 else 0 := by
  have ht : ∀ r ∈ p.routes, 0 ≤ r.type := fun r hr => by
    have := h r hr
    simp only [badRoute, badNo, Bool.or_eq_false_iff, decide_eq_false_iff_not] at this
    omega
  unfold wrongR
  rw [if_neg (by rw [bad_none h]; simp)]
  have : ((List.range x.orders.length).any fun i => decide (timesR p.routes i > 1)) = twiceL x.orders.length p.routes := any_congr fun o _ => by rw [times_cnt ht]
  rw [this]
theorem kinds_nil {x : Instance} {p : Plan} (h : wrongR x p ≠ 0) : kindsR x p = [] := by
  unfold kindsR
  rw [show (wrongR x p == 0) = false by simpa using h]
theorem kinds_ok {x : Instance} {p : Plan} (h : wrongR x p = 0) : kindsR x p = (List.range x.orders.length).map fun i : Nat => kindR p.routes i := by
  unfold kindsR
  rw [show (wrongR x p == 0) = true by simpa using h]
def mixL (n : Nat) (l : List Route) (i : Nat) : List Int := (List.range n).map fun o : Nat => if o < i then kindR l o else lastI l o
theorem mixL_zero (n : Nat) (l : List Route) : mixL n l 0 = listL n l := List.map_congr_left fun o _ => if_neg (by omega)
theorem mixL_all (n : Nat) (l : List Route) : mixL n l n = (List.range n).map fun i : Nat => kindR l i := List.map_congr_left fun o ho => if_pos (List.mem_range.1 ho)
theorem mixL_len (n : Nat) (l : List Route) (i : Nat) : (mixL n l i).length = n := by simp [mixL]
theorem mixL_at {n : Nat} (l : List Route) {i : Nat} (h : i < n) : (mixL n l i)[i]? = some (lastI l i) := by simp [mixL, h]
theorem mixL_succ {n : Nat} (l : List Route) {i : Nat} (h : i < n) : mixL n l (i + 1) = (mixL n l i).set i (kindR l i) := by
  apply List.ext_getElem?
  intro o
  rw [List.getElem?_set]
  by_cases ho : o < n
  · by_cases e : i = o
    · subst e
      rw [if_pos rfl, if_pos (by rw [mixL_len]; exact h)]
      simp [mixL, h]
    · rw [if_neg e]
      have : (o < i + 1) = (o < i) := by simp; omega
      simp [mixL, ho, this]
  · rw [List.getElem?_eq_none (by rw [mixL_len]; omega)]
    by_cases e : i = o
    · omega
    · rw [if_neg e, List.getElem?_eq_none (by rw [mixL_len]; omega)]
theorem mixL_stay {n : Nat} (l : List Route) {i : Nat} (h : i < n) (hk : kindR l i = lastI l i) : mixL n l (i + 1) = mixL n l i := by
  refine List.map_congr_left fun o _ => ?_
  by_cases e : o = i
  · subst e; rw [if_pos (by omega), if_neg (by omega), hk]
  · by_cases e2 : o < i
    · rw [if_pos (by omega), if_pos e2]
    · rw [if_neg (by omega), if_neg e2]
theorem withV_self (r : Route) : withV r r.visits = r := rfl
theorem Kinds_c (x : Instance) (p : Plan) (ho : x.orders.length ≤ 1048576) (hp : p.routes.length ≤ 1048576) (hv : ∀ r ∈ p.routes, r.visits.length ≤ 1048576) :
    PC Try.prog 17 [.agg (encInstance x), .agg (encPlan p)] (.tup [.sl ((kindsR x p).map encInt), int (wrongR x p)]) := by
  refine PC.body (c := Try.f17.body.getD .skip) (fun _ => false) mixed Try.func17 rfl (by kernel_rfl) ?_
  unfold Try.f17
  simp only [Option.getD_some]
  simp only [go_sem]
  refine NC.use (repeat_c (-1) x.orders.length ho) fun j hj => ?_
  simp only [go_sem]
  refine ⟨fun ρ H => ∃ k : Nat, k ≤ p.routes.length ∧ ρ 2 = .rp (encInstance x) 0 ∧ ρ 3 = .rp (encPlan p) 0 ∧ ρ 6 = .os j ∧ ρ 21 = .sl (p.routes.map encRoute) ∧ ρ 22 = int p.routes.length ∧ ρ 23 = int k ∧ ρ 7 = boo (twiceL x.orders.length (p.routes.take k)) ∧ H j = some (iRow (listL x.orders.length (p.routes.take k))) ∧ ∀ r ∈ p.routes.take k, badRoute x.types.length x.orders.length r = false, fun ρ _ => p.routes.length - natOf (ρ 23), ⟨0, Nat.zero_le _, rfl, rfl, rfl, rfl, rfl, rfl, ?_, ?_, by simp⟩, ?_⟩
  · simp only [go_sem, List.take_zero]
    have : twiceL x.orders.length [] = false := by simp [twiceL, cntS]
    rw [this]
  · rw [updH_same]
    have : listL x.orders.length ([] : List Route) = List.replicate x.orders.length (-1) := by
      apply List.ext_getElem?
      intro o
      by_cases h : o < x.orders.length
      · rw [listL_get _ h, List.getElem?_replicate, if_pos h]; rfl
      · rw [List.getElem?_eq_none (by rw [listL_len]; omega), List.getElem?_replicate, if_neg h]
    rw [List.take_zero, this]
  clear hj
  rintro ρ H ⟨k, hk, h2, h3, h6, h21, h22, h23, h7, hj, hz⟩
  simp only [go_sem, h2, h3, h6, h21, h22, h23, h7]
  refine acond_i (fun hlt => ?_) (fun hge => ?_)
  · have hlt := le_of_lt_b hlt
    obtain ⟨r, hr⟩ := getIn hlt
    have b1 := inB hlt
    have hrm := List.mem_of_getElem? hr
    have hvr := hv r hrm
    have hkl : (p.routes.take k).length = k := by rw [List.length_take]; omega
    simp only [go_sem, h2, h3, h6, h21, h22, h23, h7, getD_map hr, b1]
    refine anew_i fun i1 hi1 => ?_
    have hne1 : j ≠ i1 := ne_new hj hi1
    simp only [go_sem, h2, h3, h6, h21, h22, h23, h7, getD_map hr, b1]
    refine wputE_n (updH_same _ _ _) (by simp [encRoute_len]) ?_
    simp only [go_sem, h2, h3, h6, h21, h22, h23, h7, getD_map hr, b1]
    generalize hG : updH (updH H i1 _) i1 _ = HG
    have hj1 : HG j = some (iRow (listL x.orders.length (p.routes.take k))) := by rw [← hG, updH_ne _ _ _ _ hne1, updH_ne _ _ _ _ hne1]; exact hj
    have hi1' : HG i1 = some ⟨64, 4, [encRoute r]⟩ := by rw [← hG, updH_same]
    clear hG hj hi1
    refine acond_i (fun hb => ?_) (fun hbt => ?_)
    · simp only [go_sem]
      have hw := wrong_bad (x := x) hrm (by unfold badRoute; rw [show badNo r.type x.types.length = true from hb]; rfl)
      rw [kinds_nil (by omega), hw]
      exact .refl _
    simp only [go_sem, h2, h3, h6, h21, h22, h23, h7, hi1']
    refine ⟨fun ρ H => ∃ i : Nat, i ≤ r.visits.length ∧ ρ 2 = .rp (encInstance x) 0 ∧ ρ 3 = .rp (encPlan p) 0 ∧ ρ 6 = .os j ∧ ρ 8 = int k ∧ ρ 21 = .sl (p.routes.map encRoute) ∧ ρ 22 = int p.routes.length ∧ ρ 23 = int k ∧ ρ 40 = .sl (r.visits.map encVisit) ∧ ρ 41 = int r.visits.length ∧ ρ 42 = int i ∧ ρ 7 = boo (twiceL x.orders.length (p.routes.take k ++ [withV r (r.visits.take i)])) ∧ H j = some (iRow (listL x.orders.length (p.routes.take k ++ [withV r (r.visits.take i)]))) ∧ ∀ v ∈ r.visits.take i, badNo v.order x.orders.length = false, fun ρ _ => r.visits.length - natOf (ρ 42), ⟨0, Nat.zero_le _, by simp only [go_sem, h2], by simp only [go_sem, h3], by simp only [go_sem, h6], by simp only [go_sem], by simp only [go_sem, h21], by simp only [go_sem, h22], by simp only [go_sem, h23], by simp only [go_sem], by simp only [go_sem], by simp only [go_sem]; rfl, by simp only [go_sem, h7]; rw [twiceL_nil], by rw [List.take_zero, listL_nil]; exact hj1, by simp⟩, ?_⟩
    clear h2 h3 h6 h21 h22 h23 h7 hj1 hi1'
    rintro ρ H ⟨i, hi, h2, h3, h6, h8, h21, h22, h23, h40, h41, h42, h7, hj, hy⟩
    simp only [go_sem, h2, h3, h6, h8, h21, h22, h23, h40, h41, h42, h7]
    refine acond_i (fun hlt2 => ?_) (fun hge2 => ?_)
    · have hlt2 := le_of_lt_b hlt2
      obtain ⟨v, hvk⟩ := getIn hlt2
      have b2 := inB hlt2
      simp only [go_sem, h2, h3, h6, h8, h21, h22, h23, h40, h41, h42, h7, getD_map hvk, b2]
      refine anew_i fun i2 hi2 => ?_
      have hne : j ≠ i2 := ne_new hj hi2
      simp only [go_sem, h2, h3, h6, h8, h21, h22, h23, h40, h41, h42, h7, getD_map hvk, b2]
      refine wputE_n (updH_same _ _ _) (by simp [encVisit_len]) ?_
      simp only [go_sem, h2, h3, h6, h8, h21, h22, h23, h40, h41, h42, h7, getD_map hvk, b2]
      generalize hG : updH (updH H i2 _) i2 _ = HG
      have hj2 : HG j = some (iRow (listL x.orders.length (p.routes.take k ++ [withV r (r.visits.take i)]))) := by rw [← hG, updH_ne _ _ _ _ hne, updH_ne _ _ _ _ hne]; exact hj
      have hi2' : HG i2 = some ⟨80, 2, [encVisit v]⟩ := by rw [← hG, updH_same]
      clear hG hj hi2
      refine acond_i (fun hb => ?_) (fun hb => ?_)
      · simp only [go_sem]
        have hw := wrong_bad (x := x) hrm (by unfold badRoute; rw [List.any_eq_true.2 ⟨v, List.mem_of_getElem? hvk, show badNo v.order x.orders.length = true from hb⟩]; simp)
        rw [kinds_nil (by omega), hw]
        exact .refl _
      · have hok : 0 ≤ v.order ∧ v.order < (x.orders.length : Int) := by
          simp only [Bool.or_eq_false_iff, decide_eq_false_iff_not] at hb; omega
        have hu : (listL x.orders.length (p.routes.take k ++ [withV r (r.visits.take i)]))[v.order.toNat]? = some (lastI (p.routes.take k ++ [withV r (r.visits.take i)]) v.order) := by
          rw [listL_get _ (by omega), Int.toNat_of_nonneg hok.1]
        have hll := listL_len x.orders.length (p.routes.take k ++ [withV r (r.visits.take i)])
        have hT := twiceL_step (p.routes.take k) r (r.visits.take i) v hok
        have hL := listL_step (p.routes.take k) r (r.visits.take i) v hok
        rw [hkl] at hT hL
        simp only [go_sem, h2, h3, h6, h8, h21, h22, h23, h40, h41, h42, h7, hj2, hi2', getD_map hu, hll]
        refine ⟨fun _ => hok, fun _ => by omega, fun _ => hok, fun _ => by omega, hok, ?_⟩
        refine wputE_1 so3 hj2 ⟨by rw [List.length_map, hll]; omega, rfl, Nat.le_refl _⟩ ?_
        simp only [go_sem, h2, h3, h6, h8, h21, h22, h23, h40, h41, h42, h7, wrapS (show i ≤ 4611686018427387904 by omega)]
        refine ⟨⟨i + 1, hlt2, rfl, ?_, ?_, take_allP (p := fun v => badNo v.order x.orders.length = false) hvk (show badNo v.order x.orders.length = false from hb) hy⟩, by simp only [natOf_int]; omega⟩
        · rw [take_succ hvk, hT]
        · rw [take_succ hvk, hL]
          simp [encInt, List.map_set, setAt, List.getD, hu]
    · have hge2 := eq_of_ge_b hi hge2
      subst hge2
      rw [List.take_length] at h7 hj hy
      rw [withV_self] at h7 hj
      simp only [go_sem, h2, h3, h6, h21, h22, h23, h7, wrapS (show k ≤ 4611686018427387904 by omega)]
      refine ⟨⟨k + 1, hlt, rfl, by rw [take_succ hr], by rw [take_succ hr]; exact hj, take_allP (p := fun r => badRoute x.types.length x.orders.length r = false) hr ?_ hz⟩, by simp only [natOf_int]; omega⟩
      unfold badRoute
      rw [show badNo r.type x.types.length = false from hbt, Bool.false_or, List.any_eq_false]
      intro v hv
      rw [hy v hv]; simp
  · have hge := eq_of_ge_b hk hge
    subst hge
    rw [List.take_length] at h7 hj hz
    have hw := wrong_twice hz
    simp only [go_sem, h2, h3, h6, h7]
    refine acond_i (fun hb => ?_) (fun hb => ?_)
    · simp only [go_sem]
      rw [if_pos hb] at hw
      rw [kinds_nil (by omega), hw]
      exact .refl _
    · rw [if_neg (by rw [hb]; simp)] at hw
      rw [kinds_ok hw, hw]
      have hone : ∀ o : Nat, o < x.orders.length → cntS p.routes o ≤ 1 := fun o h => by
        have := List.any_eq_false.1 hb o (List.mem_range.2 h)
        simpa using this
      simp only [go_sem, h2, h3, h6, h7, hj, listL_len]
      refine ⟨fun ρ H => ∃ i : Nat, i ≤ x.orders.length ∧ ρ 3 = .rp (encPlan p) 0 ∧ ρ 12 = .os j ∧ ρ 84 = .os j ∧ ρ 85 = int x.orders.length ∧ ρ 86 = int i ∧ H j = some (iRow (mixL x.orders.length p.routes i)), fun ρ _ => x.orders.length - natOf (ρ 86), ⟨0, Nat.zero_le _, by simp only [go_sem, h3], by simp only [go_sem], by simp only [go_sem], by simp only [go_sem], by simp only [go_sem]; rfl, by rw [mixL_zero]; exact hj⟩, ?_⟩
      clear h2 h3 h6 h21 h22 h23 h7 hj
      rintro ρ H ⟨i, hi, h3, h12, h84, h85, h86, hj⟩
      simp only [go_sem, h3, h12, h84, h85, h86]
      refine acond_i (fun hlt => ?_) (fun hge => ?_)
      · have hlt := le_of_lt_b hlt
        have b1 := inB hlt
        have hu := mixL_at p.routes hlt
        obtain ⟨q1, q2⟩ := lastI_kind p.routes i (hone i hlt)
        simp only [go_sem, h3, h12, h84, h85, h86, hj, getD_map hu, mixL_len, b1]
        refine ⟨hlt, ?_⟩
        refine acond_joinL (fun ρ' H' => ρ' 3 = .rp (encPlan p) 0 ∧ ρ' 12 = .os j ∧ ρ' 84 = .os j ∧ ρ' 85 = int x.orders.length ∧ ρ' 86 = int i ∧ H' j = some (iRow (mixL x.orders.length p.routes (i + 1)))) ?_ fun K hK _ _ => acond_i (fun hb => ?_) (fun hb => ?_)
        · clear h3 h12 h84 h85 h86 hj
          rintro ρ H ⟨h3, h12, h84, h85, h86, hj⟩
          simp only [go_sem, h3, h12, h84, h85, h86, wrapS (show i ≤ 4611686018427387904 by omega)]
          exact ⟨⟨i + 1, hlt, rfl, hj⟩, by simp only [natOf_int]; omega⟩
        · have h0 : 0 ≤ lastI p.routes i := by simpa using hb
          obtain ⟨r, hr, ht⟩ := q1 h0
          have hll := lastI_lt p.routes i
          simp only [go_sem, h3, h12, h84, h85, h86, hj, getD_map hr, mixL_len, b1]
          refine ⟨⟨h0, hll.2⟩, ?_⟩
          refine wputE_1 so3 hj ⟨by rw [List.length_map, mixL_len]; exact hlt, rfl, Nat.le_refl _⟩ ?_
          simp only [go_sem, h3, h12, h84, h85, h86]
          refine hK _ _ ⟨by simp only [go_sem, h3], by simp only [go_sem, h12], by simp only [go_sem, h84], by simp only [go_sem, h85], by simp only [go_sem, h86], ?_⟩
          rw [updH_same, mixL_succ _ hlt, ht]
          simp [encInt, List.map_set, setAt, List.getD, hu]
        · have h0 : ¬ 0 ≤ lastI p.routes i := by simpa using hb
          simp only [go_sem, h3, h12, h84, h85, h86]
          refine hK _ _ ⟨by simp only [go_sem, h3], by simp only [go_sem, h12], by simp only [go_sem, h84], by simp only [go_sem, h85], by simp only [go_sem, h86], ?_⟩
          rw [mixL_stay _ hlt (by have := lastI_lt p.routes i; rw [q2 h0]; omega)]
          exact hj
      · have hge := eq_of_ge_b hi hge
        subst hge
        simp only [go_sem, h12]
        rw [mixL_all] at hj
        exact .tup _ _ (.cons _ _ _ _ (.row _ _ _ hj (ConvE.refl _)) (ConvL.refl _))
end Go.Proofs.Ytjlbikpgjejkjaa.Mv
