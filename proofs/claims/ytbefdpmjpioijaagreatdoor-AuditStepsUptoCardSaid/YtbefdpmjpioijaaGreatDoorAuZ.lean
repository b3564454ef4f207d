/- lorryref44.{ended, fixed, Prefixes}; audit.follows, lorryref55.step; steps as data -/
import Derived.Test.YtbefdpmjpioijaaGreatDoorAuY
set_option linter.unusedSimpArgs false
set_option linter.unusedVariables false
namespace Go.Proofs.YtbefdpmjpioijaaGreatDoor.Sq
open Go.Aw Go.Aw.D Go.Proofs Ty
open Mv (convI convB convA NC.pc take_allP)
set_option maxRecDepth 100000

theorem ended_c (x : Instance) (r : Route) (s : Sheet) (k : Nat) (v : Visit) (o : Order) (tm : Tm) (hv : r.visits[k]? = some v) (ho0 : 0 ≤ v.order ∧ v.order < (x.orders.length : Int)) (ho : x.orders[v.order.toNat]? = some o) (ht : s.times[k]? = some tm) :
    PC Tryz.prog 113 [.agg (encInstance x), .agg (encRoute r), .agg (encSheet s), int k] (int (W (tm.begin_ + (stopO o v).service))) := by
  have b1 := inB (List.getElem?_eq_some_iff.1 hv).1
  have b2 := inB (List.getElem?_eq_some_iff.1 ht).1
  refine PC.body (c := Tryz.f113.body.getD .skip) (fun _ => false) mixed Tryz.func113 rfl (by kernel_rfl) ?_
  unfold Tryz.f113
  simp only [Option.getD_some]
  simp only [go_sem]
  refine adraw_m [(0, true), (1, true), (2, true), (3, true), (4, true), (5, true), (6, true), (7, true), (8, true), (9, true), (10, false), (11, false)] (by kernel_rfl) ?_
  simp only [go_sem, getD_map hv, getD_map ho, b1, ho0]
  refine anew_i fun i9 hi90 => ?_
  simp only [go_sem, getD_map hv, b1]
  refine wputE_n (updH_same _ _ _) (by simp [encOrder_len]) ?_
  generalize hGi9 : updH (updH _ i9 _) i9 _ = HGi9
  have R9 : HGi9 i9 = some (orderRow o) := by rw [← hGi9, updH_same]; rfl
  clear hGi9 hi90
  simp only [go_sem, getD_map hv, b1, R9]
  refine acond_i (fun hb => ?_) (fun hb => ?_)
  · simp only [go_sem]
    refine adraw_p [i9] [(0, true), (1, true), (2, true), (3, true), (4, true), (5, true), (6, true), (7, true), (8, true), (9, true), (10, false)] (by simp [R9]) (by kernel_rfl) fun Hp Hr hp hq _ _ => ?_
    have P9 := (hp i9 (by simp)).trans R9
    simp only [go_sem, P9, getD_map ht, b2]
    refine pinEnd_i fun _ Hm hm1 hm2 => ?_
    simp only [go_sem]
    refine convI ?_
    unfold stopO
    rw [if_pos hb]; rfl
  · simp only [go_sem]
    refine adraw_p [i9] [(0, true), (1, true), (2, true), (3, true), (4, true), (5, true), (6, true), (7, true), (8, true), (9, true), (10, false)] (by simp [R9]) (by kernel_rfl) fun Hp Hr hp hq _ _ => ?_
    have P9 := (hp i9 (by simp)).trans R9
    simp only [go_sem, P9, getD_map ht, b2]
    refine pinEnd_i fun _ Hm hm1 hm2 => ?_
    simp only [go_sem]
    refine convI ?_
    unfold stopO
    rw [if_neg (by rw [hb]; simp)]; rfl
theorem stopO_V {x : Instance} {v : Visit} {o : Order} (h : (stop18 x v).2 = true) (ho : x.orders[v.order.toNat]? = some o) : (stopV x v).1 = stopO o v := by
  rw [(stop_true h).2]
  show (stop18 x v).1 = _
  unfold stop18 at h ⊢
  split
  · rename_i hb; rw [if_pos hb] at h; cases h
  · rw [ho]
theorem fixed_c (x : Instance) (r : Route) (s : Sheet) (now : Int) (t : VType) (hty : 0 ≤ r.type ∧ r.type < (x.types.length : Int)) (ht : x.types[r.type.toNat]? = some t) (hin : ∀ v ∈ r.visits, 0 ≤ v.order ∧ v.order < (x.orders.length : Int))
    (htl : s.times.length = r.visits.length) (hst : ∀ v ∈ r.visits, (stop18 x v).2 = true) (hr : r.visits.length ≤ 1048576) :
    PC Tryz.prog 65 [.agg (encInstance x), .agg (encRoute r), .agg (encSheet s), int now] (.tup [int (progT x t r s now).1, boo (progT x t r s now).2]) := by
  refine PC.body (c := Tryz.f65.body.getD .skip) (fun _ => false) mixed Tryz.func65 rfl (by kernel_rfl) ?_
  unfold Tryz.f65
  simp only [Option.getD_some]
  simp only [go_sem]
  refine adraw_q (by rfl) (by kernel_rfl) ?_
  simp only [go_sem, getD_map ht, hty]
  refine ⟨fun ρ H => ∃ k : Nat, k ≤ r.visits.length ∧ ρ 3 = int now ∧ ρ 4 = .rp (encInstance x) 0 ∧ ρ 5 = .rp (encRoute r) 0 ∧ ρ 6 = .rp (encSheet s) 0 ∧ ρ 10 = int k ∧ ρ 11 = int (readyK x t r s k) ∧ ρ 12 = int k ∧ ∀ m, m < k → readyK x t r s m < now, fun ρ _ => r.visits.length - natOf (ρ 12),
    ⟨0, Nat.zero_le _, by simp only [go_sem], by simp only [go_sem], by simp only [go_sem], by simp only [go_sem], by simp only [go_sem]; rfl, by simp only [go_sem]; rfl, by simp only [go_sem]; rfl, by omega⟩, ?_⟩
  rintro ρ H ⟨k, hk, h3, h4, h5, h6, h10, h11, h12, hz⟩
  simp only [go_sem, h3, h4, h5, h6, h10, h11, h12]
  refine acond_i (fun hlt => ?_) (fun hge => ?_)
  · have hlt := le_of_lt_b hlt
    obtain ⟨v, hv⟩ := getIn hlt
    obtain ⟨tm, htm⟩ := getIn (show k < s.times.length by omega)
    have hov := hin v (List.mem_of_getElem? hv)
    obtain ⟨o, ho⟩ := getIn (show v.order.toNat < x.orders.length by omega)
    simp only [go_sem, h3, h4, h5, h6, h10, h11, h12]
    refine acond_i (fun hb2 => ?_) (fun hb2 => ?_)
    · simp only [go_sem, h10]
      rw [prog_hit hlt hz (by simpa using hb2)]
      exact .refl _
    · have hb2 : readyK x t r s k < now := by simpa using hb2
      simp only [go_sem, h3, h4, h5, h6, h10, h11, h12, wrapS (show k ≤ 4611686018427387904 by omega)]
      refine PC.use (ended_c x r s k v o tm hv hov ho htm) ?_
      simp only [go_sem, h3, h4, h5, h6, h10, h11, h12, wrapS (show k ≤ 4611686018427387904 by omega)]
      exact ⟨⟨k + 1, hlt, rfl, by rw [ready_succ hv htm, stopO_V (hst v (List.mem_of_getElem? hv)) ho], rfl, fun m hm => by
        by_cases e : m = k
        · subst e; exact hb2
        · exact hz m (by omega)⟩, by simp only [natOf_int]; omega⟩
  · have hge := eq_of_ge_b hk hge
    subst hge
    simp only [go_sem, h3, h10, h11]
    rw [prog_none hz]
    exact .refl _

def followP (a b : StepT) : Int := if decide (b.now < a.now) = true then 32 else if ((prefP a.inst a.plan b.now).2 != 0) = true then (prefP a.inst a.plan b.now).2 else keepsP b.plan (prefP a.inst a.plan b.now).1
structure StepB (s : StepT) : Prop where
  acc : Acc s.inst
  routes : s.plan.routes.length ≤ 5
  visits : ∀ r ∈ s.plan.routes, r.visits.length ≤ 8 ∧ r.rests.length ≤ 9
theorem begunP_L {r : Route} {n : Nat} {d : Bool} {s : Sheet} (hr : r.visits.length ≤ 8) (hs : s.times.length = r.visits.length) : RouteL (begunP r n d s) := by
  constructor
  · show (r.visits.take n).length ≤ _
    rw [List.length_take]; omega
  · show ((restsS s).take _).length ≤ _
    have : (restsS s).length = s.times.length + 1 := by simp [restsS]
    rw [List.length_take]; omega
theorem pref_L {s : StepT} (h : StepB s) (now : Int) : (prefP s.inst s.plan now).1.length ≤ 1048576 ∧ ∀ b ∈ (prefP s.inst s.plan now).1, RouteL b := by
  unfold prefP
  split
  · simp
  · split
    · simp
    · rename_i hn
      refine ⟨by have := pre_len s.inst now s.plan.routes; have := h.routes; show (s.plan.routes.flatMap (preR s.inst now)).length ≤ _; omega, fun b hb => ?_⟩
      obtain ⟨r, hr, hb⟩ := List.mem_flatMap.1 hb
      have he := List.find?_eq_none.1 hn r hr
      unfold preR at hb
      split at hb
      · have he : (eval21 s.inst r).2.2 = 0 := by simpa [badE] using he
        rw [List.mem_singleton.1 hb]
        exact begunP_L (h.visits r hr).1 (eval_facts h.acc he).2.2.1
      · cases hb
theorem follows_c (a b : StepT) (ha : StepB a) (hb : StepB b) : PC Tryz.prog 24 [.agg (encStepT a), .agg (encStepT b)] (int (followP a b)) := by
  have hL := pref_L ha b.now
  have har := ha.routes
  have hbr := hb.routes
  refine PC.body (c := Tryz.f24.body.getD .skip) (fun _ => false) mixed Tryz.func24 rfl (by kernel_rfl) ?_
  unfold Tryz.f24
  simp only [Option.getD_some]
  simp only [go_sem]
  refine acond_i (fun h => ?_) (fun h => ?_)
  · simp only [go_sem]
    exact convI (by unfold followP; rw [if_pos h])
  simp only [go_sem]
  refine PC.use (prefixes_c a.inst a.plan b.now ha.acc (by omega) fun r hr => by have := (ha.visits r hr).1; omega) ?_
  simp only [go_sem]
  refine acond_i (fun h2 => ?_) (fun h2 => ?_)
  · simp only [go_sem]
    exact convI (by unfold followP; rw [if_neg (by rw [h]; simp), if_pos h2])
  simp only [go_sem]
  refine PC.use (keeps_c b.plan _ (by omega) hL.1 (fun r hr => ⟨by have := (hb.visits r hr).1; omega, by have := (hb.visits r hr).2; omega⟩) hL.2) ?_
  simp only [go_sem]
  exact convI (by unfold followP; rw [if_neg (by rw [h]; simp), if_neg (by rw [h2]; simp)])
end Go.Proofs.YtbefdpmjpioijaaGreatDoor.Sq
