/- what an accepted instance holds; the reference finds a driven route where the program does; the visits of a route are right for the reference where they are right for the program; so are the skills; the loads on board and the skills: the reference agrees with the program; the loads on board, second half; both evaluations answer alike; there are no violations exactly if the reference accepts the plan; what a small plan needs -/
import Derived.Test.YtbefdpmjpioijaaGreatDoorAuJ
import Derived.Test.YtbefdpmjpioijaaGreatDoorAuL
import Derived.Test.YtbefdpmjpioijaaGreatDoorAuM
set_option linter.unusedSimpArgs false
set_option linter.unusedVariables false
namespace Go.Proofs.YtbefdpmjpioijaaGreatDoor.Sq
open Go.Aw Go.Aw.D Go.Proofs Ty
open Mv (take_allP)
open Mv (convI convB convA NC.pc take_allP)
set_option maxRecDepth 100000

theorem inR_iff {n a b : Int} : inR n a b = true ↔ a ≤ n ∧ n ≤ b := by
  unfold inR
  simp only [Bool.and_eq_true, decide_eq_true_eq]
theorem not_f {b : Bool} (h : (!b) = false) : b = true := by simpa using h
structure TypeB (t : VType) (d : Int) : Prop where
  cap : capR t.cap d = true
  skills : 0 ≤ t.skills ∧ t.skills ≤ 1073741823
  start : 0 ≤ t.start ∧ t.start ≤ t.close
  close : t.close ≤ 4096
  drive : 1 ≤ t.drive ∧ t.drive ≤ 4096
  rest : 0 ≤ t.rest ∧ t.rest ≤ 4096
  count : 0 ≤ t.count ∧ t.count ≤ 10
theorem typeB_of {n : Network} {l : List VType} {k : Nat} {t : VType} (h : typeErrs n l k t = []) : TypeB t (dimsR l) := by
  unfold typeErrs at h
  simp only [List.nil_append, List.append_eq_nil_iff] at h
  obtain ⟨⟨⟨⟨⟨⟨⟨⟨_, _⟩, h3⟩, _⟩, h5⟩, h6⟩, h7⟩, h8⟩, h9⟩ := h
  have e3 := inR_iff.1 (not_f (opt_nil h3))
  have e5 := not_f (opt_nil h5)
  have e6 := inR_iff.1 (not_f (opt_nil h6))
  have e7 := Bool.or_eq_false_iff.1 (opt_nil h7)
  have e8 := Bool.or_eq_false_iff.1 (opt_nil h8)
  have q7 := inR_iff.1 (not_f e7.1)
  have q72 : ¬ t.close > 4096 := by simpa using e7.2
  exact ⟨e5, e6, q7, by omega, inR_iff.1 (not_f e8.1), inR_iff.1 (not_f e8.2), e3⟩
structure OrdB (o : Order) (d : Int) : Prop where
  load : rightR o.load d = true
  pick : -1 ≤ o.pick.place
  drop : -1 ≤ o.drop.place
  both : (o.pick.place == -1 && o.drop.place == -1) = false
  wpick : windowR o.pick = 0
  wdrop : windowR o.drop = 0
  skills : 0 ≤ o.skills ∧ o.skills ≤ 1073741823
  penalty : -1 ≤ o.penalty ∧ o.penalty ≤ 1000000
theorem ordB_of {P : Nat} {d T : Int} {l : List Order} {k : Nat} {o : Order} (h : orderErrs P d T l k o = []) : OrdB o d := by
  unfold orderErrs at h
  simp only [List.nil_append, List.append_eq_nil_iff] at h
  obtain ⟨⟨⟨⟨⟨⟨⟨_, _⟩, h3⟩, h4⟩, h5⟩, h6⟩, h7⟩, h8⟩ := h
  have e4 := Bool.or_eq_false_iff.1 (opt_nil h4)
  have e6 := Bool.or_eq_false_iff.1 (opt_nil h6)
  have e8 := opt_nil h8
  simp only [Bool.or_eq_false_iff] at e8
  refine ⟨not_f (opt_nil h3), (inR_iff.1 (not_f e4.1)).1, (inR_iff.1 (not_f e4.2)).1, opt_nil h5, by simpa using e6.1, by simpa using e6.2, inR_iff.1 (not_f (opt_nil h7)), inR_iff.1 (not_f e8.1.1.1.1.1.1)⟩
structure ArcOk (a : Arc) : Prop where
  travel : travelR a.travel = []
  slow : a.slow.length ≤ 16
  pt : ∀ p ∈ a.slow, (0 ≤ p.t ∧ p.t ≤ 4096) ∧ 0 ≤ p.a ∧ p.a ≤ 4096
theorem arcOk_of {n : Network} {k : Nat} {a : Arc} (ha : n.arcs[k]? = some a) (h : arcR n k = []) : ArcOk a := by
  unfold arcR at h
  rw [arcAt_get ha] at h
  simp only [List.nil_append, List.append_eq_nil_iff, List.map_eq_nil_iff] at h
  obtain ⟨⟨⟨_, h4⟩, h5⟩, h6⟩ := h
  have e5 : ¬ (a.slow.length : Int) > 16 := by simpa using opt_nil h5
  refine ⟨h4, by omega, fun p hp => ?_⟩
  obtain ⟨i, hi, rfl⟩ := List.getElem_of_mem hp
  have := List.flatMap_eq_nil_iff.1 h6 i (List.mem_range.2 hi)
  have hb := opt_nil this
  unfold badSlow at hb
  rw [ptAt_get (List.getElem?_eq_getElem hi)] at hb
  simp only [Bool.or_eq_false_iff] at hb
  exact ⟨inR_iff.1 (not_f hb.1.1), inR_iff.1 (not_f hb.1.2)⟩
structure PairB (N : Int) (q : Pair) : Prop where
  a : 0 ≤ q.a ∧ q.a < N
  b : 0 ≤ q.b ∧ q.b < N
  ne : q.a ≠ q.b
theorem pairB_of {N : Int} {l : List Pair} {w : ByteArray} {s : Bool} (h : pairsR N l w s = []) : l.length ≤ 16 ∧ ∀ q ∈ l, PairB N q := by
  unfold pairsR at h
  rw [List.append_eq_nil_iff] at h
  have e1 : ¬ (l.length : Int) > 16 := by simpa using opt_nil h.1
  refine ⟨by omega, fun q hq => ?_⟩
  obtain ⟨i, hi, rfl⟩ := List.getElem_of_mem hq
  have := List.flatMap_eq_nil_iff.1 h.2 i (List.mem_range.2 hi)
  unfold pairFaults at this
  have ep : pAt l i = l[i] := by simp [pAt, List.getD, hi]
  rw [ep] at this
  split at this
  · simp at this
  · rename_i hb
    unfold Go.Proofs.YtbefdpmjpioijaaGreatDoor.badPair at hb
    simp only [Bool.or_eq_false_iff, decide_eq_false_iff_not] at hb
    exact ⟨by omega, by omega, by simpa using hb.2⟩
structure Acc (x : Instance) : Prop where
  arcs : x.net.arcs.length ≤ 1024
  arc : ∀ a ∈ x.net.arcs, ArcOk a
  types : 1 ≤ x.types.length ∧ x.types.length ≤ 6
  type : ∀ t ∈ x.types, TypeB t (dimsR x.types)
  orders : x.orders.length ≤ 10
  order : ∀ o ∈ x.orders, OrdB o (dimsR x.types)
  apart : x.apart.length ≤ 16
  apartB : ∀ q ∈ x.apart, PairB x.orders.length q
  before : x.before.length ≤ 16
  beforeB : ∀ q ∈ x.before, PairB x.orders.length q
theorem acc_of {x : Instance} (h : checkR x = []) : Acc x := by
  unfold checkR at h
  simp only [List.append_eq_nil_iff, List.map_eq_nil_iff] at h
  obtain ⟨⟨⟨hn, ht⟩, ho⟩, hr⟩ := h
  unfold netR at hn
  simp only [List.append_eq_nil_iff] at hn
  unfold typesR at ht
  rw [List.append_eq_nil_iff] at ht
  unfold ordersR at ho
  rw [List.append_eq_nil_iff] at ho
  unfold rulesR at hr
  rw [List.append_eq_nil_iff] at hr
  obtain ⟨r1, r2⟩ := pairB_of hr.1
  obtain ⟨r3, r4⟩ := pairB_of hr.2
  have e1 : ¬ (x.net.arcs.length : Int) > 1024 := by simpa using opt_nil hn.1.2
  have e2 := inR_iff.1 (not_f (opt_nil ht.1))
  have e3 : ¬ (x.orders.length : Int) > 10 := by simpa using opt_nil ho.1
  refine ⟨by omega, fun a ha => ?_, by omega, fun t htm => ?_, by omega, fun o hom => ?_, r1, r2, r3, r4⟩
  · obtain ⟨i, hi, rfl⟩ := List.getElem_of_mem ha
    exact arcOk_of (List.getElem?_eq_getElem hi) (List.flatMap_eq_nil_iff.1 hn.2 i (List.mem_range.2 hi))
  · obtain ⟨i, hi, rfl⟩ := List.getElem_of_mem htm
    have := List.flatMap_eq_nil_iff.1 ht.2 i (List.mem_range.2 hi)
    unfold typeFaults at this
    rw [List.map_eq_nil_iff, vtAt_get (List.getElem?_eq_getElem hi)] at this
    exact typeB_of this
  · obtain ⟨i, hi, rfl⟩ := List.getElem_of_mem hom
    have := List.flatMap_eq_nil_iff.1 ho.2 i (List.mem_range.2 hi)
    unfold orderFaults at this
    rw [List.map_eq_nil_iff, orAt_get (List.getElem?_eq_getElem hi)] at this
    exact ordB_of this
theorem dims_eq (x : Instance) : dims17 x = dimsR x.types := by
  unfold dims17 dimsR
  cases x.types <;> rfl
theorem right_spec {l : List Int} {d : Int} (h : rightR l d = true) : (l.length : Int) = d ∧ ∀ n ∈ l, 0 ≤ n ∧ n ≤ 1000 := by
  unfold rightR at h
  split at h
  · rename_i hd
    refine ⟨hd, fun n hn => ?_⟩
    have := List.all_eq_true.1 h n hn
    simp only [Bool.not_eq_true', Bool.or_eq_false_iff, decide_eq_false_iff_not] at this
    omega
  · cases h
theorem cap_spec {l : List Int} {d : Int} (h : capR l d = true) : (l.length : Int) = d ∧ 1 ≤ d ∧ d ≤ 3 := by
  unfold capR at h
  split at h
  · cases h
  · rename_i hb
    simp only [Bool.not_eq_true, Bool.or_eq_false_iff] at hb
    have h1 := inR_iff.1 (not_f hb.1)
    have h2 : (l.length : Int) = d := by simpa [bne] using hb.2
    omega
section
variable {x : Instance} (h : Acc x)
include h
theorem Acc.dims : 1 ≤ dims17 x ∧ dims17 x ≤ 3 := by
  rw [dims_eq]
  have h1 := h.types
  obtain ⟨t, ht⟩ := getIn (show 0 < x.types.length by omega)
  have := cap_spec (h.type t (List.mem_of_getElem? ht)).cap
  omega
theorem Acc.netOk : NetOk x.net := ⟨by have := h.arcs; omega, fun a ha => (h.arc a ha).travel, fun a ha => by have := (h.arc a ha).slow; omega⟩
theorem Acc.netB : NetB x.net := ⟨by have := h.arcs; omega, fun a ha => by
  have hb := trav_of (h.arc a ha).travel
  have := (h.arc a ha).slow
  exact ⟨by have := hb.len; omega, by omega, fun p hp => by have := hb.pt p hp; unfold i64B; omega⟩⟩
theorem Acc.insB : InsB x := ⟨h.netB, by have := h.types; omega, by have := h.orders; omega, by have := h.apart; omega, by have := h.before; omega⟩
theorem Acc.loadB : LoadB x := ⟨by have := h.dims; omega, fun o ho => by
  have := (right_spec (h.order o ho).load).1
  rw [← dims_eq] at this; omega, by have := h.orders; omega⟩
theorem Acc.evalB : EvalB x := ⟨h.netOk, h.loadB, by have := h.apart; omega, by have := h.before; omega⟩
end

theorem ptAt_mem {l : List Point} {i : Nat} (h : i < l.length) : ptAt l i ∈ l := by
  rw [ptAt_get (List.getElem?_eq_getElem h)]; exact List.getElem_mem h
theorem endV_pos {p : Point} {t : Int} (hp : 0 ≤ p.t ∧ p.t ≤ 4096 ∧ p.t ≤ p.a ∧ p.a ≤ p.t + 4096) (ht : 0 ≤ t ∧ t ≤ 12288) : 0 ≤ endV p t ∧ endV p t ≤ 100000000 := by
  unfold endV
  rw [W_in' (n := t + p.a) (by omega), W_in' (by omega)]; omega
theorem segV_pos {p q : Point} {t : Int} (hp : 0 ≤ p.t ∧ p.t ≤ 4096 ∧ p.t ≤ p.a ∧ p.a ≤ p.t + 4096) (hq : 0 ≤ q.t ∧ q.t ≤ 4096 ∧ q.t ≤ q.a ∧ q.a ≤ q.t + 4096) (ha : p.a ≤ q.a) (h1 : p.t ≤ t) (h2 : t < q.t) : 0 ≤ segV p q t ∧ segV p q t ≤ 100000000 := by
  unfold segV
  have hx : 0 ≤ t - p.t ∧ t - p.t ≤ 4096 := by omega
  have hy : 0 ≤ q.a - p.a ∧ q.a - p.a ≤ 8192 := by omega
  have hm0 : 0 ≤ (t - p.t) * (q.a - p.a) := Int.mul_nonneg hx.1 hy.1
  have hm1 : (t - p.t) * (q.a - p.a) ≤ 4096 * 8192 := Int.mul_le_mul hx.2 hy.2 hy.1 (by omega)
  rw [W_in' (n := t - p.t) (by omega), W_in' (n := q.a - p.a) (by omega), W_in' (n := (t - p.t) * (q.a - p.a)) (by omega), W_in' (n := q.t - p.t) (by omega)]
  generalize (t - p.t) * (q.a - p.a) = m at hm0 hm1
  rw [W_in' (n := m + q.t) (by omega), W_in' (n := m + q.t - p.t) (by omega), W_in' (n := m + q.t - p.t - 1) (by omega), Int.tdiv_eq_ediv_of_nonneg (by omega)]
  have d0 : 0 ≤ (m + q.t - p.t - 1) / (q.t - p.t) := Int.ediv_nonneg (by omega) (by omega)
  have d1 : (m + q.t - p.t - 1) / (q.t - p.t) ≤ m + q.t - p.t - 1 := Int.ediv_le_self _ (by omega)
  have e : IntKind.i64.wrap ((m + q.t - p.t - 1) / (q.t - p.t)) = (m + q.t - p.t - 1) / (q.t - p.t) := W_in' (by omega)
  rw [e, W_in' (by omega)]
  omega
theorem arr_pos {l : List Point} {t : Int} (h : travelR l = []) (ht : 0 ≤ t ∧ t ≤ 12288) : 0 ≤ arrive07 l t ∧ arrive07 l t ≤ 100000000 := by
  have hb := trav_of h
  have hl := hb.len
  unfold arrive07
  split
  · omega
  · split
    · rename_i k hk
      have hs := List.find?_some hk
      have hm := List.mem_range.1 (List.mem_of_find?_eq_some hk)
      simp only [segIs, Bool.and_eq_true, decide_eq_true_eq] at hs
      have := hb.mono k (by omega)
      exact segV_pos (hb.pt _ (ptAt_mem (by omega))) (hb.pt _ (ptAt_mem (by omega))) this.2 hs.1 hs.2
    · split
      · exact endV_pos (hb.pt _ (ptAt_mem (by omega))) ht
      · exact endV_pos (hb.pt _ (ptAt_mem (by omega))) ht
theorem slow_pos {t : Int} : ∀ (l : List Point) (s B : Int), (∀ p ∈ l, 0 ≤ p.a ∧ p.a ≤ 4096) → 0 ≤ s ∧ s ≤ B → B + 4096 * l.length ≤ 1000000000000 → 0 ≤ l.foldl (slowS t) s ∧ l.foldl (slowS t) s ≤ B + 4096 * l.length
  | [], s, B, _, hs, _ => by simpa using hs
  | p :: l, s, B, hp, hs, hB => by
    have h1 := hp p (by simp)
    simp only [List.length_cons, List.foldl_cons] at hB ⊢
    have e : 0 ≤ slowS t s p ∧ slowS t s p ≤ B + 4096 := by
      unfold slowS
      split
      · rw [W_in' (by omega)]; omega
      · omega
    have := slow_pos (t := t) l (slowS t s p) (B + 4096) (fun q hq => hp q (by simp [hq])) e (by omega)
    omega
theorem arrive_pos {a : Arc} {t : Int} (h : ArcOk a) (ht : 0 ≤ t ∧ t ≤ 12288) : 0 ≤ arrive09 a t ∧ arrive09 a t ≤ 1000000000 := by
  have h1 := arr_pos h.travel ht
  have h2 := h.slow
  have := slow_pos (t := t) a.slow _ 100000000 (fun p hp => (h.pt p hp).2) h1 (by omega)
  unfold arrive09
  omega
theorem zstop_spec {s : Stop} (h : windowR s = 0) (h2 : 0 ≤ s.place) : StopB s ∧ s.start ≤ s.close := by
  unfold windowR at h
  split at h
  · rename_i hz
    simp only [Go.Proofs.YtbefdpmjpioijaaGreatDoor.zeroStop, Bool.and_eq_true, beq_iff_eq] at hz
    omega
  · split at h
    · cases h
    · rename_i hb
      simp only [badStop, Bool.not_eq_true, Bool.or_eq_false_iff, decide_eq_false_iff_not] at hb
      exact ⟨⟨by omega, by omega, by omega, by omega⟩, by omega⟩
section
variable {x : Instance} (h : Acc x)
include h
theorem Acc.go {t : VType} (ht : t ∈ x.types) : GoB x t := by
  have hT := h.type t ht
  have h2 := hT.start
  have h3 := hT.close
  have h4 := hT.drive
  refine ⟨fun p q d hd he => ?_, hT.rest, h3, h4.2⟩
  unfold go09 at he ⊢
  split
  · exact Int.le_refl _
  · split
    · exact hd.1
    · cases hf : find09 x.net t.profile p q with
      | none => exact Int.le_refl _
      | some a => exact (arrive_pos (h.arc a (List.mem_of_find?_eq_some hf)) hd).1
theorem Acc.stop {v : Visit} (hv : (stop18 x v).2 = true) : StopB (stop18 x v).1 ∧ (stop18 x v).1.start ≤ (stop18 x v).1.close := by
  unfold stop18 at hv ⊢
  split
  · rename_i hb; rw [if_pos hb] at hv; cases hv
  · rename_i hb
    rw [if_neg hb] at hv
    cases ho : x.orders[v.order.toNat]? with
    | none => rw [ho] at hv; cases hv
    | some o =>
      rw [ho] at hv
      have hp : 0 ≤ (stopO o v).place := by simpa using hv
      have hO := h.order o (List.mem_of_getElem? ho)
      refine zstop_spec ?_ hp
      show windowR (stopO o v) = 0
      unfold stopO
      cases v.drop
      · exact hO.wpick
      · exact hO.wdrop
theorem Acc.route {r : Route} {t : VType} (hp : possible18 x r = true) (ht : x.types[r.type.toNat]? = some t) : RouteB x t r ∧ ∀ v ∈ r.visits, (stop18 x v).1.start ≤ (stop18 x v).1.close := by
  unfold possible18 at hp
  simp only [Bool.and_eq_true, Bool.not_eq_true', Bool.or_eq_false_iff, decide_eq_false_iff_not] at hp
  have hv : ∀ v ∈ r.visits, (stop18 x v).2 = true := List.all_eq_true.1 hp.2
  have hT := h.type t (List.mem_of_getElem? ht)
  have h2 := hT.start
  have h3 := hT.close
  refine ⟨⟨h.go (List.mem_of_getElem? ht), fun v hm => (h.stop (hv v hm)).1, ⟨?_, by show -(12288 * ((0 : Nat) : Int)) ≤ 0 ∧ (0 : Int) ≤ 4096; omega⟩, by omega⟩, fun v hm => (h.stop (hv v hm)).2⟩
  unfold lab0
  show 0 ≤ imax t.start r.start ∧ imax t.start r.start ≤ 8192
  unfold imax
  split <;> omega
end
theorem placePD (x : Instance) (t : VType) (r : Route) (k : Nat) (hk : k ≤ r.visits.length) : placeP t (stopsL x r.visits) k = placeD x t r k := by
  cases k with
  | zero => rfl
  | succ j =>
    obtain ⟨v, hv⟩ := getIn (show j < r.visits.length by omega)
    simp [placeP, placeD, stopsL, List.getD, hv]
theorem stepPD (x : Instance) (t : VType) (r : Route) (k : Nat) (hk : k ≤ r.visits.length) (l : Lab) (b : Bool) : stepP x t (stopsL x r.visits) k l b = stepD x t r k l b := by
  unfold stepP stepD
  rw [placePD x t r k hk]
  unfold stopsL
  rw [List.getElem?_map]
  cases r.visits[k]? <;> rfl
theorem runPD (x : Instance) (t : VType) (r : Route) : ∀ (bs : List Bool) (k : Nat) (l : Lab), bs.length + k ≤ r.visits.length + 1 → runP x t (stopsL x r.visits) bs k l = runD x t r bs k l
  | [], k, l, _ => rfl
  | b :: bs, k, l, h => by
    simp only [List.length_cons] at h
    unfold runP runD
    rw [stepPD x t r k (by omega)]
    cases stepD x t r k l b with
    | error e => rfl
    | ok l' => exact runPD x t r bs (k + 1) l' (by omega)
theorem growPD (x : Instance) (t : VType) (r : Route) (k : Nat) (hk : k ≤ r.visits.length) (ls : List Lab) : growP x t r (stopsL x r.visits) ls k = growD x t r ls k := by
  unfold growP growD
  rw [List.foldl_flatMap]
  congr 1
  funext out l
  unfold fromP
  congr 1
  exact List.map_congr_left fun b _ => stepPD x t r k hk l b
theorem dpPD (x : Instance) (t : VType) (r : Route) : ∀ k : Nat, k ≤ r.visits.length + 1 → dpP x t r (stopsL x r.visits) k = dpL x t r k
  | 0, _ => rfl
  | k + 1, h => by
    show growP x t r _ _ k = growD x t r _ k
    rw [growPD x t r k (by omega), dpPD x t r k (by omega)]
theorem errD_same : @Go.Proofs.YtbefdpmjpioijaaGreatDoor.Sq.errD = @Go.Proofs.YtbefdpmjpioijaaGreatDoor.Sq.errD := rfl
/-- both searches answer alike -/
theorem Acc.best {x : Instance} (h : Acc x) (r : Route) : (bestP x r).2 = (best18 x r).2 := by
  unfold bestP
  split
  · rename_i hb
    unfold best18
    rw [if_pos (by simpa using hb)]
  · rename_i hb
    have hb' : possible18 x r = true ∧ (r.rests.length : Int) ≤ (r.visits.length : Int) + 1 := by simpa using hb
    obtain ⟨hp, hr⟩ := hb'
    have hty : ∃ t, x.types[r.type.toNat]? = some t := by
      have := hp
      unfold possible18 at this
      simp only [Bool.and_eq_true, Bool.not_eq_true', Bool.or_eq_false_iff, badNo, decide_eq_false_iff_not] at this
      exact getIn (by omega)
    obtain ⟨t, ht⟩ := hty
    rw [ht]
    show (bestT x t r).2 = _
    obtain ⟨hB, hs⟩ := h.route hp ht
    have hr : r.rests.length ≤ r.visits.length + 1 := by omega
    rw [best_dp hB hp ht hr hs]
    unfold bestT
    rw [dpPD x t r _ (Nat.le_refl _)]
    cases dpL x t r (r.visits.length + 1) with
    | nil =>
      show errD (runP x t _ _ 0 _) = _
      rw [runPD x t r _ 0 _ (by rw [rests0_len hr]; omega)]
    | cons l ls => rfl

theorem idx_spec {α : Type} (p : α → Bool) (l : List α) : ((∀ y ∈ l, p y = false) ∧ idxF p l 0 = -1) ∨ ∃ (k : Nat) (x : α), l[k]? = some x ∧ p x = true ∧ (∀ y ∈ l.take k, p y = false) ∧ idxF p l 0 = k := by
  by_cases h : l.any p = true
  · right
    have hk : l.findIdx p < l.length := List.findIdx_lt_length_of_exists (by simpa using h)
    refine ⟨l.findIdx p, l[l.findIdx p], List.getElem?_eq_getElem hk, List.findIdx_getElem, ?_, ?_⟩
    · intro y hy
      obtain ⟨i, hi, rfl⟩ := List.getElem_of_mem hy
      rw [List.length_take] at hi
      rw [List.getElem_take]
      exact List.not_of_lt_findIdx (by omega)
    · have := idxF_hit (p := p) (l := l) (k := l.findIdx p) (x := l[l.findIdx p]) (by
        intro y hy
        obtain ⟨i, hi, rfl⟩ := List.getElem_of_mem hy
        rw [List.length_take] at hi
        rw [List.getElem_take]
        exact List.not_of_lt_findIdx (by omega)) (List.getElem?_eq_getElem hk) List.findIdx_getElem 0
      rw [this]; omega
  · left
    have h : ∀ y ∈ l, p y = false := fun y hy => by
      have := List.any_eq_false.1 (Bool.eq_false_iff.2 h) y hy
      simpa using this
    exact ⟨h, idxF_miss h 0⟩
theorem sameV_iff {v u : Visit} : sameV v u = true ↔ u = v := by
  unfold sameV
  constructor
  · intro h
    simp only [Bool.and_true, Bool.and_eq_true, beq_iff_eq] at h
    cases u; cases v; simp only [Visit.mk.injEq]; exact ⟨h.1, h.2⟩
  · rintro rfl; simp
theorem twice_dup {l : List Visit} {i : Nat} (hi : i < l.length) : twiceAt l i = dupAt l i := by
  obtain ⟨v, hv⟩ := getIn hi
  unfold twiceAt dupAt
  rw [show l.getD i ⟨0, false⟩ = v by simp [List.getD, hv]]
  unfold index16
  rw [idxF_any _ 0 (Int.le_refl _)]
  by_cases h : (l.take i).any (sameV v) = true
  · rw [h]
    rcases idx_spec (sameV v) l with ⟨h1, _⟩ | ⟨k, y, hk, hy, hz, he⟩
    · obtain ⟨u, hu, hs⟩ := List.any_eq_true.1 h
      rw [h1 u (List.mem_of_mem_take hu)] at hs; cases hs
    · rw [he]
      have : k < i := by
        refine Decidable.byContradiction fun hc => ?_
        obtain ⟨u, hu, hs⟩ := List.any_eq_true.1 h
        have hu2 : u ∈ l.take k := by
          obtain ⟨j, hj, rfl⟩ := List.getElem_of_mem hu
          rw [List.length_take] at hj
          rw [List.getElem_take]
          exact List.mem_take_iff_getElem.2 ⟨j, by omega, rfl⟩
        rw [hz u hu2] at hs; cases hs
      symm
      simp only [bne_iff_ne, ne_eq]
      omega
  · have h : ∀ y ∈ l.take i, sameV v y = false := fun y hy => by
      have := List.any_eq_false.1 (Bool.eq_false_iff.2 h) y hy
      simpa using this
    rw [idxF_hit h hv (sameV_iff.2 rfl) 0, any_no h]
    simp
theorem any_congr {α : Type} {p q : α → Bool} {l : List α} (h : ∀ a ∈ l, p a = q a) : l.any p = l.any q := by
  rw [Bool.eq_iff_iff, List.any_eq_true, List.any_eq_true]
  exact ⟨fun ⟨a, h1, h2⟩ => ⟨a, h1, (h a h1) ▸ h2⟩, fun ⟨a, h1, h2⟩ => ⟨a, h1, (h a h1).symm ▸ h2⟩⟩
theorem all_congr {α : Type} {p q : α → Bool} {l : List α} (h : ∀ a ∈ l, p a = q a) : l.all p = l.all q := by
  rw [Bool.eq_iff_iff, List.all_eq_true, List.all_eq_true]
  exact ⟨fun h' a ha => (h a ha) ▸ h' a ha, fun h' a ha => (h a ha).symm ▸ h' a ha⟩
theorem visits_same {o : Order} {i : Int} (h1 : -1 ≤ o.pick.place) (h2 : -1 ≤ o.drop.place) : visitsO o i = visits16 o i := by
  unfold visitsO visits16
  have e : ∀ n : Int, -1 ≤ n → (decide (n ≥ 0) = true ↔ (n != -1) = true) := by
    intro n hn; simp only [decide_eq_true_eq, bne_iff_ne, ne_eq]; omega
  simp only [e _ h1, e _ h2]
theorem idx_ne {l : List Visit} {u v : Visit} (h : u ≠ v) (hu : index16 l u ≥ 0) : index16 l u ≠ index16 l v := by
  unfold index16 at *
  intro e
  rcases idx_spec (sameV u) l with ⟨_, h1⟩ | ⟨k, y, hk, hy, _, h1⟩
  · omega
  · rcases idx_spec (sameV v) l with ⟨_, h2⟩ | ⟨m, z, hm, hz, _, h2⟩
    · omega
    · have : k = m := by omega
      subst this
      rw [hk] at hm
      injection hm with hm
      subst hm
      exact h ((sameV_iff.1 hy).symm.trans (sameV_iff.1 hz))
theorem idx_ge (l : List Visit) (v : Visit) : -1 ≤ index16 l v := by
  unfold index16
  rcases idx_spec (sameV v) l with ⟨_, h1⟩ | ⟨k, y, hk, hy, _, h1⟩ <;> omega
theorem pos_same (l : List Visit) (o : Order) (i : Int) : posInc l (visits16 o i) (-1) = !(!contains16 l (visits16 o i) || (((visits16 o i).length : Int) == 2 && decide (index16 l ((visits16 o i).getD 0 ⟨0, false⟩) > index16 l ((visits16 o i).getD 1 ⟨0, false⟩)))) := by
  have e : ∀ v, decide (index16 l v > -1) = !decide (index16 l v < 0) := fun v => by
    rw [Bool.eq_iff_iff]; simp only [decide_eq_true_eq, Bool.not_eq_true', decide_eq_false_iff_not]; omega
  unfold visits16
  split
  · split
    · have hn := idx_ne (l := l) (u := ⟨i, false⟩) (v := ⟨i, true⟩) (by simp)
      have h2 := idx_ge l ⟨i, true⟩
      simp only [List.cons_append, List.nil_append, posInc, e, contains16, List.all_cons, List.all_nil, List.length_cons, List.length_nil, List.getD_cons_zero, List.getD_cons_succ, Bool.and_true]
      rw [Bool.eq_iff_iff]
      simp
      omega
    · simp [posInc, contains16, e]
  · split
    · simp [posInc, contains16, e]
    · simp [posInc, contains16]
theorem pair_same {x : Instance} (h : Acc x) {l : List Visit} {v : Visit} (hv : 0 ≤ v.order ∧ v.order < (x.orders.length : Int)) : pairV x.orders l v = !badPair l (visAt x v.order) v := by
  obtain ⟨o, ho⟩ := getIn (show v.order.toNat < x.orders.length by omega)
  have hO := h.order o (List.mem_of_getElem? ho)
  have hb : badNo v.order x.orders.length = false := by simp only [badNo, Bool.or_eq_false_iff, decide_eq_false_iff_not]; omega
  unfold pairV visP visAt
  rw [if_neg (by rw [hb]; simp), ho]
  show (inV (visitsO o v.order) v && posInc l (visitsO o v.order) (-1)) = !badPair l (visits16 o v.order) v
  rw [visits_same hO.pick hO.drop, pos_same]
  unfold inV badPair
  rw [show decide (index16 (visits16 o v.order) v ≥ 0) = !decide (index16 (visits16 o v.order) v < 0) by
    rw [Bool.eq_iff_iff]; simp only [decide_eq_true_eq, Bool.not_eq_true', decide_eq_false_iff_not]; omega]
  generalize decide (index16 (visits16 o v.order) v < 0) = a
  generalize contains16 l (visits16 o v.order) = b
  generalize (((visits16 o v.order).length : Int) == 2 && decide (index16 l ((visits16 o v.order).getD 0 ⟨0, false⟩) > index16 l ((visits16 o v.order).getD 1 ⟨0, false⟩))) = c
  cases a <;> cases b <;> cases c <;> rfl
theorem cross_iff {l : List Visit} {a b : Int} : cross l a b = true ↔ ∃ j k : Nat, k < j ∧ j < l.length ∧ ordAt l j = a ∧ ordAt l k = b := by
  unfold cross crossAt
  simp only [List.any_eq_true, List.mem_range, Bool.and_eq_true, beq_iff_eq]
  constructor
  · rintro ⟨j, hj, k, hk, h⟩; exact ⟨j, k, hk, hj, h.1, h.2⟩
  · rintro ⟨j, k, hk, hj, h⟩; exact ⟨j, hj, k, hk, h⟩
theorem bef_same {l : List Visit} {a b : Int} (hab : a ≠ b) : befP l a b = (!hasO l b || (hasO l a && !cross l a b)) := by
  unfold befP
  rcases idx_spec (fun v : Visit => v.order == b) l with ⟨h0, h1⟩ | ⟨k, y, hk, hy, hz, h1⟩
  · rw [h1, show hasO l b = false from any_no h0]; rfl
  · rw [h1]
    have hb : hasO l b = true := List.any_eq_true.2 ⟨y, List.mem_of_getElem? hk, hy⟩
    rw [hb, show decide ((k : Int) < 0) = false by simp]
    simp only [Bool.false_or, Bool.not_true, Int.toNat_natCast]
    congr 2
    rw [Bool.eq_iff_iff, cross_iff]
    unfold hasO
    rw [List.any_eq_true]
    have hy' : y.order = b := by simpa using hy
    constructor
    · rintro ⟨u, hu, he⟩
      obtain ⟨i, hi, rfl⟩ := List.getElem_of_mem hu
      rw [List.getElem_drop] at he
      rw [List.length_drop] at hi
      have he : (l[k + i]'(by omega)).order = a := by simpa using he
      have hne : i ≠ 0 := by
        rintro rfl
        have : l[k + 0]'(by omega) = y := by
          have := List.getElem?_eq_getElem (l := l) (i := k) (by omega)
          rw [hk] at this; injection this with this; exact this.symm
        rw [this, hy'] at he; exact hab he.symm
      exact ⟨k + i, k, by omega, by omega, (ordAt_get (List.getElem?_eq_getElem (by omega))).trans he, (ordAt_get hk).trans hy'⟩
    · rintro ⟨j, m, hm, hj, ha, hb2⟩
      have hkm : k ≤ m := by
        refine Decidable.byContradiction fun hc => ?_
        have := hz (l[m]'(by omega)) (List.mem_take_iff_getElem.2 ⟨m, by omega, rfl⟩)
        rw [ordAt_get (List.getElem?_eq_getElem (show m < l.length by omega))] at hb2
        simp [hb2] at this
      refine ⟨l[j], ?_, by rw [ordAt_get (List.getElem?_eq_getElem hj)] at ha; simpa using ha⟩
      exact List.mem_drop_iff_getElem.2 ⟨j - k, by omega, by congr 1; omega⟩
/-- both checks of the visits answer alike -/
theorem Acc.seq {x : Instance} (h : Acc x) (l : List Visit) : seqP x l = check16 x l := by
  unfold seqP check16
  by_cases hb : (l.any fun v => badNo v.order x.orders.length) = true
  · rw [if_pos (by rw [hb]; simp), if_pos hb]
  have hb' : (l.any fun v => badNo v.order x.orders.length) = false := by simpa using hb
  have hin : ∀ v ∈ l, 0 ≤ v.order ∧ v.order < (x.orders.length : Int) := fun v hv => by
    have := List.any_eq_false.1 hb' v hv
    have : badNo v.order x.orders.length = false := by simpa using this
    simp only [badNo, Bool.or_eq_false_iff, decide_eq_false_iff_not] at this
    omega
  have hl := h.orders
  have hbad : ∀ v ∈ l, badO v = false := fun v hv => by
    have := hin v hv
    simp only [badO, Bool.or_eq_false_iff, decide_eq_false_iff_not]; omega
  rw [if_neg hb, (orders_ok h.loadB hin).1]
  show (if _ then _ else _) = _
  rw [hb']
  have e0 : (((l.length : Int) == 0) || false) = (((0 : Int) != 0) || ((l.length : Int) == 0)) := by simp
  rw [e0]
  by_cases h0 : (((0 : Int) != 0) || ((l.length : Int) == 0)) = true
  · rw [if_pos h0, if_pos h0]
  rw [if_neg h0, if_neg h0]
  have e2 : (List.range l.length).any (twiceAt l) = (List.range l.length).any (dupAt l) := any_congr fun i hi => twice_dup (List.mem_range.1 hi)
  have e3 : l.all (pairV x.orders l) = paired16 x l := all_congr fun v hv => pair_same h (hin v hv)
  have e4 : (x.apart.any fun q => hasO l q.a && hasO l q.b) = !apart16 x (setN l : Nat) := by
    unfold apart16
    rw [List.not_all_eq_any_not]
    refine any_congr fun q hq => ?_
    have hp := h.apartB q hq
    have h1 := has16_orders hbad (i := q.a) hp.a.1 (by have := hp.a; omega)
    have h2 := has16_orders hbad (i := q.b) hp.b.1 (by have := hp.b; omega)
    rw [(orders_ok h.loadB hin).1] at h1 h2
    rw [h1, h2]
    simp
  have e5 : (x.before.any fun q => !befP l q.a q.b) = !before16 x (setN l : Nat) l := by
    unfold before16
    rw [List.not_all_eq_any_not]
    refine any_congr fun q hq => ?_
    have hp := h.beforeB q hq
    have h1 := has16_orders hbad (i := q.a) hp.a.1 (by have := hp.a; omega)
    have h2 := has16_orders hbad (i := q.b) hp.b.1 (by have := hp.b; omega)
    rw [(orders_ok h.loadB hin).1] at h1 h2
    unfold befOk
    rw [bef_same hp.ne, h1, h2]
  rw [e2, e3, e4, e5]

/-! ### skills -/
theorem not63 {s c : Nat} (hs : s < 2 ^ 63) (hc : c < 2 ^ 63) : bitV .andNot .i64 (s : Int) (c : Int) = 0 ↔ ∀ i, i < 63 → ¬ (s.testBit i = true ∧ c.testBit i = false) := by
  have h1 : ((s : Int) % ((2 ^ 64 : Nat) : Int)).toNat = s := by omega
  have h2 : ((c : Int) % ((2 ^ 64 : Nat) : Int)).toNat = c := by omega
  have hm : (BitVec.ofInt 64 (s : Int) &&& ~~~(BitVec.ofInt 64 (c : Int))).toNat < 2 ^ 63 := by
    rw [BitVec.toNat_and, BitVec.toNat_ofInt, h1]
    exact Nat.lt_of_le_of_lt Nat.and_le_left hs
  have e : bitV .andNot .i64 (s : Int) (c : Int) = (((BitVec.ofInt 64 (s : Int) &&& ~~~(BitVec.ofInt 64 (c : Int))).toNat : Nat) : Int) := by
    exact wrap_in (n := (((BitVec.ofInt 64 (s : Int) &&& ~~~(BitVec.ofInt 64 (c : Int))).toNat : Nat) : Int)) (by omega)
  have hbit : ∀ i, i < 64 → (BitVec.ofInt 64 (s : Int) &&& ~~~(BitVec.ofInt 64 (c : Int))).toNat.testBit i = (s.testBit i && !c.testBit i) := fun i hi => by
    rw [BitVec.testBit_toNat, BitVec.getLsbD_and, BitVec.getLsbD_not]
    have a1 : (BitVec.ofInt 64 (s : Int)).getLsbD i = s.testBit i := by rw [← BitVec.testBit_toNat, BitVec.toNat_ofInt, h1]
    have a2 : (BitVec.ofInt 64 (c : Int)).getLsbD i = c.testBit i := by rw [← BitVec.testBit_toNat, BitVec.toNat_ofInt, h2]
    rw [a1, a2, decide_eq_true hi]; simp
  rw [e]
  constructor
  · intro h0 i hi hc2
    have h0 : (BitVec.ofInt 64 (s : Int) &&& ~~~(BitVec.ofInt 64 (c : Int))).toNat = 0 := by omega
    have := hbit i (by omega)
    rw [h0, hc2.1, hc2.2] at this
    simp at this
  · intro hz
    have : (BitVec.ofInt 64 (s : Int) &&& ~~~(BitVec.ofInt 64 (c : Int))).toNat = 0 := by
      refine Nat.eq_of_testBit_eq fun i => ?_
      rw [Nat.zero_testBit]
      by_cases hi : i < 63
      · rw [hbit i (by omega)]
        have := hz i hi
        cases h3 : s.testBit i <;> cases h4 : c.testBit i <;> simp_all
      · refine Nat.testBit_lt_two_pow (Nat.lt_of_lt_of_le hm (Nat.pow_le_pow_right (by decide) (by omega)))
    omega
theorem pow_bit {s i : Nat} (hs : s < 2 ^ 63) : ((IntKind.i64.wrap (Int.tdiv (s : Int) ((2 ^ i : Nat) : Int))).tmod 2 == 1) = s.testBit i := by
  have e : Int.tdiv (s : Int) ((2 ^ i : Nat) : Int) = ((s / 2 ^ i : Nat) : Int) := by
    rw [Int.tdiv_eq_ediv_of_nonneg (by omega)]; norm_cast
  have hle : s / 2 ^ i ≤ s := Nat.div_le_self _ _
  rw [e, Nat.testBit_eq_decide_div_mod_eq]
  generalize s / 2 ^ i = q at hle
  rw [show IntKind.i64.wrap (q : Int) = (q : Int) from wrap_in (by omega), Int.tmod_eq_emod_of_nonneg (by omega)]
  rw [Bool.eq_iff_iff]
  simp only [beq_iff_eq, decide_eq_true_eq]
  omega
theorem pow_zero' {s i : Nat} (hs : s < 2 ^ 63) : ((IntKind.i64.wrap (Int.tdiv (s : Int) ((2 ^ i : Nat) : Int))).tmod 2 == 0) = !s.testBit i := by
  rw [← pow_bit hs]
  have e : Int.tdiv (s : Int) ((2 ^ i : Nat) : Int) = ((s / 2 ^ i : Nat) : Int) := by
    rw [Int.tdiv_eq_ediv_of_nonneg (by omega)]; norm_cast
  have hle : s / 2 ^ i ≤ s := Nat.div_le_self _ _
  rw [e]
  generalize s / 2 ^ i = q at hle
  rw [show IntKind.i64.wrap (q : Int) = (q : Int) from wrap_in (by omega), Int.tmod_eq_emod_of_nonneg (by omega)]
  rw [Bool.eq_iff_iff]
  simp only [beq_iff_eq, Bool.not_eq_true', beq_eq_false_iff_ne, ne_eq]
  omega
theorem able_same {c s : Int} (hc : 0 ≤ c ∧ c ≤ 1073741823) (hs : 0 ≤ s ∧ s ≤ 1073741823) : ableP c s = able10 c s := by
  obtain ⟨c, rfl⟩ := Int.eq_ofNat_of_zero_le hc.1
  obtain ⟨s, rfl⟩ := Int.eq_ofNat_of_zero_le hs.1
  have hc2 : c < 2 ^ 63 := by omega
  have hs2 : s < 2 ^ 63 := by omega
  unfold ableP able10
  rw [show decide ((c : Int) ≥ 0) = true by simp, show decide ((s : Int) ≥ 0) = true by simp, show decide ((c : Int) < 0) = false by simp, show decide ((s : Int) < 0) = false by simp]
  simp only [Bool.true_and, Bool.or_self, Bool.not_false]
  rw [Bool.eq_iff_iff, beq_iff_eq, not63 hs2 hc2, List.all_eq_true]
  constructor
  · intro h i hi
    have := h i (List.mem_range.1 hi)
    unfold ablePow
    rw [pow_bit hs2, pow_zero' hc2]
    cases h1 : s.testBit i <;> cases h2 : c.testBit i <;> simp_all
  · intro h i hi
    have := h i (List.mem_range.2 hi)
    unfold ablePow at this
    rw [pow_bit hs2, pow_zero' hc2] at this
    cases h1 : s.testBit i <;> cases h2 : c.testBit i <;> simp_all

/-! ### loads -/
theorem W_add (a b : Int) : W (W a + b) = W (a + b) := by
  show IntKind.i64.wrap (IntKind.i64.wrap a + b) = IntKind.i64.wrap (a + b)
  have e : ∀ n : Int, IntKind.i64.wrap n = if n % 18446744073709551616 ≥ 9223372036854775808 then n % 18446744073709551616 - 18446744073709551616 else n % 18446744073709551616 := fun n => by
    show (if (true && decide (n % 18446744073709551616 ≥ 9223372036854775808)) = true then n % 18446744073709551616 - 18446744073709551616 else n % 18446744073709551616) = _
    simp
  simp only [e]
  repeat' split
  all_goals omega
theorem W_sub (a b : Int) : W (W a - b) = W (a - b) := by
  have := W_add a (-b)
  rwa [← Int.sub_eq_add_neg, ← Int.sub_eq_add_neg] at this
def sumTo : Nat → (Nat → Int) → Int
  | 0, _ => 0
  | n + 1, f => sumTo n f + f n
theorem sumTo_congr {f g : Nat → Int} : ∀ {n : Nat}, (∀ i, i < n → f i = g i) → sumTo n f = sumTo n g
  | 0, _ => rfl
  | n + 1, h => by unfold sumTo; rw [sumTo_congr fun i hi => h i (by omega), h n (by omega)]
theorem sumTo_upd {f g : Nat → Int} {i0 : Nat} : ∀ {n : Nat}, i0 < n → (∀ i, i < n → i ≠ i0 → f i = g i) → sumTo n g = sumTo n f + (g i0 - f i0)
  | n + 1, hi, h => by
    unfold sumTo
    by_cases e : i0 = n
    · subst e
      rw [sumTo_congr (f := f) (g := g) fun i hi => h i (by omega) (by omega)]; omega
    · have := sumTo_upd (f := f) (g := g) (n := n) (by omega) fun i hi => h i (by omega)
      rw [this, h n (by omega) (by omega)]; omega
theorem sumTo_ext {f : Nat → Int} {n : Nat} (h : ∀ i, n ≤ i → f i = 0) : ∀ m, sumTo (n + m) f = sumTo n f
  | 0 => rfl
  | m + 1 => by
    show sumTo (n + m) f + f (n + m) = _
    rw [sumTo_ext h m, h _ (by omega)]; omega
def loadJ (x : Instance) (j i : Nat) : Int := match x.orders[i]? with | some o => o.load.getD j 0 | none => 0
def stB (l : List Visit) (i : Int) (b : Bool) (k : Nat) : Bool := (l.take k).foldl (fun s v => if (v.order != i) = true then s else !v.drop) b
theorem stB_succ {l : List Visit} {i : Int} {b : Bool} {k : Nat} {v : Visit} (h : l[k]? = some v) : stB l i b (k + 1) = if (v.order != i) = true then stB l i b k else !v.drop := by
  unfold stB; rw [take_succ h, List.foldl_append]; rfl
theorem stB_spec (l : List Visit) (i : Int) (b : Bool) : ∀ k, k ≤ l.length → ((∀ u ∈ l.take k, u.order ≠ i) ∧ stB l i b k = b) ∨ ∃ m u, m < k ∧ l[m]? = some u ∧ u.order = i ∧ stB l i b k = !u.drop
  | 0, _ => .inl ⟨by simp, rfl⟩
  | k + 1, hk => by
    obtain ⟨v, hv⟩ := getIn (show k < l.length by omega)
    rw [stB_succ hv]
    by_cases h : v.order = i
    · right
      rw [if_neg (by simp [h])]
      exact ⟨k, v, by omega, hv, h, rfl⟩
    · rw [if_pos (by simp [h])]
      rcases stB_spec l i b k (by omega) with ⟨h1, h2⟩ | ⟨m, u, h1, h2, h3, h4⟩
      · left
        refine ⟨fun u hu => ?_, h2⟩
        rw [take_succ hv] at hu
        rcases List.mem_append.1 hu with hu | hu
        · exact h1 u hu
        · simp at hu; subst hu; exact h
      · right; exact ⟨m, u, by omega, h2, h3, h4⟩
theorem onTo_eq (l : List Visit) (i : Int) (n : Nat) (b : Bool) : ∀ m, m ≤ l.length → onTo l i n b m = (stB l i b (min n m), hasO (l.take m) i)
  | 0, _ => by rw [Nat.min_zero]; rfl
  | m + 1, hm => by
    obtain ⟨v, hv⟩ := getIn (show m < l.length by omega)
    rw [onTo_succ hv, onTo_eq l i n b m (by omega)]
    have e : hasO (l.take (m + 1)) i = (hasO (l.take m) i || v.order == i) := by unfold hasO; rw [take_succ hv, List.any_append]; simp
    rw [e]
    unfold onS
    by_cases h : v.order = i
    · rw [if_neg (by simp [h])]
      by_cases hn : m < n
      · rw [if_pos (by simp; omega), show min n (m + 1) = m + 1 by omega, stB_succ hv, if_neg (by simp [h])]
        simp [h]
      · rw [if_neg (by simp; omega), show min n (m + 1) = min n m by omega]
        simp [h]
    · rw [if_pos (by simp [h])]
      have : (v.order == i) = false := by simpa using h
      rw [this, Bool.or_false]
      by_cases hn : m < n
      · rw [show min n (m + 1) = m + 1 by omega, stB_succ hv, if_pos (by simp [h]), show min n m = m by omega]
      · rw [show min n (m + 1) = min n m by omega]
theorem onB_eq (l : List Visit) (k i : Nat) (o : Order) (hk : k ≤ l.length) : onB l k i o = (stB l i (decide (o.pick.place < 0)) k && hasO l i) := by
  unfold onB
  have : onAt l i k (decide (o.pick.place < 0)) = onTo l i k (decide (o.pick.place < 0)) l.length := rfl
  rw [this, onTo_eq l i k _ _ (Nat.le_refl _), List.take_length, show min k l.length = k by omega]
def onK (x : Instance) (l : List Visit) (k i : Nat) : Bool := match x.orders[i]? with | some o => stB l i (decide (o.pick.place < 0)) k && hasO l i | none => false
def termK (x : Instance) (l : List Visit) (k j i : Nat) : Int := if onK x l k i = true then loadJ x j i else 0
theorem sumAt_snoc (ll : List (List Int)) (a : List Int) (j : Nat) : sumAt (ll ++ [a]) j = W (sumAt ll j + a.getD j 0) := by unfold sumAt; rw [List.foldl_append]; rfl
theorem board_sum (x : Instance) (l : List Visit) (k j : Nat) (hk : k ≤ l.length) : ∀ n, n ≤ x.orders.length → sumAt (boardTo x.orders l k n) j = W (sumTo n (termK x l k j))
  | 0, _ => rfl
  | n + 1, hn => by
    obtain ⟨o, ho⟩ := getIn (show n < x.orders.length by omega)
    have ih := board_sum x l k j hk n (by omega)
    rw [boardTo_succ ho]
    show _ = W (sumTo n (termK x l k j) + termK x l k j n)
    have e : onK x l k n = onB l k n o := by unfold onK; rw [ho, onB_eq l k n o hk]
    unfold termK
    rw [e]
    by_cases h : onB l k n o = true
    · rw [if_pos h, if_pos h, sumAt_snoc, ih, W_add]
      unfold loadJ
      rw [ho]; rfl
    · rw [if_neg h, if_neg h, List.append_nil, ih, Int.add_zero]; rfl

theorem zip_getD {f : Int → Int → Int} {a b : List Int} {j : Nat} (ha : j < a.length) (hb : j < b.length) : (List.zipWith f a b).getD j 0 = f (a.getD j 0) (b.getD j 0) := by
  simp [List.getD, List.getElem?_zipWith, List.getElem?_eq_getElem ha, List.getElem?_eq_getElem hb]
def pkN (x : Instance) (i : Nat) : Bool := match x.orders[i]? with | some o => decide (o.pick.place < 0) | none => false
theorem start_sum {x : Instance} {d : Nat} (hd : ∀ o ∈ x.orders, o.load.length = d) {s : Int} {j : Nat} (hj : j < d) : ∀ m, 
    ((memU s m).foldl (startS x) (List.replicate d 0)).getD j 0 = W (sumTo m fun i => if (hasR s i && pkN x i) = true then loadJ x j i else 0)
  | 0 => by simp [memU, sumTo, List.getD, hj]; rfl
  | m + 1 => by
    have ih := start_sum hd (s := s) hj m
    have hlen := startP_len hd (memU s m)
    rw [memU_succ, List.foldl_append]
    generalize hA : (memU s m).foldl (startS x) (List.replicate d 0) = A at ih hlen ⊢
    show _ = W (sumTo m _ + if (hasR s (m : Int) && pkN x m) = true then loadJ x j m else 0)
    cases hs : hasR s (m : Int) with
    | false =>
      rw [Bool.false_and, if_neg (by simp), if_neg (by simp), Int.add_zero]; exact ih
    | true =>
      rw [if_pos rfl]
      simp only [List.foldl_cons, List.foldl_nil]
      unfold startS
      rw [Int.toNat_natCast]
      cases ho : x.orders[m]? with
      | none =>
        have hp : pkN x m = false := by unfold pkN; rw [ho]
        rw [hp, Bool.and_false, if_neg (by simp), Int.add_zero]; exact ih
      | some o =>
        have hp : pkN x m = decide (o.pick.place < 0) := by unfold pkN; rw [ho]
        rw [hp, Bool.true_and]
        show (if decide (o.pick.place < 0) = true then addP A o.load else A).getD j 0 = _
        by_cases hp : decide (o.pick.place < 0) = true
        · rw [if_pos hp, if_pos hp]
          unfold addP
          rw [zip_getD (by omega) (by rw [hd o (List.mem_of_getElem? ho)]; exact hj), ih]
          unfold plusI loadJ
          rw [W_add, ho]
        · rw [if_neg hp, if_neg hp, Int.add_zero]; exact ih
theorem hasO_get {l : List Visit} {k : Nat} {v : Visit} (h : l[k]? = some v) : hasO l v.order = true := List.any_eq_true.2 ⟨v, List.mem_of_getElem? h, by simp⟩
theorem check_parts {x : Instance} {l : List Visit} (h : check16 x l = 0) : (List.range l.length).any (dupAt l) = false ∧ paired16 x l = true := by
  unfold check16 at h
  repeat' split at h
  all_goals first | (exfalso; omega) | skip
  rename_i h1 h2 h3 h4 h5 h6 h7
  exact ⟨by simpa using h4, by simpa using h5⟩
theorem dup_idx {x : Instance} {l : List Visit} (h : check16 x l = 0) {k : Nat} {v : Visit} (hv : l[k]? = some v) : index16 l v = k := by
  have hk : k < l.length := (List.getElem?_eq_some_iff.1 hv).1
  have := List.any_eq_false.1 (check_parts h).1 k (List.mem_range.2 hk)
  unfold dupAt at this
  rw [show l.getD k ⟨0, false⟩ = v by simp [List.getD, hv]] at this
  simpa using this
/-- before a visit its order is on board exactly if the visit drops it -/
theorem Acc.board {x : Instance} (h : Acc x) {l : List Visit} (hc : check16 x l = 0) {k : Nat} {v : Visit} {o : Order} (hv : l[k]? = some v) (ho : x.orders[v.order.toNat]? = some o) : stB l v.order (decide (o.pick.place < 0)) k = v.drop := by
  have hk : k < l.length := (List.getElem?_eq_some_iff.1 hv).1
  have hO := h.order o (List.mem_of_getElem? ho)
  have hp := List.all_eq_true.1 (check_parts hc).2 v (List.mem_of_getElem? hv)
  have hvs : visAt x v.order = visits16 o v.order := by unfold visAt; rw [ho]
  rw [hvs] at hp
  simp only [badPair, Bool.not_eq_true', Bool.or_eq_false_iff, decide_eq_false_iff_not] at hp
  obtain ⟨⟨hp1, hp2⟩, hp3⟩ := hp
  have hmem : v ∈ visits16 o v.order := by
    unfold index16 at hp1
    rcases idx_spec (sameV v) (visits16 o v.order) with ⟨_, e⟩ | ⟨m, y, hm, hy, _, e⟩
    · omega
    · have := List.mem_of_getElem? hm
      rwa [sameV_iff.1 hy] at this
  have hcon : ∀ w ∈ visits16 o v.order, 0 ≤ index16 l w := fun w hw => by
    have := List.all_eq_true.1 (show contains16 l (visits16 o v.order) = true by simpa using hp2) w hw
    have := idx_ge l w
    have h0 : ¬ index16 l w < 0 := by simpa using ‹(!decide (index16 l w < 0)) = true›
    omega
  rcases stB_spec l v.order (decide (o.pick.place < 0)) k (by omega) with ⟨hn, he⟩ | ⟨m, u, hm, hu, huo, he⟩
  · rw [he]
    cases hd : v.drop with
    | false =>
      have : o.pick.place ≠ -1 := by
        intro e
        unfold visits16 at hmem
        rw [e] at hmem
        rcases List.mem_append.1 hmem with hm | hm
        · simp at hm
        · split at hm
          · have : v = ⟨v.order, true⟩ := by simpa using hm
            rw [this] at hd; cases hd
          · cases hm
      have := hO.pick
      simp; omega
    | true =>
      refine decide_eq_true (Decidable.byContradiction fun hpl => ?_)
      have h1 : (o.pick.place != -1) = true := by simp; omega
      have h2 : (o.drop.place != -1) = true := by
        unfold visits16 at hmem
        rcases List.mem_append.1 hmem with hm | hm
        · rw [if_pos h1] at hm
          have : v = ⟨v.order, false⟩ := by simpa using hm
          rw [this] at hd; cases hd
        · split at hm
          · assumption
          · cases hm
      have e : visits16 o v.order = [⟨v.order, false⟩, ⟨v.order, true⟩] := by unfold visits16; rw [if_pos h1, if_pos h2]; rfl
      have ev : (⟨v.order, true⟩ : Visit) = v := by cases v; simp_all
      rw [e] at hp3 hcon
      have hi := hcon ⟨v.order, false⟩ (by simp)
      have hp3 : ¬ index16 l ⟨v.order, false⟩ > index16 l ⟨v.order, true⟩ := by simpa using hp3
      rw [ev, dup_idx hc hv] at hp3
      unfold index16 at hi hp3
      rcases idx_spec (sameV ⟨v.order, false⟩) l with ⟨_, e⟩ | ⟨m, y, hm, hy, _, e⟩
      · omega
      · have hy := sameV_iff.1 hy
        subst hy
        have hmk : m ≠ k := by
          rintro rfl
          rw [hv] at hm
          injection hm with hm
          rw [hm] at hd; cases hd
        exact hn ⟨v.order, false⟩ (List.mem_take_iff_getElem.2 ⟨m, by have := (List.getElem?_eq_some_iff.1 hm).1; omega, (List.getElem?_eq_some_iff.1 hm).2⟩) rfl
  · rw [he]
    have : u ≠ v := by
      rintro rfl
      have h1 := dup_idx hc hu
      have h2 := dup_idx hc hv
      omega
    cases hd : v.drop <;> cases hd2 : u.drop <;> first | rfl | (exfalso; apply this; cases u; cases v; simp_all)
theorem now_sum {x : Instance} (h : Acc x) {l : List Visit} (hc : check16 x l = 0) {j : Nat} (hj : j < (dims17 x).toNat) : ∀ k, k ≤ l.length → (nowP x l k).getD j 0 = W (sumTo x.orders.length (termK x l k j))
  | 0, _ => by
    have hin := check_in hc
    have hbad : ∀ v ∈ l, badO v = false := fun v hv => by
      have := hin v hv
      have := h.orders
      simp only [badO, Bool.or_eq_false_iff, decide_eq_false_iff_not]; omega
    have hs := start_sum h.loadB.load (s := (orders16 l).1) hj 63
    have e0 : nowP x l 0 = (memU (orders16 l).1 63).foldl (startS x) (List.replicate (dims17 x).toNat 0) := rfl
    rw [e0, hs]
    have hN := h.orders
    rw [show 63 = x.orders.length + (63 - x.orders.length) by omega, sumTo_ext (n := x.orders.length) (fun i hi => by
      have : pkN x i = false := by unfold pkN; rw [List.getElem?_eq_none hi]
      show (if (hasR _ _ && pkN x i) = true then _ else _) = _
      rw [this, Bool.and_false, if_neg (by simp)])]
    congr 1
    refine sumTo_congr fun i hi => ?_
    obtain ⟨o, ho⟩ := getIn hi
    unfold termK onK pkN
    rw [ho, has_orders hbad (by omega) (by omega)]
    show (if (hasO l i && decide (o.pick.place < 0)) = true then _ else _) = if (decide (o.pick.place < 0) && hasO l i) = true then _ else _
    rw [Bool.and_comm]
  | k + 1, hk => by
    obtain ⟨v, hv⟩ := getIn (show k < l.length by omega)
    have hin := check_in hc v (List.mem_of_getElem? hv)
    obtain ⟨o, ho⟩ := getIn (show v.order.toNat < x.orders.length by omega)
    have ih := now_sum h hc hj k (by omega)
    have hlen := nowP_len h.loadB l k
    have hol := h.loadB.load o (List.mem_of_getElem? ho)
    have hb := h.board hc hv ho
    have hh := hasO_get hv
    have hn : ((v.order.toNat : Nat) : Int) = v.order := by omega
    have t0 : termK x l k j v.order.toNat = if v.drop = true then o.load.getD j 0 else 0 := by
      unfold termK onK loadJ
      rw [ho, hn, hh]
      show (if (stB l v.order (decide (o.pick.place < 0)) k && true) = true then o.load.getD j 0 else 0) = _
      rw [hb, Bool.and_true]
    have t1 : termK x l (k + 1) j v.order.toNat = if v.drop = true then 0 else o.load.getD j 0 := by
      unfold termK onK loadJ
      rw [ho, hn, hh]
      show (if (stB l v.order (decide (o.pick.place < 0)) (k + 1) && true) = true then o.load.getD j 0 else 0) = _
      rw [show stB l v.order (decide (o.pick.place < 0)) (k + 1) = !v.drop by rw [stB_succ hv, if_neg (by simp)], Bool.and_true]
      cases v.drop <;> rfl
    have ht : ∀ i, i < x.orders.length → i ≠ v.order.toNat → termK x l k j i = termK x l (k + 1) j i := fun i hi hne => by
      obtain ⟨o', ho'⟩ := getIn hi
      unfold termK onK
      rw [ho']
      show (if (stB l i (decide (o'.pick.place < 0)) k && hasO l i) = true then _ else _) = if (stB l i (decide (o'.pick.place < 0)) (k + 1) && hasO l i) = true then _ else _
      rw [show stB l i (decide (o'.pick.place < 0)) (k + 1) = stB l i (decide (o'.pick.place < 0)) k by rw [stB_succ hv, if_pos (by simp; omega)]]
    rw [sumTo_upd (f := termK x l k j) (g := termK x l (k + 1) j) (i0 := v.order.toNat) (by omega) ht, nowP_succ hv, t0, t1]
    unfold chgP
    rw [ho]
    show (if v.drop = true then subP (nowP x l k) o.load else addP (nowP x l k) o.load).getD j 0 = _
    cases hd : v.drop with
    | true =>
      rw [if_pos rfl, if_pos rfl, if_pos rfl]
      unfold subP
      rw [zip_getD (by omega) (by omega), ih]
      unfold minusI
      rw [W_sub]; congr 1; omega
    | false =>
      rw [if_neg (by simp), if_neg (by simp), if_neg (by simp)]
      unfold addP
      rw [zip_getD (by omega) (by omega), ih]
      unfold plusI
      rw [W_add]; congr 1; omega
theorem even_ok {x : Instance} (h : Acc x) (l : List Visit) (n : Int) : even06 (boardTo x.orders l n x.orders.length) (dims17 x) = true := by
  have hd := h.dims
  unfold even06
  rw [show decide (dims17 x < 0) = false by simp; omega, show decide (dims17 x > 3) = false by simp; omega]
  simp only [Bool.or_self, Bool.not_false, Bool.true_and]
  rw [List.all_eq_true]
  intro a ha
  unfold boardTo at ha
  obtain ⟨i, _, hi⟩ := List.mem_flatMap.1 ha
  cases ho : x.orders[i]? with
  | none => rw [ho] at hi; cases hi
  | some o =>
    rw [ho] at hi
    have := h.loadB.load o (List.mem_of_getElem? ho)
    dsimp only at hi
    split at hi
    · have : a = o.load := by simpa using hi
      subst this
      simp; omega
    · cases hi
theorem list_ext {a b : List Int} (h1 : a.length = b.length) (h : ∀ j, j < a.length → a.getD j 0 = b.getD j 0) : a = b := by
  refine List.ext_getElem h1 fun j ha hb => ?_
  have := h j ha
  simpa [List.getD, List.getElem?_eq_getElem ha, List.getElem?_eq_getElem hb] using this
theorem now_after {x : Instance} (h : Acc x) {l : List Visit} (hc : check16 x l = 0) {k : Nat} (hk : k ≤ l.length) : after17 x l k = (nowP x l k, 0) := by
  unfold after17 sum06
  rw [if_pos (even_ok h l k)]
  congr 1
  have hl := nowP_len h.loadB l k
  refine list_ext (by simp [hl]) fun j hj => ?_
  have hj : j < (dims17 x).toNat := by simpa using hj
  rw [now_sum h hc hj k hk, ← board_sum x l k j hk _ (Nat.le_refl _)]
  simp [List.getD, hj]
theorem Acc.loads {x : Instance} (h : Acc x) (l : List Visit) : cLoads x l = loads17 x l := by
  unfold cLoads loads17
  rw [h.seq l]
  by_cases hc : (check16 x l != 0) = true
  · rw [if_pos hc, if_pos hc]
  rw [if_neg hc, if_neg hc]
  have hc : check16 x l = 0 := by simpa using hc
  have he : firstE (aftE x l) = 0 := firstE_none fun e he => by
    unfold aftE at he
    obtain ⟨n, hn, rfl⟩ := List.mem_map.1 he
    rw [now_after h hc (by have := List.mem_range.1 hn; omega)]; rfl
  rw [if_neg (by rw [he]; simp)]
  congr 1
  unfold loadsP aftL
  exact List.map_congr_left fun n hn => by rw [now_after h hc (by have := List.mem_range.1 hn; omega)]
theorem Acc.fits {x : Instance} (h : Acc x) (r : Route) : cFits x r = fits17 x r := by
  unfold cFits fits17
  rw [h.loads]
/-- both evaluations answer alike -/
theorem Acc.ev {x : Instance} (h : Acc x) (r : Route) : (evalP x r).2.2 = (eval21 x r).2.2 := by
  unfold evalP eval21
  by_cases hb : badNo r.type x.types.length = true
  · rw [if_pos hb, if_pos hb]
  rw [if_neg hb, if_neg hb]
  have hty : ∃ t, x.types[r.type.toNat]? = some t := by
    simp only [badNo, Bool.not_eq_true, Bool.or_eq_false_iff, decide_eq_false_iff_not] at hb
    exact getIn (by omega)
  obtain ⟨t, ht⟩ := hty
  rw [ht]
  show _ = (evalT x r t).2.2
  unfold evalT
  rw [h.seq]
  by_cases hc : (check16 x r.visits != 0) = true
  · rw [if_pos hc, if_pos hc]
  rw [if_neg hc, if_neg hc]
  have hc' : check16 x r.visits = 0 := by simpa using hc
  have hT := h.type t (List.mem_of_getElem? ht)
  have es : (r.visits.any fun v => !skillP x r v) = r.visits.any fun v => !skillAt x t v := any_congr fun v hv => by
    have hin := check_in hc' v hv
    obtain ⟨o, ho⟩ := getIn (show v.order.toNat < x.orders.length by omega)
    unfold skillP skillAt
    rw [ht, ho]
    exact congrArg _ (able_same hT.skills (h.order o (List.mem_of_getElem? ho)).skills)
  unfold ableR
  rw [es, h.fits, h.best]
  by_cases h1 : (r.visits.any fun v => !skillAt x t v) = true
  · rw [if_pos h1, if_pos (by simp), if_pos h1]
  rw [if_neg h1, if_neg (by simp), if_neg h1]
  by_cases h2 : (fits17 x r != 0) = true
  · rw [if_pos h2, if_pos h2]
  rw [if_neg h2, if_neg h2]
  by_cases h3 : ((best18 x r).2 != 0) = true
  · rw [if_pos h3, if_pos h3]
  rw [if_neg h3, if_neg h3]

theorem Acc.evs {x : Instance} (h : Acc x) : evR x = evE x := funext fun r => h.ev r
theorem errF_nil {w : ByteArray} {i : Nat} {e : Int} : errF w i e = [] ↔ e = 0 := by
  unfold errF
  by_cases h : (e != 0) = true
  · rw [if_pos h]; simp at h; simp [h]
  · rw [if_neg h]; simp at h; simp [h]
theorem firstE_zero {l : List Int} : firstE l = 0 ↔ ∀ e ∈ l, e = 0 := by
  induction l with
  | nil => simp [firstE]
  | cons a r ih =>
    simp only [firstE]
    by_cases h : (a != 0) = true
    · rw [if_pos h]
      have h' : a ≠ 0 := by simpa using h
      exact ⟨fun e => absurd e h', fun e => absurd (e a (by simp)) h'⟩
    · rw [if_neg h, ih]
      have h' : a = 0 := by simpa using h
      constructor
      · intro e b hb
        rcases List.mem_cons.1 hb with rfl | hb
        · exact h'
        · exact e b hb
      · intro e b hb; exact e b (by simp [hb])
theorem routes_nil {ev : Route → Int} {l : List Route} : routesF ev l l.length = [] ↔ ∀ r ∈ l, ev r = 0 := by
  unfold routesF
  rw [List.flatMap_eq_nil_iff]
  constructor
  · intro h r hr
    obtain ⟨i, hi, rfl⟩ := List.getElem_of_mem hr
    have := h i (List.mem_range.2 hi)
    rw [List.getElem?_eq_getElem hi] at this
    exact errF_nil.1 this
  · intro h i hi
    have hi := List.mem_range.1 hi
    rw [List.getElem?_eq_getElem hi]
    exact errF_nil.2 (h _ (List.getElem_mem hi))
theorem unserved_nil {x : Instance} {p : Plan} : unservedF x p p.unserved.length = [] ↔ (p.unserved.any fun u => badNo u x.orders.length) = false := by
  unfold unservedF
  rw [List.flatMap_eq_nil_iff, List.any_eq_false]
  constructor
  · intro h u hu
    obtain ⟨i, hi, rfl⟩ := List.getElem_of_mem hu
    have := h i (List.mem_range.2 hi)
    rw [List.getElem?_eq_getElem hi] at this
    have := errF_nil.1 this
    intro hb
    rw [if_pos hb] at this; cases this
  · intro h i hi
    have hi := List.mem_range.1 hi
    rw [List.getElem?_eq_getElem hi]
    exact errF_nil.2 (if_neg (h _ (List.getElem_mem hi)))
theorem types_nil {x : Instance} {p : Plan} : typesF x p x.types.length = [] ↔ (List.range x.types.length).any (over23 x p) = false := by
  unfold typesF
  rw [List.flatMap_eq_nil_iff, List.any_eq_false]
  refine forall_congr' fun i => forall_congr' fun hi => ?_
  have hi := List.mem_range.1 hi
  unfold over23
  rw [List.getElem?_eq_getElem hi]
  show errF _ _ _ = [] ↔ ¬ decide _ = true
  rw [errF_nil, decide_eq_true_eq]
  split <;> simp [*]
theorem opt_iff {α : Type} {b : Bool} {e : α} : opt b e = [] ↔ b = false := by
  cases b <;> simp [opt]
theorem ordE_nil {o : Order} {a b : Nat} : ordE o a b = [] ↔ (if o.off = true then a + b = 0 else a + b = 1 ∧ ¬ (o.penalty = -1 ∧ b > 0)) := by
  unfold ordE
  by_cases h : o.off = true
  · rw [if_pos h, if_pos h, opt_iff]
    simp; omega
  · rw [if_neg h, if_neg h, List.append_eq_nil_iff, List.append_eq_nil_iff, opt_iff, opt_iff, opt_iff]
    simp only [decide_eq_false_iff_not, beq_eq_false_iff_ne, ne_eq, Bool.and_eq_false_iff]
    constructor
    · rintro ⟨⟨h1, h2⟩, h3⟩
      refine ⟨by omega, fun ⟨h4, h5⟩ => ?_⟩
      rcases h3 with (h3 | h3) | h3
      · exact h3 h4
      · omega
      · omega
    · rintro ⟨h1, h2⟩
      refine ⟨⟨by omega, by omega⟩, ?_⟩
      by_cases h4 : o.penalty = -1
      · have : b = 0 := by
          refine Decidable.byContradiction fun hb => h2 ⟨h4, by omega⟩
        left; right; omega
      · left; left; exact h4
theorem orders_nil {x : Instance} {p : Plan} : ordersF x p x.orders.length = [] ↔ ∀ (i : Nat) (o : Order), x.orders[i]? = some o → ordE o (aOn p i) (onU p i) = [] := by
  unfold ordersF orderF
  rw [List.flatMap_eq_nil_iff]
  constructor
  · intro h i o ho
    have := h i (List.mem_range.2 (List.getElem?_eq_some_iff.1 ho).1)
    rw [ho] at this
    have hz := List.flatMap_eq_nil_iff.1 this
    refine List.eq_nil_iff_forall_not_mem.2 fun e he => ?_
    have h1 := errF_nil.1 (hz e he)
    have h2 := ordE_ne o _ _ e he
    rw [h1] at h2; cases h2
  · intro h i hi
    have hi := List.mem_range.1 hi
    rw [List.getElem?_eq_getElem hi]
    show (ordE _ _ _).flatMap _ = []
    rw [h i _ (List.getElem?_eq_getElem hi)]; rfl
theorem cnt_congr {α : Type} {p q : α → Bool} {l : List α} (h : ∀ a ∈ l, p a = q a) : cntB p l = cntB q l := by
  unfold cntB
  exact List.countP_congr fun a ha => by rw [h a ha]
theorem cnt_zero {α : Type} {p : α → Bool} {l : List α} : cntB p l = 0 ↔ ∀ a ∈ l, p a = false := by
  unfold cntB
  rw [List.countP_eq_zero]
  simp
theorem eval_check {x : Instance} {r : Route} (h : (eval21 x r).2.2 = 0) : check16 x r.visits = 0 := by
  unfold eval21 at h
  split at h
  · cases h
  · split at h
    · unfold evalT at h
      split at h
      · exact h
      · rename_i hc; simpa using hc
    · cases h
theorem on_same {x : Instance} (hx : Acc x) {p : Plan} (h : ∀ r ∈ p.routes, evE x r = 0) {i : Nat} (hi : i < x.orders.length) : aOn p i = onA p i := by
  refine cnt_congr fun r hr => ?_
  have hc := eval_check (h r hr)
  have hin := check_in hc
  have hN := hx.orders
  have hbad : ∀ v ∈ r.visits, badO v = false := fun v hv => by
    have := hin v hv
    simp only [badO, Bool.or_eq_false_iff, decide_eq_false_iff_not]; omega
  unfold onRt
  rw [has_orders hbad (by omega) (by omega), (orders_ok hx.loadB hin).1]
  rfl
theorem check_off {x : Instance} {l : List Visit} (h : check16 x l = 0) : (l.any fun v => offAt x v.order) = false := by
  unfold check16 at h
  repeat' split at h
  all_goals first | (exfalso; omega) | skip
  rename_i h1 h2 h3 h4 h5 h6 h7
  simpa using h3
/-- the violations are none exactly if the reference accepts the plan -/
theorem plan_nil {x : Instance} (hx : Acc x) {p : Plan} (h1 : p.routes.length ≤ 1024) (h2 : p.unserved.length ≤ 1024) : planF (evE x) x p = [] ↔ check23 x p = 0 := by
  unfold planF
  rw [if_neg (by simp; omega), List.append_eq_nil_iff, List.append_eq_nil_iff, List.append_eq_nil_iff, routes_nil, unserved_nil, types_nil, orders_nil]
  unfold check23
  have e1 : firstE (p.routes.map fun r => (eval21 x r).2.2) = 0 ↔ ∀ r ∈ p.routes, evE x r = 0 := by
    rw [firstE_zero]; simp [evE]
  by_cases hr : ∀ r ∈ p.routes, evE x r = 0
  case neg =>
    have : ¬ firstE (p.routes.map fun r => (eval21 x r).2.2) = 0 := fun e => hr (e1.1 e)
    rw [if_pos (by simpa using this)]
    exact ⟨fun h => absurd h.1.1.1 hr, fun h => absurd h this⟩
  rw [if_neg (by rw [e1.2 hr]; simp)]
  cases hu : (p.unserved.any fun u => badNo u x.orders.length) with
  | true => rw [if_pos rfl]; simp
  | false =>
  rw [if_neg (by simp)]
  cases ht : (List.range x.types.length).any (over23 x p) with
  | true =>
    rw [if_pos rfl]
    split <;> simp
  | false =>
  have hoff : ∀ (i : Nat) (o : Order), x.orders[i]? = some o → o.off = true → onA p i = 0 := fun i o ho hf => cnt_zero.2 fun r hrm => by
    have := check_off (eval_check (hr r hrm))
    unfold onR
    refine any_no fun v hv => ?_
    have hv2 := List.any_eq_false.1 this v hv
    have hin := check_in (eval_check (hr r hrm)) v hv
    cases hq : v.order == (i : Int) with
    | false => rfl
    | true =>
      have hq : v.order = i := by simpa using hq
      exfalso; apply hv2
      unfold offAt
      rw [hq, Int.toNat_natCast, ho]; exact hf
  constructor
  · rintro ⟨⟨⟨_, h3⟩, _⟩, _⟩
    have hb : ∀ (i : Nat) (o : Order), x.orders[i]? = some o → if o.off = true then onA p i + onU p i = 0 else onA p i + onU p i = 1 ∧ ¬ (o.penalty = -1 ∧ onU p i > 0) := fun i o ho => by
      have := ordE_nil.1 (h3 i o ho)
      rwa [on_same hx hr (List.getElem?_eq_some_iff.1 ho).1] at this
    have a1 : (List.range x.orders.length).any (twice23 p) = false := any_no fun i hi => by
      have hi := List.mem_range.1 hi
      have := hb i _ (List.getElem?_eq_getElem hi)
      unfold twice23
      refine decide_eq_false ?_
      split at this <;> omega
    have a2 : (p.unserved.any fun u => offAt x u) = false := any_no fun u hum => by
      have hub := List.any_eq_false.1 hu u hum
      simp only [badNo, Bool.not_eq_true, Bool.or_eq_false_iff, decide_eq_false_iff_not] at hub
      obtain ⟨o, ho⟩ := getIn (show u.toNat < x.orders.length by omega)
      unfold offAt
      rw [ho]
      cases hf : o.off with
      | false => exact hf
      | true =>
        have := hb u.toNat o ho
        rw [if_pos hf] at this
        have h0 : onU p (u.toNat : Nat) = 0 := by omega
        have := cnt_zero.1 h0 u hum
        simp at this; omega
    have a3 : (List.range x.orders.length).any (miss23 x p) = false := any_no fun i hi => by
      have hi := List.mem_range.1 hi
      have := hb i _ (List.getElem?_eq_getElem hi)
      unfold miss23
      rw [List.getElem?_eq_getElem hi]
      dsimp only
      rw [Bool.or_eq_false_iff]
      split at this
      · rename_i hf
        rw [hf]
        refine ⟨by simp, ?_⟩
        have : onU p i = 0 := by omega
        rw [this]; simp
      · refine ⟨?_, ?_⟩
        · have : onA p i + onU p i = 1 := this.1
          rw [this]; rfl
        · rw [Bool.and_eq_false_iff]
          by_cases hp : onU p i > 0
          · right; have := fun e => this.2 ⟨e, hp⟩; simpa using this
          · left; simp; omega
    rw [a1, a2, a3]; simp
  · intro h
    refine ⟨⟨⟨hr, fun i o ho => ?_⟩, rfl⟩, rfl⟩
    have hi := (List.getElem?_eq_some_iff.1 ho).1
    split at h
    · cases h
    rename_i a1
    rw [if_neg (by simp)] at h
    split at h
    · cases h
    rename_i a2
    split at h
    · cases h
    rename_i a3
    have b1 := List.any_eq_false.1 (Bool.eq_false_iff.2 a1) i (List.mem_range.2 hi)
    have b3 := List.any_eq_false.1 (Bool.eq_false_iff.2 a3) i (List.mem_range.2 hi)
    unfold twice23 at b1
    unfold miss23 at b3
    rw [ho] at b3
    simp only [Bool.or_eq_true, Bool.and_eq_true, beq_iff_eq, decide_eq_true_eq, Bool.not_eq_true'] at b1 b3
    rw [ordE_nil, on_same hx hr hi]
    split
    · rename_i hf
      have z := hoff i o ho hf
      have : onU p i = 0 := cnt_zero.2 fun u hum => by
        cases hq : u == (i : Int) with
        | false => rfl
        | true =>
          have hq : u = i := by simpa using hq
          have := List.any_eq_false.1 (Bool.eq_false_iff.2 a2) u hum
          exfalso; apply this
          unfold offAt
          rw [hq, Int.toNat_natCast, ho]; exact hf
      omega
    · rename_i hf
      have hf : o.off = false := by simpa using hf
      refine ⟨?_, fun hq => b3 (.inr ⟨by omega, hq.1⟩)⟩
      have : ¬ ((onA p i + onU p i : Nat) : Int) = 0 := fun e => b3 (.inl ⟨e, hf⟩)
      omega
end Go.Proofs.YtbefdpmjpioijaaGreatDoor.Sq
