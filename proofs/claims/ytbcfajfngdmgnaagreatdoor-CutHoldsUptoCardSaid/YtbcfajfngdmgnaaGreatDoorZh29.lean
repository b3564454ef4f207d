/- Texts joined by a program: SqR. -/
import Derived.Test.YtbcfajfngdmgnaaGreatDoorZh28

set_option linter.unusedSimpArgs false
set_option linter.unusedVariables false
namespace Go.Proofs.YtbcfajfngdmgnaaGreatDoor.Sq
open Go.Aw Go.Aw.D Go.Proofs Ty
open Mv (convI convB convA NC.pc take_allP)
set_option maxRecDepth 100000
theorem encScore_len (s : Score) : (encScore s).length = 4 := (rfl)
theorem encScore_0 (s : Score) : (encScore s).getD 0 .any = int s.cost := (rfl)
theorem encScore_1 (s : Score) : (encScore s).getD 1 .any = int s.moved := (rfl)
theorem encScore_2 (s : Score) : (encScore s).getD 2 .any = int s.other := (rfl)
theorem encScore_3 (s : Score) : (encScore s).getD 3 .any = int s.work := (rfl)
theorem encScore_all (s : Score) : (encScore s).take 4 = encScore s := (rfl)
attribute [go_sem] encSheet_len encSt8_len encScore_len encScore_0 encScore_1 encScore_2 encScore_3 encScore_all
abbrev scRow (s : Score) : Row := ⟨99, 4, [encScore s]⟩
def movedB (o : Order) (t : Int) : Bool := o.now != -1 && o.now != t
def otherB (o : Order) (t : Int) : Bool := o.last != -1 && o.last != t
def moveS (o : Order) (t : Int) (a : Score) : Score := if movedB o t = true then ⟨a.cost, W (a.moved + 1), a.other, a.work⟩ else a
def otherS (o : Order) (t : Int) (a : Score) : Score := if otherB o t = true then ⟨a.cost, a.moved, W (a.other + 1), a.work⟩ else a
def routeStep (x : Instance) (r : Route) (a : Score) (i : Nat) : Score :=
  if (badNo (ordAt r.visits i) x.orders.length || !begins20 r.visits i) = true then a
  else match x.orders[(ordAt r.visits i).toNat]? with
  | some o => otherS o r.type (moveS o r.type a)
  | none => a
def route0 (t : VType) (s : Sheet) : Score :=
  ⟨W (W (t.fixed + W (t.perMile * s.miles)) + W (t.perTick * W (s.end_ - t.start))), 0, 0,
    W (W (Int.tdiv (W (s.end_ - t.start)) 64) * W (Int.tdiv (W (s.end_ - t.start)) 64))⟩
def routeT (x : Instance) (r : Route) (s : Sheet) (t : VType) : Score := (List.range r.visits.length).foldl (routeStep x r) (route0 t s)
def route20 (x : Instance) (r : Route) (s : Sheet) : Score :=
  if badNo r.type x.types.length = true then zeroScore else match x.types[r.type.toNat]? with
  | some t => routeT x r s t
  | none => zeroScore
theorem route20_c (x : Instance) (r : Route) (s : Sheet) (hr : r.visits.length ≤ 1048576) : PC Tryz.prog 224 [.agg (encInstance x), .agg (encRoute r), .agg (encSheet s)] (.agg (encScore (route20 x r s))) := by
  refine PC.body (c := Tryz.f224.body.getD .skip) (fun _ => false) mixed Tryz.func224 rfl (by kernel_rfl) ?_
  unfold Tryz.f224
  simp only [Option.getD_some]
  simp only [go_sem]
  refine anew_i fun j6 hj => ?_
  have R6 := updH_same noRows j6 (some (⟨99, 4, [[int 0, int 0, int 0, int 0]]⟩ : Row))
  generalize updH noRows j6 _ = H0 at R6 ⊢
  clear hj
  simp only [go_sem]
  refine acond_i (fun h1 => ?_) (fun h1 => ?_)
  · simp only [go_sem]
    refine wputE_n R6 (by simp) ?_
    simp only [go_sem]
    rw [show route20 x r s = zeroScore from if_pos h1]
    exact .refl _
  have hin : 0 ≤ r.type ∧ r.type < (x.types.length : Int) := by
    simp only [Bool.or_eq_false_iff, decide_eq_false_iff_not] at h1; omega
  obtain ⟨t, ht⟩ := getIn (show r.type.toNat < x.types.length by omega)
  rw [show route20 x r s = routeT x r s t by unfold route20; rw [if_neg (by rw [show badNo r.type x.types.length = false from h1]; simp), ht]]
  simp only [go_sem, getD_map ht, hin]
  refine anew_i fun j7 hj => ?_
  simp only [go_sem]
  refine wputE_n (updH_same _ _ _) (by simp [encVType_len]) ?_
  generalize hG : updH (updH H0 j7 _) j7 _ = H1
  have R7 : H1 j7 = some (typeRow t) := by rw [← hG, updH_same]; rfl
  have R6 : H1 j6 = some (⟨99, 4, [[int 0, int 0, int 0, int 0]]⟩ : Row) := by rw [← hG]; exact keepN R6 hj
  clear hG hj
  simp only [go_sem, R7]
  refine ⟨by decide, by decide, ?_⟩
  refine anew_i fun j9 hj => ?_
  simp only [go_sem]
  refine wputE_n (updH_same _ _ _) (by simp) ?_
  have n69 := ne_new R6 hj
  generalize hG : updH (updH H1 j9 _) j9 _ = H2
  have R9 : H2 j9 = some (scRow (route0 t s)) := by rw [← hG, updH_same]; rfl
  have R6 : H2 j6 = some (⟨99, 4, [[int 0, int 0, int 0, int 0]]⟩ : Row) := by rw [← hG]; exact keepN R6 hj
  clear hG hj R7
  simp only [go_sem]
  refine ⟨fun ρ H => ∃ k : Nat, k ≤ r.visits.length ∧ ρ 3 = .rp (encInstance x) 0 ∧ ρ 4 = .rp (encRoute r) 0 ∧ ρ 6 = .op j6 0 0 ∧ ρ 9 = .op j9 0 0 ∧ ρ 10 = int k ∧ H j6 = some (⟨99, 4, [[int 0, int 0, int 0, int 0]]⟩ : Row) ∧
      H j9 = some (scRow (((List.range r.visits.length).take k).foldl (routeStep x r) (route0 t s))), fun ρ _ => r.visits.length - natOf (ρ 10), ⟨0, Nat.zero_le _, rfl, rfl, rfl, rfl, rfl, R6, R9⟩, ?_⟩
  clear R6 R9
  rintro ρ H ⟨k, hk, h3, h4, h6, h9, h10, R6, R9⟩
  simp only [go_sem, h4, h10]
  refine acond_i (fun hlt => ?_) (fun hge => ?_)
  · have hlt := le_of_lt_b hlt
    obtain ⟨v, hv⟩ := getIn hlt
    have b1 := inB hlt
    have hs : ((List.range r.visits.length).take (k + 1)).foldl (routeStep x r) (route0 t s) = routeStep x r (((List.range r.visits.length).take k).foldl (routeStep x r) (route0 t s)) k := by
      rw [take_succ (range_get hlt), List.foldl_append]; rfl
    generalize hA : ((List.range r.visits.length).take k).foldl (routeStep x r) (route0 t s) = A at R9 hs
    have ev : ordAt r.visits k = v.order := ordAt_get hv
    simp only [go_sem, h3, h4, h10, getD_map hv, b1]
    refine ⟨_, fun _ => (begins20_c r.visits k hr hlt).q rfl, ?_⟩
    simp only [go_sem]
    refine acond_i (fun h2 => ?_) (fun h2 => ?_)
    · have e : routeStep x r A k = A := by unfold routeStep; rw [ev, if_pos (show (badNo v.order x.orders.length || !begins20 r.visits k) = true from h2)]
      simp only [go_sem, h10, wrapS (show k ≤ 4611686018427387904 by omega)]
      exact ⟨⟨k + 1, hlt, h3, h4, h6, h9, rfl, R6, by rw [hs, e]; exact R9⟩, by simp only [natOf_int]; omega⟩
    have hno : badNo v.order x.orders.length = false := (Bool.or_eq_false_iff.1 h2).1
    have hio : 0 ≤ v.order ∧ v.order < (x.orders.length : Int) := by
      have := hno
      simp only [badNo, Bool.or_eq_false_iff, decide_eq_false_iff_not] at this; omega
    obtain ⟨o, ho⟩ := getIn (show v.order.toNat < x.orders.length by omega)
    have e : routeStep x r A k = otherS o r.type (moveS o r.type A) := by
      unfold routeStep
      rw [ev, if_neg (by rw [show (badNo v.order x.orders.length || !begins20 r.visits k) = false from h2]; simp), ho]
    rw [e] at hs
    simp only [go_sem]
    refine adraw_q (by rfl) (by kernel_rfl) ?_
    simp only [go_sem, h3, h4, getD_map ho, hio]
    refine acond_join (fun ρ' H' => ρ' 3 = .rp (encInstance x) 0 ∧ ρ' 4 = .rp (encRoute r) 0 ∧ ρ' 6 = .op j6 0 0 ∧ ρ' 9 = .op j9 0 0 ∧ ρ' 10 = int k ∧ ρ' 11 = int v.order ∧ H' j6 = some (⟨99, 4, [[int 0, int 0, int 0, int 0]]⟩ : Row) ∧ H' j9 = some (scRow (moveS o r.type A))) ?_ fun K hK => acond_i (fun hb => ?_) (fun hb => ?_)
    · clear R6 R9 h3 h4 h6 h9 h10
      rintro ρ H ⟨h3, h4, h6, h9, h10, h11, R6, R9⟩
      simp only [go_sem]
      refine adraw_q (by rfl) (by kernel_rfl) ?_
      simp only [go_sem, h3, h4, h11, getD_map ho, hio]
      refine acond_joinL (fun ρ' H' => ρ' 3 = .rp (encInstance x) 0 ∧ ρ' 4 = .rp (encRoute r) 0 ∧ ρ' 6 = .op j6 0 0 ∧ ρ' 9 = .op j9 0 0 ∧ ρ' 10 = int k ∧ H' j6 = some (⟨99, 4, [[int 0, int 0, int 0, int 0]]⟩ : Row) ∧ H' j9 = some (scRow (otherS o r.type (moveS o r.type A)))) ?_ fun K hK _ _ => acond_i (fun hb => ?_) (fun hb => ?_)
      · clear R6 R9 h3 h4 h6 h9 h10 h11
        rintro ρ H ⟨h3, h4, h6, h9, h10, R6, R9⟩
        simp only [go_sem, h10, wrapS (show k ≤ 4611686018427387904 by omega)]
        exact ⟨⟨k + 1, hlt, h3, h4, h6, h9, rfl, R6, by rw [hs]; exact R9⟩, by simp only [natOf_int]; omega⟩
      · simp only [go_sem, h9, R9]
        refine wputE_1 so3 R9 ⟨by simp, rfl, by simp⟩ ?_
        simp only [go_sem]
        refine hK _ _ ⟨by simp only [go_sem, h3], by simp only [go_sem, h4], by simp only [go_sem, h6], by simp only [go_sem, h9], by simp only [go_sem, h10], keepS R6 n69, ?_⟩
        rw [updH_same, otherS, if_pos (show otherB o r.type = true from hb)]; rfl
      · simp only [go_sem]
        refine hK _ _ ⟨by simp only [go_sem, h3], by simp only [go_sem, h4], by simp only [go_sem, h6], by simp only [go_sem, h9], by simp only [go_sem, h10], R6, ?_⟩
        rw [otherS, if_neg (by rw [show otherB o r.type = false from hb]; simp)]; exact R9
    · simp only [go_sem, h9, R9]
      refine wputE_1 so3 R9 ⟨by simp, rfl, by simp⟩ ?_
      simp only [go_sem]
      refine hK _ _ ⟨by simp only [go_sem, h3], by simp only [go_sem, h4], by simp only [go_sem, h6], by simp only [go_sem, h9], by simp only [go_sem, h10], by simp only [go_sem], keepS R6 n69, ?_⟩
      rw [updH_same, moveS, if_pos (show movedB o r.type = true from hb)]; rfl
    · simp only [go_sem]
      refine hK _ _ ⟨by simp only [go_sem, h3], by simp only [go_sem, h4], by simp only [go_sem, h6], by simp only [go_sem, h9], by simp only [go_sem, h10], by simp only [go_sem], R6, ?_⟩
      rw [moveS, if_neg (by rw [show movedB o r.type = false from hb]; simp)]; exact R9
  · have hge := eq_of_ge_b hk hge
    subst hge
    simp only [go_sem, h6, h9, R9]
    refine wputE_n R6 (by simp [encScore]) ?_
    simp only [go_sem, h6]
    rw [List.take_of_length_le (by simp)]
    exact .refl _
structure InsB (x : Instance) : Prop where
  net : NetB x.net
  types : x.types.length ≤ 1048576
  orders : x.orders.length ≤ 1048576
  apart : x.apart.length ≤ 1048576
  before : x.before.length ≤ 1048576
theorem check_in {x : Instance} {l : List Visit} (h : check16 x l = 0) : ∀ v ∈ l, 0 ≤ v.order ∧ v.order < (x.orders.length : Int) := by
  intro v hv
  by_cases hb : (l.any fun v => badNo v.order x.orders.length) = true
  · unfold check16 at h; rw [if_pos hb] at h; cases h
  · have hb : badNo v.order x.orders.length = false := by
      have := List.any_eq_false.1 (Bool.eq_false_iff.2 hb) v hv
      simpa using this
    simp only [badNo, Bool.or_eq_false_iff, decide_eq_false_iff_not] at hb
    omega
def skillAt (x : Instance) (t : VType) (v : Visit) : Bool := match x.orders[v.order.toNat]? with | some o => able10 t.skills o.skills | none => false
def evalT (x : Instance) (r : Route) (t : VType) : Sheet × Score × Int :=
  if (check16 x r.visits != 0) = true then (zeroSheet, zeroScore, check16 x r.visits)
  else if (r.visits.any fun v => !skillAt x t v) = true then (zeroSheet, zeroScore, 18)
  else if (fits17 x r != 0) = true then (zeroSheet, zeroScore, fits17 x r)
  else if ((best18 x r).2 != 0) = true then (zeroSheet, zeroScore, (best18 x r).2)
  else ((best18 x r).1, route20 x r (best18 x r).1, 0)
def eval21 (x : Instance) (r : Route) : Sheet × Score × Int :=
  if badNo r.type x.types.length = true then (zeroSheet, zeroScore, 2) else match x.types[r.type.toNat]? with
  | some t => evalT x r t
  | none => (zeroSheet, zeroScore, 2)
abbrev zCells : List AV := [int 0, int 0, int 0, int 0]
theorem convE0 {H : Heap} {c : Int} : Conv H (.tup [.agg zeroCells, .agg zCells, int c]) (.tup [.agg (encSheet zeroSheet), .agg (encScore zeroScore), int c]) := .refl _
theorem eval21_c (x : Instance) (r : Route) (hx : InsB x) (hr : r.visits.length ≤ 1048576) : PC Tryz.prog 150 [.agg (encInstance x), .agg (encRoute r)] (.tup [.agg (encSheet (eval21 x r).1), .agg (encScore (eval21 x r).2.1), int (eval21 x r).2.2]) := by
  refine PC.body (c := Tryz.f150.body.getD .skip) (fun _ => false) mixed Tryz.func150 rfl (by kernel_rfl) ?_
  unfold Tryz.f150
  simp only [Option.getD_some]
  simp only [go_sem]
  refine anew_i fun j4 hj => ?_
  have R4 := updH_same noRows j4 (some (sheetRow zeroCells))
  generalize updH noRows j4 _ = H0 at R4 ⊢
  clear hj
  simp only [go_sem]
  refine anew_i fun j5 hj => ?_
  have R5 := updH_same H0 j5 (some (⟨99, 4, [zCells]⟩ : Row))
  have n45 := ne_new R4 hj
  have R4 := keep_new (r' := (⟨99, 4, [zCells]⟩ : Row)) R4 hj
  generalize updH H0 j5 _ = H1 at R4 R5 ⊢
  clear hj
  have n54 := Ne.symm n45
  simp only [go_sem]
  refine acond_i (fun h1 => ?_) (fun h1 => ?_)
  · simp only [go_sem]
    refine wputE_n R4 (by simp) ?_
    simp only [go_sem]
    refine wputE_n (keepS R5 n54) (by simp) ?_
    simp only [go_sem, updH_ne _ _ _ _ n45]
    rw [show eval21 x r = (zeroSheet, zeroScore, 2) from if_pos h1]
    exact convE0
  have hin : 0 ≤ r.type ∧ r.type < (x.types.length : Int) := by
    simp only [Bool.or_eq_false_iff, decide_eq_false_iff_not] at h1; omega
  obtain ⟨t, ht⟩ := getIn (show r.type.toNat < x.types.length by omega)
  rw [show eval21 x r = evalT x r t by unfold eval21; rw [if_neg (by rw [show badNo r.type x.types.length = false from h1]; simp), ht]]
  simp only [go_sem]
  refine PC.use (check16_c x r hr hx.apart hx.before) ?_
  simp only [go_sem]
  refine acond_i (fun h2 => ?_) (fun h2 => ?_)
  · simp only [go_sem]
    refine wputE_n R4 (by simp) ?_
    simp only [go_sem]
    refine wputE_n (keepS R5 n54) (by simp) ?_
    simp only [go_sem, updH_ne _ _ _ _ n45]
    rw [show evalT x r t = (zeroSheet, zeroScore, check16 x r.visits) from if_pos h2]
    exact convE0
  have hc0 : check16 x r.visits = 0 := by simpa using h2
  have hio := check_in hc0
  rw [show evalT x r t = _ from if_neg (by rw [h2]; simp)]
  simp only [go_sem]
  refine ⟨fun ρ H => ∃ k : Nat, k ≤ r.visits.length ∧ ρ 2 = .rp (encInstance x) 0 ∧ ρ 3 = .rp (encRoute r) 0 ∧ ρ 4 = .op j4 0 0 ∧ ρ 5 = .op j5 0 0 ∧ ρ 8 = int k ∧ H j4 = some (sheetRow zeroCells) ∧ H j5 = some (⟨99, 4, [zCells]⟩ : Row) ∧ ∀ v ∈ r.visits.take k, skillAt x t v = true,
    fun ρ _ => r.visits.length - natOf (ρ 8), ⟨0, Nat.zero_le _, rfl, rfl, rfl, rfl, rfl, R4, R5, by simp⟩, ?_⟩
  clear R4 R5
  rintro ρ H ⟨k, hk, g2, g3, g4, g5, g8, R4, R5, hz⟩
  simp only [go_sem, g3, g8]
  refine acond_i (fun hlt => ?_) (fun hge => ?_)
  · have hlt := le_of_lt_b hlt
    obtain ⟨v, hv⟩ := getIn hlt
    have b1 := inB hlt
    have hi := hio v (List.mem_of_getElem? hv)
    obtain ⟨o, ho⟩ := getIn (show v.order.toNat < x.orders.length by omega)
    have es : skillAt x t v = able10 t.skills o.skills := by unfold skillAt; rw [ho]
    simp only [go_sem]
    refine adraw_q (by rfl) (by kernel_rfl) ?_
    simp only [go_sem, g2, g3, g8, getD_map hv, getD_map ho, getD_map ht, b1, hi, hin]
    refine ⟨_, (able10_c t o.skills).q rfl, ?_⟩
    simp only [go_sem]
    refine acond_i (fun h3 => ?_) (fun h3 => ?_)
    · simp only [go_sem, g4, g5]
      refine wputE_n R4 (by simp) ?_
      simp only [go_sem, g5]
      refine wputE_n (keepS R5 n54) (by simp) ?_
      simp only [go_sem, g4, g5, updH_ne _ _ _ _ n45]
      rw [if_pos (List.any_eq_true.2 ⟨v, List.mem_of_getElem? hv, by rw [es]; exact h3⟩)]
      exact convE0
    · simp only [go_sem, g8, wrapS (show k ≤ 4611686018427387904 by omega)]
      exact ⟨⟨k + 1, hlt, g2, g3, g4, g5, rfl, R4, R5, take_allP (p := fun v => skillAt x t v = true) hv (by rw [es]; simpa using h3) hz⟩, by simp only [natOf_int]; omega⟩
  have hge := eq_of_ge_b hk hge
  subst hge
  rw [List.take_length] at hz
  have hsk : (r.visits.any fun v => !skillAt x t v) = false := by
    rw [List.any_eq_false]; intro v hv; rw [hz v hv]; simp
  rw [if_neg (by rw [hsk]; simp)]
  simp only [go_sem, g2, g3]
  refine PC.use (fits17_c x r hx.orders hr hx.apart hx.before) ?_
  simp only [go_sem]
  refine acond_i (fun h4 => ?_) (fun h4 => ?_)
  · simp only [go_sem, g4, g5]
    refine wputE_n R4 (by simp) ?_
    simp only [go_sem, g5]
    refine wputE_n (keepS R5 n54) (by simp) ?_
    simp only [go_sem, g4, g5, updH_ne _ _ _ _ n45]
    rw [if_pos h4]
    exact convE0
  rw [if_neg (by rw [h4]; simp)]
  simp only [go_sem, g2, g3]
  refine PC.use (best18_c x r hx.net hr) ?_
  simp only [go_sem]
  refine anew_i fun j10 hj => ?_
  simp only [go_sem]
  refine wputE_n (updH_same _ _ _) (by simp [encSheet]) ?_
  have n410 := ne_new R4 hj
  generalize hG : updH (updH H j10 _) j10 _ = H2
  have R10 : H2 j10 = some (shRow (best18 x r).1) := by rw [← hG, updH_same]; rfl
  have R4 : H2 j4 = some (sheetRow zeroCells) := by rw [← hG]; exact keepN R4 hj
  have R5 : H2 j5 = some (⟨99, 4, [zCells]⟩ : Row) := by rw [← hG]; exact keepN R5 hj
  clear hG hj
  simp only [go_sem]
  refine acond_i (fun h5 => ?_) (fun h5 => ?_)
  · simp only [go_sem, g4, g5]
    refine wputE_n R4 (by simp) ?_
    simp only [go_sem, g5]
    refine wputE_n (keepS R5 n54) (by simp) ?_
    simp only [go_sem, g4, g5, updH_ne _ _ _ _ n45]
    rw [if_pos h5]
    exact convE0
  rw [if_neg (by rw [h5]; simp)]
  simp only [go_sem]
  refine adraw_p [j10] [(0, true), (1, true), (2, true), (3, true), (4, true), (5, false), (6, false), (7, false)] (by simp [R10]) (by kernel_rfl) fun Hp Hr hp hq _ hr0 => ?_
  have Rp := (hp j10 (by simp)).trans R10
  have m4 : j4 ∉ [j10] := by simpa using n410
  have m5 : j5 ∉ [j10] := by simpa using row_ne R5 R10 rfl
  have S4 := (hq j4 m4).trans R4
  have S5 := (hq j5 m5).trans R5
  simp only [go_sem, g2, g3, g4, g5, Rp]
  refine ⟨_, (route20_c x r (best18 x r).1 hr).q rfl, ?_⟩
  simp only [go_sem, g4, g5]
  refine wputE_n S4 (by simp [encSheet]) ?_
  simp only [go_sem, g5]
  refine wputE_n (keepS S5 n54) (by simp [encScore]) ?_
  simp only [go_sem]
  refine pinEnd_i fun hd Hm hm1 hm2 => ?_
  have T4 : Hm j4 = some (shRow (best18 x r).1) := by rw [hm2 j4 m4, updH_ne _ _ _ _ n45, updH_same]
  have T5 : Hm j5 = some (scRow (route20 x r (best18 x r).1)) := by rw [hm2 j5 m5, updH_same]
  simp only [go_sem, g4, g5, T4, T5]
  exact .refl _
theorem valid21_c (x : Instance) (r : Route) (hx : InsB x) (hr : r.visits.length ≤ 1048576) : PC Tryz.prog 80 [.agg (encInstance x), .agg (encRoute r)] (int (eval21 x r).2.2) := by
  refine PC.body (c := Tryz.f80.body.getD .skip) (fun _ => false) mixed Tryz.func80 rfl (by kernel_rfl) ?_
  unfold Tryz.f80
  simp only [Option.getD_some]
  simp only [go_sem]
  refine PC.use (eval21_c x r hx hr) ?_
  simp only [go_sem]
  refine anew_i fun j5 hj => ?_
  simp only [go_sem]
  refine anew_i fun j6 hk => ?_
  simp only [go_sem]
  refine wputE_n (keep_new (updH_same _ _ _) hk) (by simp [encSheet]) ?_
  simp only [go_sem]
  have n56 := ne_new (updH_same _ _ _) hk
  refine wputE_n (keepS (updH_same _ _ _) n56.symm) (by simp [encScore]) ?_
  simp only [go_sem]
  exact .refl _
structure PlanB (p : Plan) : Prop where
  routes : p.routes.length ≤ 1048576
  visits : ∀ r ∈ p.routes, r.visits.length ≤ 1048576
  unserved : p.unserved.length ≤ 1048576
def cntB {α : Type} (p : α → Bool) (l : List α) : Nat := l.countP p
theorem cnt_take {α : Type} {p : α → Bool} {l : List α} {k : Nat} {x : α} (h : l[k]? = some x) : cntB p (l.take (k + 1)) = cntB p (l.take k) + if p x = true then 1 else 0 := by
  unfold cntB
  rw [take_succ h, List.countP_append, List.countP_cons, List.countP_nil, Nat.zero_add]
theorem cnt_le {α : Type} {p : α → Bool} {l : List α} {k : Nat} : cntB p (l.take k) ≤ l.length := by
  unfold cntB
  exact Nat.le_trans List.countP_le_length (by rw [List.length_take]; omega)
theorem cnt_le' {α : Type} {p : α → Bool} {l : List α} : cntB p l ≤ l.length := List.countP_le_length
def onR (k : Int) (r : Route) : Bool := r.visits.any fun v => v.order == k
def onA (p : Plan) (k : Int) : Nat := cntB (onR k) p.routes
def onU (p : Plan) (k : Int) : Nat := cntB (fun u => u == k) p.unserved
theorem on23_c (p : Plan) (k : Int) (hp : PlanB p) : PC Tryz.prog 81 [.agg (encPlan p), int k] (.tup [int (onA p k), int (onU p k)]) := by
  have hp1 := hp.routes
  have hp2 := hp.unserved
  refine PC.body (c := Tryz.f81.body.getD .skip) (fun _ => false) mixed Tryz.func81 rfl (by kernel_rfl) ?_
  unfold Tryz.f81
  simp only [Option.getD_some]
  simp only [go_sem]
  refine ⟨fun ρ _ => ∃ i : Nat, i ≤ p.routes.length ∧ ρ 1 = int k ∧ ρ 2 = .rp (encPlan p) 0 ∧ ρ 6 = int (cntB (onR k) (p.routes.take i) : Nat) ∧ ρ 7 = int 0 ∧ ρ 8 = int i, fun ρ _ => p.routes.length - natOf (ρ 8), ⟨0, Nat.zero_le _, rfl, rfl, rfl, rfl, rfl⟩, ?_⟩
  rintro ρ H ⟨i, hi, h1, h2, h6, h7, h8⟩
  simp only [go_sem, h2, h8]
  refine acond_i (fun hlt => ?_) (fun hge => ?_)
  · have hlt := le_of_lt_b hlt
    obtain ⟨r, hr⟩ := getIn hlt
    have b1 := inB hlt
    have hrl := hp.visits r (List.mem_of_getElem? hr)
    have hc : cntB (onR k) (p.routes.take i) ≤ p.routes.length := cnt_le
    simp only [go_sem]
    refine aloop_join (fun ρ' _ => ρ' 1 = int k ∧ ρ' 2 = .rp (encPlan p) 0 ∧ ρ' 6 = int (cntB (onR k) (p.routes.take (i + 1)) : Nat) ∧ ρ' 7 = int 0 ∧ ρ' 8 = int i) ?_ fun Q hQ _ => ?_
    · clear h1 h2 h6 h7 h8
      rintro ρ H ⟨h1, h2, h6, h7, h8⟩
      simp only [go_sem, h8, wrapS (show i ≤ 4611686018427387904 by omega)]
      exact ⟨⟨i + 1, hlt, h1, h2, h6, h7, rfl⟩, by simp only [natOf_int]; omega⟩
    refine ⟨fun ρ _ => ∃ m : Nat, m ≤ r.visits.length ∧ ρ 1 = int k ∧ ρ 2 = .rp (encPlan p) 0 ∧ ρ 6 = int (cntB (onR k) (p.routes.take i) : Nat) ∧ ρ 7 = int 0 ∧ ρ 8 = int i ∧ ρ 9 = int m ∧ ∀ v ∈ r.visits.take m, (v.order == k) = false, fun ρ _ => r.visits.length - natOf (ρ 9), ⟨0, Nat.zero_le _, h1, h2, h6, h7, h8, by simp only [go_sem]; rfl, by simp⟩, ?_⟩
    clear h1 h2 h6 h7 h8
    rintro ρ H ⟨m, hm, h1, h2, h6, h7, h8, h9, hz⟩
    simp only [go_sem, h2, h8, h9, getD_map hr, b1]
    refine acond_i (fun hl2 => ?_) (fun hg2 => ?_)
    · have hl2 := le_of_lt_b hl2
      obtain ⟨v, hv⟩ := getIn hl2
      have b2 := inB hl2
      simp only [go_sem, h1, h2, h8, h9, getD_map hr, b1, getD_map hv, b2]
      refine acond_i (fun hb => ?_) (fun hb => ?_)
      · simp only [go_sem, h6, wrapS (show cntB (onR k) (p.routes.take i) ≤ 4611686018427387904 by omega)]
        refine hQ _ _ ⟨by simp only [go_sem, h1], by simp only [go_sem, h2], ?_, by simp only [go_sem, h7], by simp only [go_sem, h8]⟩
        simp only [go_sem]
        rw [cnt_take hr, if_pos (show onR k r = true from List.any_eq_true.2 ⟨v, List.mem_of_getElem? hv, hb⟩)]
      · simp only [go_sem, h9, wrapS (show m ≤ 4611686018427387904 by omega)]
        exact ⟨⟨m + 1, hl2, h1, h2, h6, h7, h8, rfl, take_allP (p := fun v : Visit => (v.order == k) = false) hv hb hz⟩, by simp only [natOf_int]; omega⟩
    · have hg2 := eq_of_ge_b hm hg2
      subst hg2
      rw [List.take_length] at hz
      simp only [go_sem]
      refine hQ _ _ ⟨by simp only [go_sem, h1], by simp only [go_sem, h2], ?_, by simp only [go_sem, h7], by simp only [go_sem, h8]⟩
      simp only [go_sem, h6]
      rw [cnt_take hr, if_neg (by rw [show onR k r = false from List.any_eq_false.2 fun v hv => by rw [hz v hv]; simp]; simp)]; rfl
  have hge := eq_of_ge_b hi hge
  subst hge
  rw [List.take_length] at h6
  simp only [go_sem]
  refine ⟨fun ρ _ => ∃ i : Nat, i ≤ p.unserved.length ∧ ρ 1 = int k ∧ ρ 2 = .rp (encPlan p) 0 ∧ ρ 6 = int (onA p k : Nat) ∧ ρ 7 = int (cntB (fun u => u == k) (p.unserved.take i) : Nat) ∧ ρ 10 = int i, fun ρ _ => p.unserved.length - natOf (ρ 10), ⟨0, Nat.zero_le _, h1, h2, h6, h7, by simp only [go_sem]; rfl⟩, ?_⟩
  clear h1 h2 h6 h7 h8
  rintro ρ H ⟨i, hi, h1, h2, h6, h7, h10⟩
  simp only [go_sem, h2, h10]
  refine acond_i (fun hlt => ?_) (fun hge => ?_)
  · have hlt := le_of_lt_b hlt
    obtain ⟨u, hu⟩ := getIn hlt
    have b1 := inB hlt
    have hc : cntB (fun u => u == k) (p.unserved.take i) ≤ p.unserved.length := cnt_le
    simp only [go_sem, h1, h2, h10, getD_map hu, b1]
    refine acond_joinL (fun ρ' _ => ρ' 1 = int k ∧ ρ' 2 = .rp (encPlan p) 0 ∧ ρ' 6 = int (onA p k : Nat) ∧ ρ' 7 = int (cntB (fun u => u == k) (p.unserved.take (i + 1)) : Nat) ∧ ρ' 10 = int i) ?_ fun K hK _ _ => acond_i (fun hb => ?_) (fun hb => ?_)
    · clear h1 h2 h6 h7 h10
      rintro ρ H ⟨h1, h2, h6, h7, h10⟩
      simp only [go_sem, h10, wrapS (show i ≤ 4611686018427387904 by omega)]
      exact ⟨⟨i + 1, hlt, h1, h2, h6, h7, rfl⟩, by simp only [natOf_int]; omega⟩
    · simp only [go_sem, h7, wrapS (show cntB (fun u => u == k) (p.unserved.take i) ≤ 4611686018427387904 by omega)]
      refine hK _ _ ⟨by simp only [go_sem, h1], by simp only [go_sem, h2], by simp only [go_sem, h6], ?_, by simp only [go_sem, h10]⟩
      simp only [go_sem]
      rw [cnt_take hu, if_pos hb]
    · simp only [go_sem]
      refine hK _ _ ⟨by simp only [go_sem, h1], by simp only [go_sem, h2], by simp only [go_sem, h6], ?_, by simp only [go_sem, h10]⟩
      simp only [go_sem, h7]
      rw [cnt_take hu, if_neg (by rw [hb]; simp)]; rfl
  · have hge := eq_of_ge_b hi hge
    subst hge
    simp only [go_sem, h6, h7]
    rw [List.take_length]
    exact .refl _
theorem onA_le {p : Plan} {k : Int} (hp : PlanB p) : onA p k ≤ 1048576 := Nat.le_trans cnt_le' hp.routes
theorem onU_le {p : Plan} {k : Int} (hp : PlanB p) : onU p k ≤ 1048576 := Nat.le_trans cnt_le' hp.unserved
def twice23 (p : Plan) (i : Nat) : Bool := decide (((onA p i + onU p i : Nat) : Int) > 1)
def cntT (p : Plan) (t : Nat) : Nat := cntB (fun r : Route => r.type == (t : Int)) p.routes
def over23 (x : Instance) (p : Plan) (t : Nat) : Bool := match x.types[t]? with | some v => decide ((cntT p t : Int) > v.count) | none => false
def miss23 (x : Instance) (p : Plan) (i : Nat) : Bool := match x.orders[i]? with
  | some o => (((onA p i + onU p i : Nat) : Int) == 0 && !o.off) || (decide ((onU p i : Int) > 0) && o.penalty == -1)
  | none => false
def check23 (x : Instance) (p : Plan) : Int :=
  if (firstE (p.routes.map fun r => (eval21 x r).2.2) != 0) = true then firstE (p.routes.map fun r => (eval21 x r).2.2)
  else if (p.unserved.any fun u => badNo u x.orders.length) = true then 2
  else if ((List.range x.orders.length).any (twice23 p)) = true then 6
  else if ((List.range x.types.length).any (over23 x p)) = true then 22
  else if (p.unserved.any fun u => offAt x u) = true then 9
  else if ((List.range x.orders.length).any (miss23 x p)) = true then 23 else 0
theorem any_none {α : Type} {p : α → Bool} {l : List α} (h : ∀ x ∈ l, p x = false) : ¬ (l.any p) = true := by
  rw [any_no h]; simp
theorem check23_c (x : Instance) (p : Plan) (hx : InsB x) (hp : PlanB p) : PC Tryz.prog 24 [.agg (encInstance x), .agg (encPlan p)] (int (check23 x p)) := by
  have hp1 := hp.routes
  have hp2 := hp.unserved
  have hx1 := hx.types
  have hx2 := hx.orders
  refine PC.body (c := Tryz.f24.body.getD .skip) (fun _ => false) mixed Tryz.func24 rfl (by kernel_rfl) ?_
  unfold Tryz.f24
  simp only [Option.getD_some]
  simp only [go_sem]
  refine ⟨fun ρ _ => ∃ i : Nat, i ≤ p.routes.length ∧ ρ 2 = .rp (encInstance x) 0 ∧ ρ 3 = .rp (encPlan p) 0 ∧ ρ 5 = int i ∧ ∀ e ∈ (p.routes.map fun r => (eval21 x r).2.2).take i, (e != 0) = false, fun ρ _ => p.routes.length - natOf (ρ 5), ⟨0, Nat.zero_le _, rfl, rfl, rfl, by simp⟩, ?_⟩
  rintro ρ H ⟨i, hi, h2, h3, h5, hz⟩
  simp only [go_sem, h3, h5]
  refine acond_i (fun hlt => ?_) (fun hge => ?_)
  · have hlt := le_of_lt_b hlt
    obtain ⟨r, hr⟩ := getIn hlt
    have b1 := inB hlt
    have hrl := hp.visits r (List.mem_of_getElem? hr)
    have hm : (p.routes.map fun r => (eval21 x r).2.2)[i]? = some (eval21 x r).2.2 := by simp [hr]
    simp only [go_sem]
    refine adraw_m [(0, true), (1, true), (2, true), (3, true), (4, true), (5, true), (6, true), (7, false)] (by kernel_rfl) ?_
    simp only [go_sem, h2, h3, h5, getD_map hr, b1]
    refine ⟨_, (valid21_c x r hx hrl).q rfl, ?_⟩
    simp only [go_sem]
    refine acond_i (fun hb => ?_) (fun hb => ?_)
    · simp only [go_sem]
      have e := firstE_hit hz hm hb
      exact convI (by unfold check23; rw [e, if_pos hb])
    · simp only [go_sem, h5, wrapS (show i ≤ 4611686018427387904 by omega)]
      exact ⟨⟨i + 1, hlt, h2, h3, rfl, take_allP (p := fun e : Int => (e != 0) = false) hm hb hz⟩, by simp only [natOf_int]; omega⟩
  have hge := eq_of_ge_b hi hge
  have e1 : ¬ (firstE (p.routes.map fun r => (eval21 x r).2.2) != 0) = true := by
    rw [firstE_none (by rw [List.take_of_length_le (by simp; omega)] at hz; exact hz)]; simp
  rw [show check23 x p = _ from if_neg e1]
  clear e1 hz hge hi h5
  simp only [go_sem]
  refine ⟨fun ρ _ => ∃ i : Nat, i ≤ p.unserved.length ∧ ρ 2 = .rp (encInstance x) 0 ∧ ρ 3 = .rp (encPlan p) 0 ∧ ρ 7 = int i ∧ ∀ u ∈ p.unserved.take i, badNo u x.orders.length = false, fun ρ _ => p.unserved.length - natOf (ρ 7), ⟨0, Nat.zero_le _, h2, h3, by simp only [go_sem]; rfl, by simp⟩, ?_⟩
  clear h2 h3 ρ H
  rintro ρ H ⟨i, hi, h2, h3, h7, hz⟩
  simp only [go_sem, h3, h7]
  refine acond_i (fun hlt => ?_) (fun hge => ?_)
  · have hlt := le_of_lt_b hlt
    obtain ⟨u, hu⟩ := getIn hlt
    have b1 := inB hlt
    simp only [go_sem]
    refine adraw_q (by rfl) (by kernel_rfl) ?_
    simp only [go_sem, h2, h3, h7, getD_map hu, b1]
    refine acond_i (fun hb => ?_) (fun hb => ?_)
    · simp only [go_sem]
      exact convI (by rw [if_pos (List.any_eq_true.2 ⟨u, List.mem_of_getElem? hu, hb⟩)])
    · simp only [go_sem, h7, wrapS (show i ≤ 4611686018427387904 by omega)]
      exact ⟨⟨i + 1, hlt, h2, h3, rfl, take_allP (p := fun u : Int => badNo u x.orders.length = false) hu hb hz⟩, by simp only [natOf_int]; omega⟩
  have hge := eq_of_ge_b hi hge
  subst hge
  rw [List.take_length] at hz
  rw [if_neg (any_none hz)]
  have hun := hz
  clear hz h7
  simp only [go_sem]
  refine ⟨fun ρ _ => ∃ i : Nat, i ≤ x.orders.length ∧ ρ 2 = .rp (encInstance x) 0 ∧ ρ 3 = .rp (encPlan p) 0 ∧ ρ 8 = int i ∧ ∀ k ∈ (List.range x.orders.length).take i, twice23 p k = false, fun ρ _ => x.orders.length - natOf (ρ 8), ⟨0, Nat.zero_le _, h2, h3, by simp only [go_sem]; rfl, by simp⟩, ?_⟩
  clear h2 h3 ρ H
  rintro ρ H ⟨i, hi, h2, h3, h8, hz⟩
  simp only [go_sem, h2, h8]
  refine acond_i (fun hlt => ?_) (fun hge => ?_)
  · have hlt := le_of_lt_b hlt
    have w : IntKind.i64.wrap ((onA p i : Int) + (onU p i : Int)) = ((onA p i + onU p i : Nat) : Int) := by
      have := onA_le (k := i) hp; have := onU_le (k := i) hp
      rw [wrap_in (by omega)]; omega
    simp only [go_sem, h3, h8]
    refine PC.use (on23_c p i hp) ?_
    simp only [go_sem, w]
    refine acond_i (fun hb => ?_) (fun hb => ?_)
    · simp only [go_sem]
      exact convI (by rw [if_pos (List.any_eq_true.2 ⟨i, List.mem_range.2 hlt, hb⟩)])
    · simp only [go_sem, h8, wrapS (show i ≤ 4611686018427387904 by omega)]
      exact ⟨⟨i + 1, hlt, h2, h3, rfl, take_allP (p := fun k : Nat => twice23 p k = false) (range_get hlt) hb hz⟩, by simp only [natOf_int]; omega⟩
  have hge := eq_of_ge_b hi hge
  subst hge
  rw [List.take_of_length_le (by simp)] at hz
  rw [if_neg (any_none hz)]
  clear hz h8
  simp only [go_sem]
  refine ⟨fun ρ _ => ∃ i : Nat, i ≤ x.types.length ∧ ρ 2 = .rp (encInstance x) 0 ∧ ρ 3 = .rp (encPlan p) 0 ∧ ρ 11 = int i ∧ ∀ k ∈ (List.range x.types.length).take i, over23 x p k = false, fun ρ _ => x.types.length - natOf (ρ 11), ⟨0, Nat.zero_le _, h2, h3, by simp only [go_sem]; rfl, by simp⟩, ?_⟩
  clear h2 h3 ρ H
  rintro ρ H ⟨i, hi, h2, h3, h11, hz⟩
  simp only [go_sem, h2, h11]
  refine acond_i (fun hlt => ?_) (fun hge => ?_)
  · have hlt := le_of_lt_b hlt
    obtain ⟨t, ht⟩ := getIn hlt
    have b1 := inB hlt
    simp only [go_sem]
    refine ⟨fun ρ _ => ∃ m : Nat, m ≤ p.routes.length ∧ ρ 2 = .rp (encInstance x) 0 ∧ ρ 3 = .rp (encPlan p) 0 ∧ ρ 11 = int i ∧ ρ 12 = int (cntB (fun r : Route => r.type == (i : Int)) (p.routes.take m) : Nat) ∧ ρ 13 = int m, fun ρ _ => p.routes.length - natOf (ρ 13), ⟨0, Nat.zero_le _, h2, h3, h11, by simp only [go_sem]; rfl, by simp only [go_sem]; rfl⟩, ?_⟩
    clear h2 h3 h11 ρ H
    rintro ρ H ⟨m, hm, h2, h3, h11, h12, h13⟩
    simp only [go_sem, h3, h13]
    refine acond_i (fun hl2 => ?_) (fun hg2 => ?_)
    · have hl2 := le_of_lt_b hl2
      obtain ⟨r, hr⟩ := getIn hl2
      have b2 := inB hl2
      have hc : cntB (fun r : Route => r.type == (i : Int)) (p.routes.take m) ≤ p.routes.length := cnt_le
      simp only [go_sem, h3, h11, h13, getD_map hr, b2]
      refine acond_joinL (fun ρ' _ => ρ' 2 = .rp (encInstance x) 0 ∧ ρ' 3 = .rp (encPlan p) 0 ∧ ρ' 11 = int i ∧ ρ' 12 = int (cntB (fun r : Route => r.type == (i : Int)) (p.routes.take (m + 1)) : Nat) ∧ ρ' 13 = int m) ?_ fun K hK _ _ => acond_i (fun hb => ?_) (fun hb => ?_)
      · clear h2 h3 h11 h12 h13
        rintro ρ H ⟨h2, h3, h11, h12, h13⟩
        simp only [go_sem, h13, wrapS (show m ≤ 4611686018427387904 by omega)]
        exact ⟨⟨m + 1, hl2, h2, h3, h11, h12, rfl⟩, by simp only [natOf_int]; omega⟩
      · simp only [go_sem, h12, wrapS (show cntB (fun r : Route => r.type == (i : Int)) (p.routes.take m) ≤ 4611686018427387904 by omega)]
        refine hK _ _ ⟨by simp only [go_sem, h2], by simp only [go_sem, h3], by simp only [go_sem, h11], ?_, by simp only [go_sem, h13]⟩
        simp only [go_sem]
        rw [cnt_take hr, if_pos hb]
      · simp only [go_sem]
        refine hK _ _ ⟨by simp only [go_sem, h2], by simp only [go_sem, h3], by simp only [go_sem, h11], ?_, by simp only [go_sem, h13]⟩
        simp only [go_sem, h12]
        rw [cnt_take hr, if_neg (by rw [hb]; simp)]; rfl
    have hg2 := eq_of_ge_b hm hg2
    subst hg2
    rw [List.take_length] at h12
    have eo : over23 x p i = decide ((cntT p i : Int) > t.count) := by unfold over23; rw [ht]
    simp only [go_sem, h2, h11, h12, getD_map ht, b1]
    refine acond_i (fun hb => ?_) (fun hb => ?_)
    · simp only [go_sem]
      exact convI (by rw [if_pos (List.any_eq_true.2 ⟨i, List.mem_range.2 hlt, eo.trans hb⟩)])
    · simp only [go_sem, h11, wrapS (show i ≤ 4611686018427387904 by omega)]
      exact ⟨⟨i + 1, hlt, h2, h3, rfl, take_allP (p := fun k : Nat => over23 x p k = false) (range_get hlt) (eo.trans hb) hz⟩, by simp only [natOf_int]; omega⟩
  have hge := eq_of_ge_b hi hge
  subst hge
  rw [List.take_of_length_le (by simp)] at hz
  rw [if_neg (any_none hz)]
  clear hz h11
  simp only [go_sem]
  refine ⟨fun ρ _ => ∃ i : Nat, i ≤ p.unserved.length ∧ ρ 2 = .rp (encInstance x) 0 ∧ ρ 3 = .rp (encPlan p) 0 ∧ ρ 14 = int i ∧ ∀ u ∈ p.unserved.take i, offAt x u = false, fun ρ _ => p.unserved.length - natOf (ρ 14), ⟨0, Nat.zero_le _, h2, h3, by simp only [go_sem]; rfl, by simp⟩, ?_⟩
  clear h2 h3 ρ H
  rintro ρ H ⟨i, hi, h2, h3, h14, hz⟩
  simp only [go_sem, h3, h14]
  refine acond_i (fun hlt => ?_) (fun hge => ?_)
  · have hlt := le_of_lt_b hlt
    obtain ⟨u, hu⟩ := getIn hlt
    have b1 := inB hlt
    have hio : 0 ≤ u ∧ u < (x.orders.length : Int) := by
      have := hun u (List.mem_of_getElem? hu)
      simp only [badNo, Bool.or_eq_false_iff, decide_eq_false_iff_not] at this; omega
    obtain ⟨o, ho⟩ := getIn (show u.toNat < x.orders.length by omega)
    have eo : offAt x u = o.off := by unfold offAt; rw [ho]
    simp only [go_sem]
    refine adraw_q (by rfl) (by kernel_rfl) ?_
    simp only [go_sem, h2, h3, h14, getD_map hu, getD_map ho, b1, hio]
    refine acond_i (fun hb => ?_) (fun hb => ?_)
    · simp only [go_sem]
      exact convI (by rw [if_pos (List.any_eq_true.2 ⟨u, List.mem_of_getElem? hu, eo.trans hb⟩)])
    · simp only [go_sem, h14, wrapS (show i ≤ 4611686018427387904 by omega)]
      exact ⟨⟨i + 1, hlt, h2, h3, rfl, take_allP (p := fun u : Int => offAt x u = false) hu (eo.trans hb) hz⟩, by simp only [natOf_int]; omega⟩
  have hge := eq_of_ge_b hi hge
  subst hge
  rw [List.take_length] at hz
  rw [if_neg (any_none hz)]
  clear hz h14
  simp only [go_sem]
  refine ⟨fun ρ _ => ∃ i : Nat, i ≤ x.orders.length ∧ ρ 2 = .rp (encInstance x) 0 ∧ ρ 3 = .rp (encPlan p) 0 ∧ ρ 15 = int i ∧ ∀ k ∈ (List.range x.orders.length).take i, miss23 x p k = false, fun ρ _ => x.orders.length - natOf (ρ 15), ⟨0, Nat.zero_le _, h2, h3, by simp only [go_sem]; rfl, by simp⟩, ?_⟩
  clear h2 h3 ρ H
  rintro ρ H ⟨i, hi, h2, h3, h15, hz⟩
  simp only [go_sem, h2, h15]
  refine acond_i (fun hlt => ?_) (fun hge => ?_)
  · have hlt := le_of_lt_b hlt
    obtain ⟨o, ho⟩ := getIn hlt
    have b1 := inB hlt
    have w : IntKind.i64.wrap ((onA p i : Int) + (onU p i : Int)) = ((onA p i + onU p i : Nat) : Int) := by
      have := onA_le (k := i) hp; have := onU_le (k := i) hp
      rw [wrap_in (by omega)]; omega
    have eo : miss23 x p i = ((((onA p i + onU p i : Nat) : Int) == 0 && !o.off) || (decide ((onU p i : Int) > 0) && o.penalty == -1)) := by unfold miss23; rw [ho]
    simp only [go_sem, h3, h15]
    refine PC.use (on23_c p i hp) ?_
    simp only [go_sem, w, h2, h15, getD_map ho, b1]
    refine acond_i (fun hb => ?_) (fun hb => ?_)
    · simp only [go_sem]
      exact convI (by rw [if_pos (List.any_eq_true.2 ⟨i, List.mem_range.2 hlt, eo.trans hb⟩)])
    · simp only [go_sem, h15, wrapS (show i ≤ 4611686018427387904 by omega)]
      exact ⟨⟨i + 1, hlt, h2, h3, rfl, take_allP (p := fun k : Nat => miss23 x p k = false) (range_get hlt) (eo.trans hb) hz⟩, by simp only [natOf_int]; omega⟩
  have hge := eq_of_ge_b hi hge
  subst hge
  rw [List.take_of_length_le (by simp)] at hz
  rw [if_neg (any_none hz)]
  simp only [go_sem]
  exact .refl _
theorem adraw_join {P : Program} {C : CallP} {PC : FuncId → List AV → Heap → AV → Prop} {mt : Nat → Bool} {ops : Array Oper} {K : Env → Heap → Prop} {m : Nat} {ρ : Env} {H : Heap} (J : Env → Heap → Prop) (h1 : ∀ ρ H, J ρ H → K ρ H)
    (h2 : ∀ K' : Env → Heap → Prop, (∀ ρ H, J ρ H → K' ρ H) → adraw P C PC mt ops K' m ρ H) : adraw P C PC mt ops K m ρ H := h2 K h1
end Go.Proofs.YtbcfajfngdmgnaaGreatDoor.Sq
