/- commit.{tick, progress, Prefixes}; lorryref44.{ended, fixed, Prefixes} -/
import Derived.Test.YtbefdpmjpioijaaGreatDoorAuX
set_option linter.unusedSimpArgs false
set_option linter.unusedVariables false
namespace Go.Proofs.YtbefdpmjpioijaaGreatDoor.Sq
open Go.Aw Go.Aw.D Go.Proofs Ty
open Mv (convI convB convA NC.pc take_allP)
set_option maxRecDepth 100000

def tickB (n : Int) : Bool := decide (n ≥ 0) && decide (n ≤ 4096)
theorem tick_c (n : Int) : PC Tryz.prog 60 [int n] (boo (tickB n)) := by
  refine PC.body (c := Tryz.f60.body.getD .skip) (fun _ => false) mixed Tryz.func60 rfl (by kernel_rfl) ?_
  unfold Tryz.f60
  simp only [Option.getD_some]
  simp only [go_sem]
  exact .refl _
def progA (x : Instance) (r : Route) (now : Int) : Nat × Bool × Sheet × Int := if ((eval21 x r).2.2 != 0) = true then (0, false, zeroSheet, (eval21 x r).2.2) else ((progR x r now).1, (progR x r now).2, (eval21 x r).1, 0)
theorem prog_hit {x : Instance} {t : VType} {r : Route} {s : Sheet} {now : Int} {k : Nat} (hk : k < r.visits.length) (hz : ∀ m, m < k → readyK x t r s m < now) (h : readyK x t r s k ≥ now) : progT x t r s now = (k, false) := by
  unfold progT
  rw [find_hit (k := k) (x := k) (fun y hy => by
    rw [List.take_range] at hy
    have := hz y (by have := List.mem_range.1 hy; omega)
    simpa using this) (range_get hk) (by simpa using h)]
theorem prog_none {x : Instance} {t : VType} {r : Route} {s : Sheet} {now : Int} (hz : ∀ m, m < r.visits.length → readyK x t r s m < now) : progT x t r s now = (r.visits.length, decide ((r.visits.length : Int) > 0) && decide (readyK x t r s r.visits.length < now)) := by
  unfold progT
  rw [find_miss fun y hy => by
    have := hz y (List.mem_range.1 hy)
    simpa using this]
theorem ready_succ {x : Instance} {t : VType} {r : Route} {s : Sheet} {k : Nat} {v : Visit} {tm : Tm} (hv : r.visits[k]? = some v) (ht : s.times[k]? = some tm) : readyK x t r s (k + 1) = W (tm.begin_ + (stopV x v).1.service) := by
  show (match r.visits[k]? with | some v => W ((timeAt s k).begin_ + servS x v) | none => 0) = _
  rw [hv]
  show W ((timeAt s k).begin_ + servS x v) = _
  unfold timeAt servS
  simp [List.getD, ht]
abbrev visitRow (v : Visit) : Row := ⟨95, 2, [encVisit v]⟩
theorem progress_c (x : Instance) (r : Route) (now : Int) (h : Acc x) (hr : r.visits.length ≤ 1048575) :
    PC Tryz.prog 61 [.agg (encInstance x), .agg (encRoute r), int now] (.tup [int (progA x r now).1, boo (progA x r now).2.1, .agg (encSheet (progA x r now).2.2.1), int (progA x r now).2.2.2]) := by
  refine PC.body (c := Tryz.f61.body.getD .skip) (fun _ => false) mixed Tryz.func61 rfl (by kernel_rfl) ?_
  unfold Tryz.f61
  simp only [Option.getD_some]
  simp only [go_sem]
  refine anew_i fun i8 hi80 => ?_
  generalize hGi8 : updH _ i8 _ = HGi8
  have R8 : HGi8 i8 = some (sheetRow (encSheet zeroSheet)) := by rw [← hGi8, updH_same]; rfl
  clear hGi8 hi80
  simp only [go_sem, R8]
  refine PC.use (evaluate_c x r h.evalB hr) ?_
  rw [h.eval]
  simp only [go_sem]
  refine anew_i fun i10 hi100 => ?_
  have ne_i8_i10 : i8 ≠ i10 := ne_new R8 hi100
  generalize hGi10 : updH _ i10 _ = HGi10
  replace R8 := (congrFun hGi10.symm i8).trans ((updH_ne _ _ _ _ ne_i8_i10).trans R8)
  have R10 : HGi10 i10 = some (sheetRow (encSheet zeroSheet)) := by rw [← hGi10, updH_same]; rfl
  clear hGi10 hi100
  simp only [go_sem, R10, R8]
  refine anew_i fun i11 hi110 => ?_
  have ne_i8_i11 : i8 ≠ i11 := ne_new R8 hi110
  have ne_i10_i11 : i10 ≠ i11 := ne_new R10 hi110
  generalize hGi11 : updH _ i11 _ = HGi11
  replace R8 := (congrFun hGi11.symm i8).trans ((updH_ne _ _ _ _ ne_i8_i11).trans R8)
  replace R10 := (congrFun hGi11.symm i10).trans ((updH_ne _ _ _ _ ne_i10_i11).trans R10)
  have R11 : HGi11 i11 = some (scRow zeroScore) := by rw [← hGi11, updH_same]; rfl
  clear hGi11 hi110
  simp only [go_sem, R11, R8, R10]
  refine wputE_n R10 (by simp [encSheet_len]) ?_
  generalize hP : updH _ i10 _ = HP
  replace R8 := (congrFun hP.symm i8).trans ((updH_ne _ _ _ _ (by first | exact ne_i8_i10 | exact ne_i10_i8.symm)).trans R8)
  replace R11 := (congrFun hP.symm i11).trans ((updH_ne _ _ _ _ (by first | exact ne_i11_i10 | exact ne_i10_i11.symm)).trans R11)
  replace R10 : HP i10 = some (sheetRow (encSheet (eval21 x r).1)) := by rw [← hP, updH_same]; rfl
  clear hP
  simp only [go_sem, R10, R8, R11]
  refine wputE_n R11 (by simp [encScore_len]) ?_
  generalize hP : updH _ i11 _ = HP
  replace R8 := (congrFun hP.symm i8).trans ((updH_ne _ _ _ _ (by first | exact ne_i8_i11 | exact ne_i11_i8.symm)).trans R8)
  replace R10 := (congrFun hP.symm i10).trans ((updH_ne _ _ _ _ (by first | exact ne_i10_i11 | exact ne_i11_i10.symm)).trans R10)
  replace R11 : HP i11 = some (scRow (eval21 x r).2.1) := by rw [← hP, updH_same]; rfl
  clear hP
  simp only [go_sem, R11, R8, R10]
  clear R11
  refine acond_i (fun hb => ?_) (fun hb => ?_)
  · simp only [go_sem]
    refine wputE_n R8 (by simp) ?_
    simp only [go_sem]
    have e : progA x r now = (0, false, zeroSheet, (eval21 x r).2.2) := by unfold progA; rw [if_pos hb]
    rw [e]
    exact .refl _
  have he : (eval21 x r).2.2 = 0 := by simpa using hb
  have ea : progA x r now = ((progR x r now).1, (progR x r now).2, (eval21 x r).1, 0) := by unfold progA; rw [if_neg (by rw [hb]; simp)]
  rw [ea]
  obtain ⟨hty, hin, htl, hst⟩ := eval_facts h he
  obtain ⟨t, ht⟩ := getIn (show r.type.toNat < x.types.length by omega)
  have ep : progR x r now = progT x t r (eval21 x r).1 now := by unfold progR; rw [ht]
  rw [ep]
  generalize (eval21 x r).1 = s at *
  have b0 : 0 ≤ r.type ∧ r.type < (x.types.length : Int) := hty
  simp only [go_sem]
  refine adraw_q (by rfl) (by kernel_rfl) ?_
  simp only [go_sem, getD_map ht, b0]
  refine ⟨fun ρ H => ∃ k : Nat, k ≤ r.visits.length ∧ ρ 2 = int now ∧ ρ 3 = .rp (encInstance x) 0 ∧ ρ 8 = .op i8 0 0 ∧ ρ 10 = .op i10 0 0 ∧ ρ 41 = .sl (r.visits.map encVisit) ∧ ρ 42 = int r.visits.length ∧ ρ 43 = int k ∧ ρ 13 = int (readyK x t r s k) ∧ ρ 14 = int k ∧ H i8 = some (sheetRow (encSheet zeroSheet)) ∧ H i10 = some (sheetRow (encSheet s)) ∧ ∀ m, m < k → readyK x t r s m < now, fun ρ _ => r.visits.length - natOf (ρ 43),
    ⟨0, Nat.zero_le _, by simp only [go_sem], by simp only [go_sem], by simp only [go_sem], by simp only [go_sem], by simp only [go_sem], by simp only [go_sem, List.length_map], by simp only [go_sem]; rfl, by simp only [go_sem]; rfl, by simp only [go_sem]; rfl, R8, R10, by omega⟩, ?_⟩
  clear R8 R10
  rintro ρ H ⟨k, hk, h2, h3, h8, h10, h41, h42, h43, h13, h14, R8, R10, hz⟩
  simp only [go_sem, h2, h3, h8, h10, h41, h42, h43, h13, h14]
  refine acond_i (fun hlt => ?_) (fun hge => ?_)
  · have hlt := le_of_lt_b hlt
    obtain ⟨v, hv⟩ := getIn hlt
    have b1 := inB hlt
    simp only [go_sem, h2, h3, h8, h10, h41, h42, h43, h13, h14, getD_map hv, b1]
    refine anew_i fun i16 hi160 => ?_
    have ne_i8_i16 : i8 ≠ i16 := ne_new R8 hi160
    have ne_i10_i16 : i10 ≠ i16 := ne_new R10 hi160
    simp only [go_sem, h2, h3, h8, h10, h41, h42, h43, h13, h14, R8, R10]
    refine wputE_n (updH_same _ _ _) (by simp [encVisit_len]) ?_
    generalize hGi16 : updH (updH _ i16 _) i16 _ = HGi16
    replace R8 := (congrFun hGi16.symm i8).trans ((updH_ne _ _ _ _ ne_i8_i16).trans ((updH_ne _ _ _ _ ne_i8_i16).trans R8))
    replace R10 := (congrFun hGi16.symm i10).trans ((updH_ne _ _ _ _ ne_i10_i16).trans ((updH_ne _ _ _ _ ne_i10_i16).trans R10))
    have R16 : HGi16 i16 = some (visitRow v) := by rw [← hGi16, updH_same]; rfl
    clear hGi16 hi160
    simp only [go_sem, h2, h3, h8, h10, h41, h42, h43, h13, h14, R16, R8, R10]
    refine acond_i (fun hb2 => ?_) (fun hb2 => ?_)
    · simp only [go_sem, h2, h3, h8, h10, h41, h42, h43, h13, h14]
      refine adraw_p [i10] [(0, true), (1, true), (2, false), (3, false), (4, false), (5, false)] (by simp [R10]) (by kernel_rfl) fun Hp Hr hp hq _ _ => ?_
      have P10 := (hp i10 (by simp)).trans R10
      have Q8 := (hq i8 (by simp [ne_i8_i10])).trans R8
      simp only [go_sem, h8, h10, h14, P10]
      refine wputE_n Q8 (by simp [encSheet_len]) ?_
      simp only [go_sem]
      refine pinEnd_i fun _ Hm _ hm => ?_
      have S8 : Hm i8 = some (sheetRow (encSheet s)) := by rw [hm i8 (by simp [ne_i8_i10]), updH_same]; rfl
      have e := prog_hit hlt hz (by simpa using hb2)
      rw [e]
      simp only [go_sem, h8, S8, encSheet_all]
      exact .refl _
    · have hb2 : readyK x t r s k < now := by simpa using hb2
      have hov := hin v (List.mem_of_getElem? hv)
      have hs := (stop_true (hst v (List.mem_of_getElem? hv))).2
      obtain ⟨tm, htm⟩ := getIn (show k < s.times.length by omega)
      have b2 := inB (show k < s.times.length by omega)
      simp only [go_sem, h2, h3, h8, h10, h41, h42, h43, h13, h14, R16]
      refine PC.use (ostop_c x v) ?_
      simp only [go_sem, h2, h3, h8, h10, h41, h42, h43, h13, h14, R16]
      refine anew_i fun i17 hi170 => ?_
      have ne_i8_i17 : i8 ≠ i17 := ne_new R8 hi170
      have ne_i10_i17 : i10 ≠ i17 := ne_new R10 hi170
      simp only [go_sem, h2, h3, h8, h10, h41, h42, h43, h13, h14, R8, R10]
      refine wputE_n (updH_same _ _ _) (by simp [encStop_len]) ?_
      generalize hGi17 : updH (updH _ i17 _) i17 _ = HGi17
      replace R8 := (congrFun hGi17.symm i8).trans ((updH_ne _ _ _ _ ne_i8_i17).trans ((updH_ne _ _ _ _ ne_i8_i17).trans R8))
      replace R10 := (congrFun hGi17.symm i10).trans ((updH_ne _ _ _ _ ne_i10_i17).trans ((updH_ne _ _ _ _ ne_i10_i17).trans R10))
      have R17 : HGi17 i17 = some (⟨60, 4, [encStop (stopV x v).1]⟩) := by rw [← hGi17, updH_same]; rfl
      clear hGi17 hi170
      simp only [go_sem, h2, h3, h8, h10, h41, h42, h43, h13, h14, R17, R8, R10]
      refine adraw_p [i10, i17] [(0, true), (1, true), (2, true), (3, true), (4, true), (5, true), (6, true), (7, true), (8, true), (9, false)] (by simp [R10, R17]) (by kernel_rfl) fun Hp Hr hp hq _ _ => ?_
      have P10 := (hp i10 (by simp)).trans R10
      have P17 := (hp i17 (by simp)).trans R17
      simp only [go_sem, h2, h3, h8, h10, h41, h42, h43, h13, h14, P10, P17, getD_map htm, b2]
      refine pinEnd_i fun _ Hm hm1 hm2 => ?_
      have S8 := (hm2 i8 (by simp [ne_i8_i10, ne_i8_i17])).trans ((hq i8 (by simp [ne_i8_i10, ne_i8_i17])).trans R8)
      have S10 := (hm1 i10 (by simp)).trans R10
      have hw : IntKind.i64.wrap ((k : Int) + 1) = ((k + 1 : Nat) : Int) := by rw [wrap_in (by omega)]; omega
      simp only [go_sem, h2, h3, h8, h10, h41, h42, h43, h13, h14, wrapS (show k ≤ 4611686018427387904 by omega)]
      exact ⟨⟨k + 1, hlt, rfl, by rw [ready_succ hv htm]; rfl, rfl, S8, S10, fun m hm => by
        by_cases e : m = k
        · subst e; exact hb2
        · exact hz m (by omega)⟩, by simp only [natOf_int]; omega⟩
  · have hge := eq_of_ge_b hk hge
    subst hge
    simp only [go_sem, h2, h3, h8, h10, h41, h42, h43, h13, h14]
    refine adraw_p [i10] [(0, true), (1, true), (2, true), (3, true), (4, true), (5, true), (6, true), (7, true), (8, true), (9, false), (10, false), (11, false), (12, false)] (by simp [R10]) (by kernel_rfl) fun Hp Hr hp hq _ _ => ?_
    have P10 := (hp i10 (by simp)).trans R10
    have Q8 := (hq i8 (by simp [ne_i8_i10])).trans R8
    simp only [go_sem, h2, h8, h10, h13, h14, P10]
    refine wputE_n Q8 (by simp [encSheet_len]) ?_
    simp only [go_sem]
    refine pinEnd_i fun _ Hm _ hm => ?_
    have S8 : Hm i8 = some (sheetRow (encSheet s)) := by rw [hm i8 (by simp [ne_i8_i10]), updH_same]; rfl
    rw [prog_none hz]
    simp only [go_sem, h8, S8, encSheet_all]
    exact .refl _
def preR (x : Instance) (now : Int) (r : Route) : List Route := if decide (((progR x r now).1 : Int) > 0) = true then [begunP r (progR x r now).1 (progR x r now).2 (eval21 x r).1] else []
def badE (x : Instance) (r : Route) : Bool := (eval21 x r).2.2 != 0
def prefP (x : Instance) (p : Plan) (now : Int) : List Route × Int := if (!tickB now) = true then ([], 2) else match p.routes.find? (badE x) with
  | some r => ([], (eval21 x r).2.2)
  | none => (p.routes.flatMap (preR x now), 0)
abbrev routesRow (l : List Route) : Row := ⟨56, 4, l.map encRoute⟩
theorem pre_succ {x : Instance} {now : Int} {l : List Route} {k : Nat} {r : Route} (h : l[k]? = some r) : (l.take (k + 1)).flatMap (preR x now) = (l.take k).flatMap (preR x now) ++ preR x now r := by rw [take_succ h, List.flatMap_append]; simp
theorem pre_len (x : Instance) (now : Int) (l : List Route) : (l.flatMap (preR x now)).length ≤ l.length := by
  have := flat_le (f := preR x now) (c := 1) l fun r _ => by unfold preR; split <;> simp
  omega
theorem prog_le (x : Instance) (t : VType) (r : Route) (s : Sheet) (now : Int) : (progT x t r s now).1 ≤ r.visits.length := by
  unfold progT
  split
  · rename_i k hk
    have := List.mem_range.1 (List.mem_of_find?_eq_some hk)
    omega
  · exact Nat.le_refl _
theorem pa_bad {x : Instance} {r : Route} {now : Int} (h : badE x r = true) : progA x r now = (0, false, zeroSheet, (eval21 x r).2.2) := by unfold progA; rw [if_pos (show ((eval21 x r).2.2 != 0) = true from h)]
theorem pa_ok {x : Instance} {r : Route} {now : Int} (h : badE x r = false) : progA x r now = ((progR x r now).1, (progR x r now).2, (eval21 x r).1, 0) := by unfold progA; rw [if_neg (by rw [show ((eval21 x r).2.2 != 0) = false from h]; simp)]
theorem progR_le (x : Instance) (r : Route) (now : Int) : (progR x r now).1 ≤ r.visits.length := by
  unfold progR
  split
  · exact prog_le _ _ _ _ _
  · exact Nat.zero_le _
theorem prefixes_c (x : Instance) (p : Plan) (now : Int) (h : Acc x) (hp : p.routes.length ≤ 1048576) (hr : ∀ r ∈ p.routes, r.visits.length ≤ 1048575) :
    PC Tryz.prog 38 [.agg (encInstance x), .agg (encPlan p), int now] (.tup [.sl ((prefP x p now).1.map encRoute), int (prefP x p now).2]) := by
  refine PC.body (c := Tryz.f38.body.getD .skip) (fun t => t == 8) mixed Tryz.func38 rfl (by kernel_rfl) ?_
  unfold Tryz.f38
  simp only [Option.getD_some]
  simp only [go_sem]
  refine PC.use (tick_c now) ?_
  simp only [go_sem]
  refine acond_i (fun hb => ?_) (fun hb => ?_)
  · simp only [go_sem]
    have e : prefP x p now = ([], 2) := by unfold prefP; rw [if_pos hb]
    rw [e]
    exact .refl _
  simp only [go_sem]
  refine anew_i fun j8 hj8 => ?_
  simp only [go_sem]
  refine ⟨fun ρ H => ∃ (k j : Nat), k ≤ p.routes.length ∧ ρ 2 = int now ∧ ρ 3 = .rp (encInstance x) 0 ∧ ρ 19 = .sl (p.routes.map encRoute) ∧ ρ 20 = int p.routes.length ∧ ρ 21 = int k ∧ ρ 8 = .os j ∧ H j = some (routesRow ((p.routes.take k).flatMap (preR x now))) ∧ ∀ r ∈ p.routes.take k, badE x r = false, fun ρ _ => p.routes.length - natOf (ρ 21),
    ⟨0, j8, Nat.zero_le _, by simp only [go_sem], by simp only [go_sem], by simp only [go_sem], by simp only [go_sem, List.length_map], by simp only [go_sem]; rfl, by simp only [go_sem], updH_same _ _ _, by simp⟩, ?_⟩
  clear hj8
  rintro ρ H ⟨k, j, hk, h2, h3, h19, h20, h21, h8, R, hz⟩
  simp only [go_sem, h2, h3, h19, h20, h21, h8]
  refine acond_i (fun hlt => ?_) (fun hge => ?_)
  · have hlt := le_of_lt_b hlt
    obtain ⟨r, hrk⟩ := getIn hlt
    have b1 := inB hlt
    have hv := hr r (List.mem_of_getElem? hrk)
    have hlen := pre_len x now (p.routes.take k)
    have hlen2 : (p.routes.take k).length ≤ k := by simp; omega
    simp only [go_sem, h2, h3, h19, h20, h21, h8, getD_map hrk, b1]
    refine anew_i fun i10 hi100 => ?_
    have ne_j_i10 : j ≠ i10 := ne_new R hi100
    simp only [go_sem, h2, h3, h19, h20, h21, h8, R]
    refine wputE_n (updH_same _ _ _) (by simp [encRoute_len]) ?_
    generalize hGi10 : updH (updH _ i10 _) i10 _ = HGi10
    replace R := (congrFun hGi10.symm j).trans ((updH_ne _ _ _ _ ne_j_i10).trans ((updH_ne _ _ _ _ ne_j_i10).trans R))
    have R10 : HGi10 i10 = some (routeRow (encRoute r)) := by rw [← hGi10, updH_same]; rfl
    clear hGi10 hi100
    simp only [go_sem, h2, h3, h19, h20, h21, h8, R10, R]
    refine PC.use (progress_c x r now h hv) ?_
    simp only [go_sem, h2, h3, h19, h20, h21, h8]
    refine anew_i fun i13 hi130 => ?_
    have ne_j_i13 : j ≠ i13 := ne_new R hi130
    have ne_i10_i13 : i10 ≠ i13 := ne_new R10 hi130
    simp only [go_sem, h2, h3, h19, h20, h21, h8, R, R10]
    refine wputE_n (updH_same _ _ _) (by simp [encSheet_len]) ?_
    generalize hGi13 : updH (updH _ i13 _) i13 _ = HGi13
    replace R := (congrFun hGi13.symm j).trans ((updH_ne _ _ _ _ ne_j_i13).trans ((updH_ne _ _ _ _ ne_j_i13).trans R))
    replace R10 := (congrFun hGi13.symm i10).trans ((updH_ne _ _ _ _ ne_i10_i13).trans ((updH_ne _ _ _ _ ne_i10_i13).trans R10))
    have R13 : HGi13 i13 = some (sheetRow (encSheet (progA x r now).2.2.1)) := by rw [← hGi13, updH_same]; rfl
    clear hGi13 hi130
    simp only [go_sem, h2, h3, h19, h20, h21, h8, R13, R, R10]
    refine acond_i (fun hb2 => ?_) (fun hb2 => ?_)
    · simp only [go_sem]
      have hE : badE x r = true := by
        cases hE : badE x r with
        | true => rfl
        | false => rw [pa_ok hE] at hb2; simp at hb2
      have e : prefP x p now = ([], (eval21 x r).2.2) := by unfold prefP; rw [if_neg (by rw [hb]; simp), find_hit hz hrk hE]
      rw [e, pa_bad hE]
      exact .refl _
    · have hE : badE x r = false := by
        cases hE : badE x r with
        | false => rfl
        | true =>
          rw [pa_bad hE] at hb2
          have h1 : ((eval21 x r).2.2 != 0) = true := hE
          have h2 : ((eval21 x r).2.2 != 0) = false := hb2
          rw [h1] at h2; cases h2
      have ea := pa_ok (now := now) hE
      obtain ⟨_, _, htl, _⟩ := eval_facts h (show (eval21 x r).2.2 = 0 by simpa [badE] using hE)
      rw [ea] at R13 ⊢
      simp only [go_sem, h2, h3, h19, h20, h21, h8]
      refine acond_i (fun hb3 => ?_) (fun hb3 => ?_)
      · simp only [go_sem, h2, h3, h19, h20, h21, h8, R10, R13]
        refine PC.use (begun_c r _ _ _ (by omega) (progR_le x r now) htl) ?_
        simp only [go_sem, h2, h3, h19, h20, h21, h8]
        refine wappE_i R ⟨rfl, rfl⟩ ⟨encRoute_len _, trivial⟩ (by simp only [List.length_map, List.length_cons, List.length_nil]; omega) (fun j' hj' => ?_)
        simp only [go_sem, h2, h3, h19, h20, h21, h8, wrapS (show k ≤ 4611686018427387904 by omega)]
        refine ⟨⟨k + 1, j', hlt, rfl, rfl, ?_, take_allP (p := fun r => badE x r = false) hrk hE hz⟩, by simp only [natOf_int]; omega⟩
        rw [pre_succ hrk, show preR x now r = [begunP r (progR x r now).1 (progR x r now).2 (eval21 x r).1] from if_pos hb3]
        exact row_appG (l' := [begunP r (progR x r now).1 (progR x r now).2 (eval21 x r).1]) rfl
      · simp only [go_sem, h2, h3, h19, h20, h21, h8, wrapS (show k ≤ 4611686018427387904 by omega)]
        refine ⟨⟨k + 1, j, hlt, rfl, rfl, ?_, take_allP (p := fun r => badE x r = false) hrk hE hz⟩, by simp only [natOf_int]; omega⟩
        rw [pre_succ hrk, show preR x now r = [] from if_neg (by rw [hb3]; simp), List.append_nil]
        exact R
  · have hge := eq_of_ge_b hk hge
    subst hge
    rw [List.take_length] at R hz
    simp only [go_sem, h8]
    have e : prefP x p now = (p.routes.flatMap (preR x now), 0) := by unfold prefP; rw [if_neg (by rw [hb]; simp), find_miss hz]
    rw [e]
    exact .tup _ _ (.cons _ _ _ _ (.row _ _ _ R (ConvE.refl _)) (ConvL.refl _))
end Go.Proofs.YtbefdpmjpioijaaGreatDoor.Sq
