/- drive: plan, begin, place, next; drive: next -/
import Derived.Test.YtbefdpmjpioijaaGreatDoorAuF
import Derived.Test.YtbefdpmjpioijaaGreatDoorAuC
import Derived.Test.YtbefdpmjpioijaaGreatDoorDrA
set_option linter.unusedSimpArgs false
set_option linter.unusedVariables false
namespace Go.Proofs.YtbefdpmjpioijaaGreatDoor.Sq
open Go.Aw Go.Aw.D Go.Proofs Ty
open Mv (convI convB convA NC.pc take_allP)
set_option maxRecDepth 100000

def encLab (l : Lab) : List AV := [int l.ready, int l.since, boo l.sheet.rest, int l.sheet.depart, .sl (l.sheet.times.map encTm), int l.sheet.end_, int l.sheet.miles]
theorem encLab_len (l : Lab) : (encLab l).length = 7 := (rfl)
theorem encLab_0 (l : Lab) : (encLab l).getD 0 .any = int l.ready := (rfl)
theorem encLab_1 (l : Lab) : (encLab l).getD 1 .any = int l.since := (rfl)
theorem encLab_4 (l : Lab) : (encLab l).getD 4 .any = .sl (l.sheet.times.map encTm) := (rfl)
theorem encLab_5 (l : Lab) : (encLab l).getD 5 .any = int l.sheet.end_ := (rfl)
theorem encLab_s (l : Lab) : ((encLab l).drop 2).take 5 = encSheet l.sheet := (rfl)
theorem encLab_all (l : Lab) : (encLab l).take 7 = encLab l := (rfl)
def encTrip (x : Instance) (t : VType) (r : Route) (st : List Stop) : List AV := encInstance x ++ (encVType t ++ (encRoute r ++ [.sl (st.map encStop)]))
section
variable (x : Instance) (t : VType) (r : Route) (st : List Stop)
theorem encTrip_len : (encTrip x t r st).length = 25 := (rfl)
theorem encTrip_8 : (encTrip x t r st).getD 8 .any = int t.src := (rfl)
theorem encTrip_9 : (encTrip x t r st).getD 9 .any = int t.dst := (rfl)
theorem encTrip_12 : (encTrip x t r st).getD 12 .any = int t.profile := (rfl)
theorem encTrip_13 : (encTrip x t r st).getD 13 .any = int t.start := (rfl)
theorem encTrip_14 : (encTrip x t r st).getD 14 .any = int t.close := (rfl)
theorem encTrip_15 : (encTrip x t r st).getD 15 .any = int t.drive := (rfl)
theorem encTrip_16 : (encTrip x t r st).getD 16 .any = int t.rest := (rfl)
theorem encTrip_21 : (encTrip x t r st).getD 21 .any = int r.start := (rfl)
theorem encTrip_22 : (encTrip x t r st).getD 22 .any = .sl (r.rests.map encBool) := (rfl)
theorem encTrip_24 : (encTrip x t r st).getD 24 .any = .sl (st.map encStop) := (rfl)
theorem encTrip_net : (encTrip x t r st).take 2 = encNetwork x.net := (rfl)
theorem encTrip_all : (encTrip x t r st).take 25 = encTrip x t r st := (rfl)
end
attribute [go_sem] encLab_len encLab_0 encLab_1 encLab_4 encLab_5 encLab_s encLab_all encTrip_len encTrip_8 encTrip_9 encTrip_12 encTrip_13 encTrip_14 encTrip_15 encTrip_16 encTrip_21 encTrip_22 encTrip_24 encTrip_net encTrip_all
def zeroLab : Lab := ⟨0, 0, zeroSheet⟩
abbrev labRow (cs : List AV) : Row := ⟨148, 7, [cs]⟩
def placeP (t : VType) (st : List Stop) (k : Nat) : Int := match k with
  | 0 => t.src
  | j + 1 => (st.getD j zeroStop).place
theorem tbegin_c (x : Instance) (t : VType) (r : Route) (st : List Stop) : PC Tryz.prog 92 [.agg (encTrip x t r st)] (.agg (encLab (lab0 t r))) := by
  refine PC.body (c := Tryz.f92.body.getD .skip) (fun _ => false) mixed Tryz.func92 rfl (by kernel_rfl) ?_
  unfold Tryz.f92
  simp only [Option.getD_some]
  simp only [go_sem]
  refine anew_i fun i2 hi20 => ?_
  generalize hGi2 : updH _ i2 _ = HGi2
  have R2 : HGi2 i2 = some (labRow (encLab zeroLab)) := by rw [← hGi2, updH_same]; rfl
  clear hGi2 hi20
  simp only [go_sem, R2]
  refine wputE_n R2 (by simp) ?_
  simp only [go_sem]
  exact .refl _
theorem tplace_c (x : Instance) (t : VType) (r : Route) (st : List Stop) (k : Nat) (hk : k ≤ st.length) (hl : st.length ≤ 1048576) : PC Tryz.prog 151 [.agg (encTrip x t r st), int k] (int (placeP t st k)) := by
  refine PC.body (c := Tryz.f151.body.getD .skip) (fun _ => false) mixed Tryz.func151 rfl (by kernel_rfl) ?_
  unfold Tryz.f151
  simp only [Option.getD_some]
  simp only [go_sem]
  refine acond_i (fun hb => ?_) (fun hb => ?_)
  · have : k = 0 := by simp at hb; exact hb
    subst this
    simp only [go_sem]
    exact .refl _
  · obtain ⟨j, rfl⟩ : ∃ j, k = j + 1 := ⟨k - 1, by simp at hb; omega⟩
    obtain ⟨s, hs⟩ := getIn (show j < st.length by omega)
    have w : IntKind.i64.wrap (((j + 1 : Nat) : Int) - 1) = (j : Int) := by rw [wrap_in (by omega)]; omega
    have b1 := inB (show j < st.length by omega)
    simp only [go_sem, w, getD_map hs, b1]
    exact convI (by unfold placeP; simp [List.getD, hs])
theorem tms_all : ∀ l : List Tm, allLen 4 (l.map encTm)
  | [] => trivial
  | _ :: r => ⟨rfl, tms_all r⟩
theorem cloneT_c (l : List Tm) (hl : l.length ≤ 1048576) : NC Tryz.prog 149 [.sl (l.map encTm)] (tmRow l) .os := by
  refine NC.body (c := Tryz.f149.body.getD .skip) (fun t => t == 2 || t == 5) mixed Tryz.func149 rfl (by kernel_rfl) ?_
  unfold Tryz.f149
  simp only [Option.getD_some]
  simp only [go_sem]
  refine anew_i fun j hj => ?_
  have R := updH_same noRows j (some (tmRow []))
  generalize updH noRows j _ = H at R ⊢
  simp only [go_sem]
  refine ⟨fun hn => ?_, ?_⟩
  · refine acond_i (fun _ => ?_) (fun hb => by simp at hb)
    simp only [go_sem]
    refine anew_i fun i hi => ?_
    simp only [go_sem]
    refine ⟨i, rfl, ?_⟩
    rw [updH_same, List.map_eq_nil_iff.1 hn]; rfl
  · refine acond_i (fun hb => by simp at hb) (fun _ => ?_)
    simp only [go_sem]
    refine anew_i fun i hi => ?_
    simp only [go_sem]
    refine wappE_i (updH_same _ _ _) ⟨rfl, rfl⟩ (tms_all _) (by simp only [List.length_map, List.length_nil]; omega) (fun j' hj' => ?_)
    simp only [go_sem]
    refine ⟨j', rfl, ?_⟩
    exact updH_same _ _ _
def stepP (x : Instance) (t : VType) (st : List Stop) (k : Nat) (l : Lab) (b : Bool) : Except Int Lab := match st[k]? with
  | some s => nextV x t (placeP t st k) s k l b
  | none => nextE x t (placeP t st k) k l b
def labOf (e : Except Int Lab) : Lab := match e with | .ok l => l | .error _ => zeroLab
/-! ### plan -/
def zeroInst : Instance := ⟨⟨[], []⟩, [], [], [], []⟩
def zeroVT : VType := ⟨ByteArray.empty, 0, 0, 0, [], 0, 0, 0, 0, 0, 0, 0, 0, 0⟩
def zeroRt : Route := ⟨0, 0, [], []⟩
abbrev tripRow (cs : List AV) : Row := ⟨144, 25, [cs]⟩
def stopsL (x : Instance) (l : List Visit) : List Stop := l.map fun v => (stop18 x v).1
def planR (x : Instance) (r : Route) : List AV × Bool := if possible18 x r = true then match x.types[r.type.toNat]? with
  | some t => (encTrip x t r (stopsL x r.visits), true)
  | none => (encTrip zeroInst zeroVT zeroRt [], false)
  else (encTrip zeroInst zeroVT zeroRt [], false)
def tripO (x : Instance) (t : VType) (r : Route) (j : Nat) : List AV := encInstance x ++ (encVType t ++ (encRoute r ++ [.os j]))
theorem tk1 {x : Instance} {l : List AV} : (encInstance x ++ l).take 6 = encInstance x := (rfl)
theorem dr1 {x : Instance} {l : List AV} : (encInstance x ++ l).drop 20 = l.drop 14 := (rfl)
theorem tk2 {x : Instance} {t : VType} {l : List AV} : (encInstance x ++ encVType t ++ l).take 20 = encInstance x ++ encVType t := (rfl)
theorem dr2 {x : Instance} {t : VType} {l : List AV} : (encInstance x ++ encVType t ++ l).drop 24 = l.drop 4 := (rfl)
abbrev stopsRow (l : List Stop) : Row := ⟨60, 4, l.map encStop⟩
theorem tripO_24 (x : Instance) (t : VType) (r : Route) (j : Nat) : (tripO x t r j).getD 24 .any = .os j := (rfl)
theorem tripO_all (x : Instance) (t : VType) (r : Route) (j : Nat) : (tripO x t r j).take 25 = tripO x t r j := (rfl)
theorem tripO_len (x : Instance) (t : VType) (r : Route) (j : Nat) : (tripO x t r j).length = 25 := (rfl)
attribute [go_sem] tripO_24 tripO_all tripO_len
theorem convL_app {H : Heap} {l l' : List AV} (h : ConvL H l l') : ∀ p : List AV, ConvL H (p ++ l) (p ++ l')
  | [] => h
  | a :: p => .cons a a _ _ (.refl a) (convL_app h p)
theorem conv_trip {H : Heap} {x : Instance} {t : VType} {r : Route} {js : Nat} {st : List Stop} (R : H js = some (stopsRow st)) : ConvL H (tripO x t r js) (encTrip x t r st) :=
  convL_app (convL_app (convL_app (.cons _ _ _ _ (.row _ _ _ R (ConvE.refl _)) .nil) _) _) _
theorem stop_true {x : Instance} {v : Visit} (h : (stop18 x v).2 = true) : 0 ≤ (stop18 x v).1.place ∧ stopV x v = ((stop18 x v).1, 0) := by
  refine ⟨?_, by unfold stopV; rw [if_pos h]⟩
  unfold stop18 at h ⊢
  split at h
  · cases h
  · rename_i hb
    rw [if_neg hb]
    split at h
    · rename_i o ho
      simpa using h
    · cases h
theorem stop_false {x : Instance} {v : Visit} (h : (stop18 x v).2 = false) : ((stopV x v).2 != 0) = true := by
  unfold stopV
  rw [if_neg (by rw [h]; simp)]
  show ((if badNo v.order x.orders.length = true then (2 : Int) else 19) != 0) = true
  split <;> rfl
theorem plan_c (x : Instance) (r : Route) (hl : r.visits.length ≤ 1048576) : PC Tryz.prog 91 [.agg (encInstance x), .agg (encRoute r)] (.tup [.agg (planR x r).1, boo (planR x r).2]) := by
  refine PC.body (c := Tryz.f91.body.getD .skip) (fun t => t == 47) mixed Tryz.func91 rfl (by kernel_rfl) ?_
  unfold Tryz.f91
  simp only [Option.getD_some]
  simp only [go_sem]
  refine anew_i fun i4 hi40 => ?_
  generalize hGi4 : updH _ i4 _ = HGi4
  have R4 : HGi4 i4 = some (tripRow (encTrip zeroInst zeroVT zeroRt [])) := by rw [← hGi4, updH_same]; rfl
  clear hGi4 hi40
  simp only [go_sem, R4]
  refine acond_i (fun h1 => ?_) (fun h1 => ?_)
  · have hp : possible18 x r = false := by unfold possible18; rw [show (badNo r.type x.types.length || decide (r.start < 0) || decide (r.start > 4096) || decide ((r.visits.length : Int) > 20)) = true from h1]; rfl
    have e : planR x r = (encTrip zeroInst zeroVT zeroRt [], false) := by unfold planR; rw [if_neg (by rw [hp]; simp)]
    rw [e]
    simp only [go_sem]
    refine wputE_n R4 (by simp) ?_
    simp only [go_sem]
    exact .refl _
  have hp : possible18 x r = r.visits.all fun v => (stop18 x v).2 := by unfold possible18; rw [show (badNo r.type x.types.length || decide (r.start < 0) || decide (r.start > 4096) || decide ((r.visits.length : Int) > 20)) = false from h1]; rfl
  have hty : 0 ≤ r.type ∧ r.type < (x.types.length : Int) := by
    simp only [Bool.or_eq_false_iff, decide_eq_false_iff_not] at h1; omega
  have hvl : r.visits.length ≤ 20 := by
    simp only [Bool.or_eq_false_iff, decide_eq_false_iff_not] at h1; omega
  obtain ⟨t, ht⟩ := getIn (show r.type.toNat < x.types.length by omega)
  simp only [go_sem]
  refine adraw_m [(0, true), (1, true), (2, true), (3, true), (4, true), (5, true), (6, true), (7, true), (8, true), (9, false), (10, false)] (by kernel_rfl) ?_
  simp only [go_sem, getD_map ht, hty, List.length_append, tk1, dr1, tk2, dr2]
  refine anew_i fun i6 hi60 => ?_
  have ne_i4_i6 : i4 ≠ i6 := ne_new R4 hi60
  generalize hGi6 : updH _ i6 _ = HGi6
  replace R4 := (congrFun hGi6.symm i4).trans ((updH_ne _ _ _ _ ne_i4_i6).trans R4)
  have R6 : HGi6 i6 = some (tripRow (encTrip zeroInst zeroVT zeroRt [])) := by rw [← hGi6, updH_same]; rfl
  clear hGi6 hi60
  simp only [go_sem, R6, R4]
  refine wputE_nil 24 60 4 ⟨rfl, by decide⟩ R6 ⟨by simp, rfl, Nat.le_refl _⟩ fun js hjs => ?_
  have ne_i6_js : i6 ≠ js := ne_new R6 hjs
  have ne_i4_js : i4 ≠ js := ne_new R4 hjs
  generalize hG : updH (updH HGi6 js _) i6 _ = HG
  replace R4 := (congrFun hG.symm i4).trans ((updH_ne _ _ _ _ ne_i4_i6).trans ((updH_ne _ _ _ _ ne_i4_js).trans R4))
  have Rs : HG js = some (stopsRow []) := by rw [← hG, updH_ne _ _ _ _ ne_i6_js.symm, updH_same]; rfl
  replace R6 : HG i6 = some (tripRow (tripO x t r js)) := by rw [← hG, updH_same]; rfl
  clear hG hjs
  simp only [go_sem]
  refine ⟨fun ρ H => ∃ k : Nat, k ≤ r.visits.length ∧ ρ 2 = .rp (encInstance x) 0 ∧ ρ 4 = .op i4 0 0 ∧ ρ 6 = .op i6 0 0 ∧ ρ 49 = .sl (r.visits.map encVisit) ∧ ρ 50 = int r.visits.length ∧ ρ 51 = int k ∧ H i4 = some (tripRow (encTrip zeroInst zeroVT zeroRt [])) ∧ (∃ js, H i6 = some (tripRow (tripO x t r js)) ∧ H js = some (stopsRow (stopsL x (r.visits.take k)))) ∧ ∀ v ∈ r.visits.take k, (stop18 x v).2 = true, fun ρ _ => r.visits.length - natOf (ρ 51), ⟨0, Nat.zero_le _, by simp only [go_sem], by simp only [go_sem], by simp only [go_sem], by simp only [go_sem], by simp only [go_sem, List.length_map], by simp only [go_sem]; rfl, R4, ⟨js, R6, Rs⟩, by simp⟩, ?_⟩
  clear R4 R6 Rs ne_i6_js ne_i4_js js
  rintro ρ H ⟨k, hk, h2, h4, h6, h49, h50, h51, R4, ⟨js, R6, Rs⟩, hz⟩
  have ne_js_i6 : js ≠ i6 := row_ne Rs R6 (by rfl)
  have ne_js_i4 : js ≠ i4 := row_ne Rs R4 (by rfl)
  simp only [go_sem, h2, h4, h6, h49, h50, h51]
  refine acond_i (fun hlt => ?_) (fun hge => ?_)
  · have hlt := le_of_lt_b hlt
    obtain ⟨v, hv⟩ := getIn hlt
    have b1 := inB hlt
    simp only [go_sem, h2, h4, h6, h49, h50, h51, getD_map hv, b1]
    refine anew_i fun i8 hi80 => ?_
    have ne_i4_i8 : i4 ≠ i8 := ne_new R4 hi80
    have ne_i6_i8 : i6 ≠ i8 := ne_new R6 hi80
    have ne_js_i8 : js ≠ i8 := ne_new Rs hi80
    simp only [go_sem, h2, h4, h6, h49, h50, h51, R4, R6, Rs]
    refine wputE_n (updH_same _ _ _) (by simp [encVisit_len]) ?_
    generalize hGi8 : updH (updH _ i8 _) i8 _ = HGi8
    replace R4 := (congrFun hGi8.symm i4).trans ((updH_ne _ _ _ _ ne_i4_i8).trans ((updH_ne _ _ _ _ ne_i4_i8).trans R4))
    replace R6 := (congrFun hGi8.symm i6).trans ((updH_ne _ _ _ _ ne_i6_i8).trans ((updH_ne _ _ _ _ ne_i6_i8).trans R6))
    replace Rs := (congrFun hGi8.symm js).trans ((updH_ne _ _ _ _ ne_js_i8).trans ((updH_ne _ _ _ _ ne_js_i8).trans Rs))
    have R8 : HGi8 i8 = some (⟨95, 2, [encVisit v]⟩) := by rw [← hGi8, updH_same]; rfl
    clear hGi8 hi80
    simp only [go_sem, h2, h4, h6, h49, h50, h51, R8, R4, R6, Rs]
    refine PC.use (ostop_c x v) ?_
    simp only [go_sem, h2, h4, h6, h49, h50, h51]
    refine anew_i fun i9 hi90 => ?_
    have ne_i4_i9 : i4 ≠ i9 := ne_new R4 hi90
    have ne_i6_i9 : i6 ≠ i9 := ne_new R6 hi90
    have ne_js_i9 : js ≠ i9 := ne_new Rs hi90
    simp only [go_sem, h2, h4, h6, h49, h50, h51, R4, R6, Rs]
    refine wputE_n (updH_same _ _ _) (by simp [encStop_len]) ?_
    generalize hGi9 : updH (updH _ i9 _) i9 _ = HGi9
    replace R4 := (congrFun hGi9.symm i4).trans ((updH_ne _ _ _ _ ne_i4_i9).trans ((updH_ne _ _ _ _ ne_i4_i9).trans R4))
    replace R6 := (congrFun hGi9.symm i6).trans ((updH_ne _ _ _ _ ne_i6_i9).trans ((updH_ne _ _ _ _ ne_i6_i9).trans R6))
    replace Rs := (congrFun hGi9.symm js).trans ((updH_ne _ _ _ _ ne_js_i9).trans ((updH_ne _ _ _ _ ne_js_i9).trans Rs))
    have R9 : HGi9 i9 = some (stopRow (stopV x v).1) := by rw [← hGi9, updH_same]; rfl
    clear hGi9 hi90
    simp only [go_sem, h2, h4, h6, h49, h50, h51, R9, R4, R6, Rs]
    cases hst : (stop18 x v).2 with
    | false =>
      have hne := stop_false hst
      refine acond_i (fun _ => ?_) (fun hb => by rw [hne] at hb; simp at hb)
      simp only [go_sem, h4]
      refine wputE_n R4 (by simp) ?_
      simp only [go_sem, h4]
      have e : planR x r = (encTrip zeroInst zeroVT zeroRt [], false) := by unfold planR; rw [if_neg (by rw [hp, all_hit hv hst]; simp)]
      rw [e]
      exact .refl _
    | true =>
      obtain ⟨hpl, hsv⟩ := stop_true hst
      rw [hsv] at R9 ⊢
      refine acond_i (fun hb => by simp at hb; omega) (fun _ => ?_)
      simp only [go_sem, h2, h4, h6, h49, h50, h51, R6, R9]
      refine wappE_i Rs ⟨rfl, rfl⟩ ⟨rfl, trivial⟩ (by simp [stopsL]; omega) (fun j' hj' => ?_)
      have ne_i6_j' : i6 ≠ j' := ne_new R6 hj'
      have ne_i4_j' : i4 ≠ j' := ne_new R4 hj'
      replace R4 := keep_app (r' := ⟨60, 4, List.map encStop (stopsL x (r.visits.take k)) ++ [encStop (stop18 x v).1]⟩) R4 ne_js_i4 hj'
      replace R6 := keep_app (r' := ⟨60, 4, List.map encStop (stopsL x (r.visits.take k)) ++ [encStop (stop18 x v).1]⟩) R6 ne_js_i6 hj'
      have Rs' : updH (updH HGi9 js none) j' (some (⟨60, 4, List.map encStop (stopsL x (r.visits.take k)) ++ [encStop (stop18 x v).1]⟩ : Row)) j' = some (stopsRow (stopsL x (r.visits.take (k + 1)))) := by
        rw [take_succ hv]
        unfold stopsL
        rw [List.map_append]
        exact row_appG (l' := [(stop18 x v).1]) rfl
      simp only [go_sem, h2, h4, h6, h49, h50, h51]
      refine wputE_1 so142 R6 ⟨by simp, rfl, by simp⟩ ?_
      simp only [go_sem, h2, h4, h6, h49, h50, h51, wrapS (show k ≤ 4611686018427387904 by omega)]
      exact ⟨⟨k + 1, hlt, rfl, (updH_ne _ _ _ _ ne_i4_i6).trans R4, ⟨j', rfl, (updH_ne _ _ _ _ ne_i6_j'.symm).trans Rs'⟩, take_allP (p := fun v => (stop18 x v).2 = true) hv hst hz⟩, by simp only [natOf_int]; omega⟩
  · have hge := eq_of_ge_b hk hge
    subst hge
    rw [List.take_length] at hz Rs
    simp only [go_sem, h4, h6, R6]
    refine wputE_n R4 ⟨by simp, rfl, Nat.le_refl _⟩ ?_
    simp only [go_sem, h4]
    have e : planR x r = (encTrip x t r (stopsL x r.visits), true) := by unfold planR; rw [if_pos (by rw [hp]; exact List.all_eq_true.2 hz), ht]
    rw [e]
    exact .tup [.agg (tripO x t r js), boo true] _ (.cons _ _ _ _ (.agg _ _ (conv_trip ((updH_ne _ _ _ _ ne_js_i4).trans Rs))) (ConvL.refl _))

def cellsL (rdy sin : Int) (sd : Sheet) (j : Nat) : List AV := [int rdy, int sin, boo sd.rest, int sd.depart, .os j, int sd.end_, int sd.miles]
theorem cellsL_len (a b s j) : (cellsL a b s j).length = 7 := (rfl)
theorem cellsL_0 (a b s j) : (cellsL a b s j).getD 0 .any = int a := (rfl)
theorem cellsL_1 (a b s j) : (cellsL a b s j).getD 1 .any = int b := (rfl)
theorem cellsL_4 (a b s j) : (cellsL a b s j).getD 4 .any = .os j := (rfl)
theorem cellsL_6 (a b s j) : (cellsL a b s j).getD 6 .any = int s.miles := (rfl)
theorem cellsL_all (a b s j) : (cellsL a b s j).take 7 = cellsL a b s j := (rfl)
attribute [go_sem] cellsL_len cellsL_0 cellsL_1 cellsL_4 cellsL_6 cellsL_all
theorem conv_lab {H : Heap} {j : Nat} {l : Lab} (R : H j = some (tmRow l.sheet.times)) : ConvL H (cellsL l.ready l.since l.sheet j) (encLab l) :=
  .cons _ _ _ _ (.refl _) (.cons _ _ _ _ (.refl _) (.cons _ _ _ _ (.refl _) (.cons _ _ _ _ (.refl _) (.cons _ _ _ _ (.row _ _ _ R (ConvE.refl _)) (ConvL.refl _)))))
theorem tm_rest {l : List Tm} {j : Nat} {tm : Tm} (h : l[j]? = some tm) (b : Bool) : (l.map encTm).set j (setAt ((l.map encTm).getD j []) 3 [boo b]) = (l.set j ⟨tm.arrive, tm.begin_, tm.depart, b⟩).map encTm := by
  rw [getD_map h, List.map_set]; rfl
theorem tm_dep {l : List Tm} {j : Nat} {tm : Tm} (h : l[j]? = some tm) (d : Int) : (l.map encTm).set j (setAt ((l.map encTm).getD j []) 2 [int d]) = (l.set j ⟨tm.arrive, tm.begin_, d, tm.rest⟩).map encTm := by
  rw [getD_map h, List.map_set]; rfl
theorem next_c (x : Instance) (t : VType) (r : Route) (st : List Stop) (l : Lab) (k : Nat) (b : Bool) (hn : NetOk x.net) (hst : st.length ≤ 1048576) (hk : k ≤ st.length) (hl : l.sheet.times.length = k) :
    PC Tryz.prog 128 [.agg (encTrip x t r st), .agg (encLab l), int k, boo b] (.tup [.agg (encLab (labOf (stepP x t st k l b))), int (errD (stepP x t st k l b))]) := by
  refine PC.body (c := Tryz.f128.body.getD .skip) (fun _ => false) mixed Tryz.func128 rfl (by kernel_rfl) ?_
  unfold Tryz.f128
  simp only [Option.getD_some]
  simp only [go_sem]
  refine anew_i fun i8 hi80 => ?_
  generalize hGi8 : updH _ i8 _ = HGi8
  have R8 : HGi8 i8 = some (labRow (encLab zeroLab)) := by rw [← hGi8, updH_same]; rfl
  clear hGi8 hi80
  simp only [go_sem, R8]
  refine adraw_q (by rfl) (by kernel_rfl) ?_
  simp only [go_sem]
  refine acond_join (fun ρ' H' => ρ' 2 = int k ∧ ρ' 3 = boo b ∧ ρ' 4 = .rp (encTrip x t r st) 0 ∧ ρ' 5 = .rp (encLab l) 0 ∧ ρ' 8 = .op i8 0 0 ∧ ρ' 10 = int (depL t l b) ∧ ρ' 11 = int (sinL l b) ∧ H' i8 = some (labRow (encLab zeroLab))) ?_ fun K hK => acond_i (fun hb => ?_) (fun hb => ?_)
  rotate_left
  · simp only [go_sem]
    exact hK _ _ ⟨by simp only [go_sem], by simp only [go_sem], by simp only [go_sem], by simp only [go_sem], by simp only [go_sem], by simp only [go_sem]; unfold depL; rw [if_pos hb]; rfl, by simp only [go_sem]; unfold sinL; rw [if_pos hb], R8⟩
  · simp only [go_sem]
    exact hK _ _ ⟨by simp only [go_sem], by simp only [go_sem], by simp only [go_sem], by simp only [go_sem], by simp only [go_sem], by simp only [go_sem]; unfold depL; rw [if_neg (by rw [hb]; simp)], by simp only [go_sem]; unfold sinL; rw [if_neg (by rw [hb]; simp)], R8⟩
  clear R8
  rintro ρ H ⟨h2, h3, h4, h5, h8, h10, h11, R8⟩
  simp only [go_sem, h2, h3, h4, h5, h8, h10, h11]
  refine anew_i fun i12 hi120 => ?_
  have ne_i8_i12 : i8 ≠ i12 := ne_new R8 hi120
  simp only [go_sem, h2, h3, h4, h5, h8, h10, h11, R8]
  refine wputE_n (updH_same _ _ _) (by simp [encSheet_len]) ?_
  generalize hGi12 : updH (updH _ i12 _) i12 _ = HGi12
  replace R8 := (congrFun hGi12.symm i8).trans ((updH_ne _ _ _ _ ne_i8_i12).trans ((updH_ne _ _ _ _ ne_i8_i12).trans R8))
  have R12 : HGi12 i12 = some (labRow ([int 0, int 0] ++ encSheet l.sheet)) := by rw [← hGi12, updH_same]; rfl
  clear hGi12 hi120
  simp only [go_sem, h2, h3, h4, h5, h8, h10, h11, R12, R8]
  refine NC.use (cloneT_c l.sheet.times (by omega)) fun jt hjt => ?_
  have ne_i8_jt : i8 ≠ jt := ne_new R8 hjt
  have ne_i12_jt : i12 ≠ jt := ne_new R12 hjt
  generalize hG : updH HGi12 jt _ = HG
  replace R8 := (congrFun hG.symm i8).trans ((updH_ne _ _ _ _ ne_i8_jt).trans R8)
  replace R12 := (congrFun hG.symm i12).trans ((updH_ne _ _ _ _ ne_i12_jt).trans R12)
  have Rt : HG jt = some (tmRow l.sheet.times) := by rw [← hG, updH_same]
  clear hG hjt
  simp only [go_sem, h2, h3, h4, h5, h8, h10, h11, R12]
  refine wputE_1 so87 R12 ⟨by simp, rfl, by simp⟩ ?_
  generalize hP : updH _ i12 _ = HP
  replace R8 := (congrFun hP.symm i8).trans ((updH_ne _ _ _ _ (by first | exact ne_i8_i12 | exact ne_i12_i8.symm)).trans R8)
  replace Rt := (congrFun hP.symm jt).trans ((updH_ne _ _ _ _ (by first | exact ne_jt_i12 | exact ne_i12_jt.symm)).trans Rt)
  replace R12 : HP i12 = some (labRow (cellsL 0 0 l.sheet jt)) := by rw [← hP, updH_same]; rfl
  clear hP
  simp only [go_sem, h2, h3, h4, h5, h8, h10, h11, R12, R8, Rt]
  refine acond_join (fun ρ' H' => ρ' 2 = int k ∧ ρ' 4 = .rp (encTrip x t r st) 0 ∧ ρ' 8 = .op i8 0 0 ∧ ρ' 10 = int (depL t l b) ∧ ρ' 11 = int (sinL l b) ∧ ρ' 12 = .op i12 0 0 ∧ H' i8 = some (labRow (encLab zeroLab)) ∧ H' i12 = some (labRow (cellsL 0 0 (setDep l.sheet k b (depL t l b)) jt)) ∧ H' jt = some (tmRow (setDep l.sheet k b (depL t l b)).times)) ?_ fun K hK => acond_i (fun hb => ?_) (fun hb => ?_)
  rotate_left
  · have h0 : k = 0 := by simp at hb; exact hb
    subst h0
    simp only [go_sem, h2, h3, h4, h5, h8, h10, h11, R12]
    refine wputE_1 so4 R12 ⟨by simp, rfl, by simp⟩ ?_
    generalize hP : updH _ i12 _ = HP
    replace R8 := (congrFun hP.symm i8).trans ((updH_ne _ _ _ _ (by first | exact ne_i8_i12 | exact ne_i12_i8.symm)).trans R8)
    replace Rt := (congrFun hP.symm jt).trans ((updH_ne _ _ _ _ (by first | exact ne_jt_i12 | exact ne_i12_jt.symm)).trans Rt)
    replace R12 : HP i12 = some (labRow (cellsL 0 0 { l.sheet with rest := b } jt)) := by rw [← hP, updH_same]; rfl
    clear hP
    simp only [go_sem, h2, h3, h4, h5, h8, h10, h11, R12, R8, Rt]
    refine wputE_1 so3 R12 ⟨by simp, rfl, by simp⟩ ?_
    generalize hP : updH _ i12 _ = HP
    replace R8 := (congrFun hP.symm i8).trans ((updH_ne _ _ _ _ (by first | exact ne_i8_i12 | exact ne_i12_i8.symm)).trans R8)
    replace Rt := (congrFun hP.symm jt).trans ((updH_ne _ _ _ _ (by first | exact ne_jt_i12 | exact ne_i12_jt.symm)).trans Rt)
    replace R12 : HP i12 = some (labRow (cellsL 0 0 { l.sheet with rest := b, depart := depL t l b } jt)) := by rw [← hP, updH_same]; rfl
    clear hP
    simp only [go_sem, h2, h3, h4, h5, h8, h10, h11, R12, R8, Rt]
    exact hK _ _ ⟨by simp only [go_sem, h2], by simp only [go_sem, h4], by simp only [go_sem, h8], by simp only [go_sem, h10], by simp only [go_sem, h11], by simp only [go_sem], R8, R12, Rt⟩
  · obtain ⟨j, rfl⟩ : ∃ j, k = j + 1 := ⟨k - 1, by simp at hb; omega⟩
    have w : IntKind.i64.wrap (((j + 1 : Nat) : Int) - 1) = (j : Int) := by rw [wrap_in (by omega)]; omega
    obtain ⟨tm, htm⟩ := getIn (show j < l.sheet.times.length by omega)
    have b1 := inB (show j < l.sheet.times.length by omega)
    have eg : l.sheet.times.getD j zeroTm = tm := by simp [List.getD, htm]
    simp only [go_sem, h2, h3, h4, h5, h8, h10, h11, R12, Rt, w]
    refine ⟨⟨b1.1, b1.2⟩, wputE_1 so4 Rt ⟨by simpa using b1.2, rfl, by simp⟩ ?_⟩
    generalize hP : updH _ jt _ = HP
    replace R8 := (congrFun hP.symm i8).trans ((updH_ne _ _ _ _ (by first | exact ne_i8_jt | exact ne_jt_i8.symm)).trans R8)
    replace R12 := (congrFun hP.symm i12).trans ((updH_ne _ _ _ _ (by first | exact ne_i12_jt | exact ne_jt_i12.symm)).trans R12)
    replace Rt : HP jt = some (tmRow (l.sheet.times.set j ⟨tm.arrive, tm.begin_, tm.depart, b⟩)) := by rw [← hP, updH_same]; exact congrArg (fun es => some (⟨164, 4, es⟩ : Row)) (tm_rest htm b)
    clear hP
    simp only [go_sem, h2, h3, h4, h5, h8, h10, h11, w, Rt, R8, R12]
    have htm2 : (l.sheet.times.set j ⟨tm.arrive, tm.begin_, tm.depart, b⟩)[j]? = some ⟨tm.arrive, tm.begin_, tm.depart, b⟩ := by rw [List.getElem?_set_self (by omega)]
    refine ⟨⟨b1.1, by rw [List.length_set]; exact b1.2⟩, wputE_1 so3 Rt ⟨by simpa using b1.2, rfl, by simp⟩ ?_⟩
    generalize hP : updH _ jt _ = HP
    replace R8 := (congrFun hP.symm i8).trans ((updH_ne _ _ _ _ (by first | exact ne_i8_jt | exact ne_jt_i8.symm)).trans R8)
    replace R12 := (congrFun hP.symm i12).trans ((updH_ne _ _ _ _ (by first | exact ne_i12_jt | exact ne_jt_i12.symm)).trans R12)
    replace Rt : HP jt = some (tmRow ((l.sheet.times.set j ⟨tm.arrive, tm.begin_, tm.depart, b⟩).set j ⟨tm.arrive, tm.begin_, depL t l b, b⟩)) := by rw [← hP, updH_same]; exact congrArg (fun es => some (⟨164, 4, es⟩ : Row)) (tm_dep htm2 _)
    clear hP
    simp only [go_sem, h2, h3, h4, h5, h8, h10, h11, w, Rt, R8, R12]
    refine hK _ _ ⟨by simp only [go_sem, h2], by simp only [go_sem, h4], by simp only [go_sem, h8], by simp only [go_sem, h10], by simp only [go_sem, h11], by simp only [go_sem], R8, R12, ?_⟩
    rw [Rt, List.set_set]
    simp only [setDep, eg]
  clear R8 R12 Rt h2 h3 h4 h5 h8 h10 h11
  rintro ρ H ⟨h2, h4, h8, h10, h11, h12, R8, R12, Rt⟩
  generalize hD : depL t l b = D at *
  have hP := tplace_c x t r st k hk hst
  rcases Nat.lt_or_ge k st.length with hlt | hge
  · obtain ⟨s, hs⟩ := getIn hlt
    have b1 := inB hlt
    have hne : ((k : Int) == (st.length : Int)) = false := by simp; omega
    have eS : stepP x t st k l b = nextV x t (placeP t st k) s k l b := by unfold stepP; rw [hs]
    rw [eS]
    unfold nextV sinN sheetV goL
    simp only [hD]
    generalize hg : go09 x.net t.profile (placeP t st k) s.place D = g
    simp only [go_sem, h2, h4, h8, h10, h11, h12, hne]
    refine acond_i (fun _ => ?_) (fun hb => by simp at hb)
    simp only [go_sem, h2, h4, h8, h10, h11, h12, getD_map hs, b1]
    refine adraw_q (by rfl) (by kernel_rfl) ?_
    simp only [go_sem, h2, h4, h8, h10, h11, h12]
    refine ⟨_, hP.q rfl, ?_⟩
    simp only [go_sem, h2, h4, h8, h10, h11, h12]
    refine ⟨_, (nGo_c x.net t.profile (placeP t st k) s.place D hn).q rfl, ?_⟩
    rw [hg]
    simp only [go_sem, h2, h4, h8, h10, h11, h12]
    refine acond_i (fun he => ?_) (fun he => ?_)
    · simp only [go_sem, h8]
      refine wputE_n R8 (by simp) ?_
      simp only [go_sem, h8]
      rw [if_pos he]
      exact .refl _
    rw [if_neg (by rw [he]; simp)]
    simp only [go_sem, h2, h4, h8, h10, h11, h12, R12]
    refine wputE_1 so3 R12 ⟨by simp, rfl, by simp⟩ ?_
    generalize hP : updH _ i12 _ = HP
    replace R8 := (congrFun hP.symm i8).trans ((updH_ne _ _ _ _ (by first | exact ne_i8_i12 | exact ne_i12_i8.symm)).trans R8)
    replace Rt := (congrFun hP.symm jt).trans ((updH_ne _ _ _ _ (by first | exact ne_jt_i12 | exact ne_i12_jt.symm)).trans Rt)
    replace R12 : HP i12 = some (labRow (cellsL 0 0 { setDep l.sheet k b D with miles := W ((setDep l.sheet k b D).miles + g.2.1) } jt)) := by rw [← hP, updH_same]; rfl
    clear hP
    simp only [go_sem, h2, h4, h8, h10, h11, h12, R12, R8, Rt]
    refine wputE_1 so3 R12 ⟨by simp, rfl, by simp⟩ ?_
    generalize hP : updH _ i12 _ = HP
    replace R8 := (congrFun hP.symm i8).trans ((updH_ne _ _ _ _ (by first | exact ne_i8_i12 | exact ne_i12_i8.symm)).trans R8)
    replace Rt := (congrFun hP.symm jt).trans ((updH_ne _ _ _ _ (by first | exact ne_jt_i12 | exact ne_i12_jt.symm)).trans Rt)
    replace R12 : HP i12 = some (labRow (cellsL 0 (W (W (sinL l b + g.1) - D)) { setDep l.sheet k b D with miles := W ((setDep l.sheet k b D).miles + g.2.1) } jt)) := by rw [← hP, updH_same]; rfl
    clear hP
    simp only [go_sem, h2, h4, h8, h10, h11, h12, hne, R12, R8, Rt]
    refine acond_i (fun hb => by simp at hb) (fun _ => ?_)
    simp only [go_sem, h2, h4, h8, h10, h11, h12, getD_map hs, b1]
    refine PC.use (begin_c s g.1) ?_
    simp only [go_sem, h2, h4, h8, h10, h11, h12]
    by_cases hw : imax g.1 s.start > s.close
    · rw [if_pos hw, if_pos hw, if_pos hw]
      refine acond_i (fun _ => ?_) (fun hb => by simp at hb)
      simp only [go_sem, h8]
      refine wputE_n R8 (by simp) ?_
      simp only [go_sem, h8]
      exact .refl _
    rw [if_neg hw, if_neg hw, if_neg hw]
    refine acond_i (fun hb => by simp at hb) (fun _ => ?_)
    simp only [go_sem, h2, h4, h8, h10, h11, h12, getD_map hs, b1]
    refine wputE_1 so3 R12 ⟨by simp, rfl, by simp⟩ ?_
    generalize hP : updH _ i12 _ = HP
    replace R8 := (congrFun hP.symm i8).trans ((updH_ne _ _ _ _ (by first | exact ne_i8_i12 | exact ne_i12_i8.symm)).trans R8)
    replace Rt := (congrFun hP.symm jt).trans ((updH_ne _ _ _ _ (by first | exact ne_jt_i12 | exact ne_i12_jt.symm)).trans Rt)
    replace R12 : HP i12 = some (labRow (cellsL (W (imax g.1 s.start + s.service)) (W (W (sinL l b + g.1) - D)) { setDep l.sheet k b D with miles := W ((setDep l.sheet k b D).miles + g.2.1) } jt)) := by rw [← hP, updH_same]; rfl
    clear hP
    simp only [go_sem, h2, h4, h8, h10, h11, h12, hne, R12, R8, Rt]
    refine wappE_i Rt ⟨rfl, rfl⟩ ⟨rfl, trivial⟩ (by simp [(setDep_miles l.sheet k b D).2.2]; omega) (fun j' hj'0 => ?_)
    have ne_i8_j' : i8 ≠ j' := ne_new R8 hj'0
    have ne_i12_j' : i12 ≠ j' := ne_new R12 hj'0
    generalize hP : updH (updH _ jt none) j' _ = HP
    replace R8 := (congrFun hP.symm i8).trans ((updH_ne _ _ _ _ ne_i8_j').trans ((updH_ne _ _ _ _ (by first | exact ne_i8_jt | exact ne_jt_i8.symm)).trans R8))
    replace R12 := (congrFun hP.symm i12).trans ((updH_ne _ _ _ _ ne_i12_j').trans ((updH_ne _ _ _ _ (by first | exact ne_i12_jt | exact ne_jt_i12.symm)).trans R12))
    have Rt' : HP j' = some (tmRow ((setDep l.sheet k b D).times ++ [⟨g.1, imax g.1 s.start, 0, false⟩])) := by rw [← hP, updH_same]; (show some (⟨164, 4, _⟩ : Row) = some ⟨164, 4, _⟩; rw [List.map_append]; rfl)
    clear hP hj'0
    simp only [go_sem, h2, h4, h8, h10, h11, h12, hne, Rt', R8, R12]
    refine wputE_1 so87 R12 ⟨by simp, rfl, by simp⟩ ?_
    generalize hP : updH _ i12 _ = HP
    replace R8 := (congrFun hP.symm i8).trans ((updH_ne _ _ _ _ (by first | exact ne_i8_i12 | exact ne_i12_i8.symm)).trans R8)
    replace Rt' := (congrFun hP.symm j').trans ((updH_ne _ _ _ _ (by first | exact ne_j'_i12 | exact ne_i12_j'.symm)).trans Rt')
    replace R12 : HP i12 = some (labRow (cellsL (W (imax g.1 s.start + s.service)) (W (W (sinL l b + g.1) - D)) { setDep l.sheet k b D with miles := W ((setDep l.sheet k b D).miles + g.2.1), times := (setDep l.sheet k b D).times ++ [⟨g.1, imax g.1 s.start, 0, false⟩] } j')) := by rw [← hP, updH_same]; rfl
    clear hP
    simp only [go_sem, h2, h4, h8, h10, h11, h12, hne, R12, R8, Rt']
    refine acond_i (fun hd => ?_) (fun hd => ?_)
    · rw [if_pos (by simpa using hd)]
      simp only [go_sem, h8]
      refine wputE_n R8 (by simp) ?_
      simp only [go_sem, h8]
      exact .refl _
    · rw [if_neg (by simpa using hd)]
      simp only [go_sem, h8, h12, R12]
      refine wputE_n R8 ⟨by simp, rfl, Nat.le_refl _⟩ ?_
      simp only [go_sem, h8]
      have hm := (setDep_miles l.sheet k b D).1
      have := fun H => conv_lab (H := H) (j := j') (l := ⟨W (imax g.1 s.start + s.service), W (W (sinL l b + g.1) - D), { setDep l.sheet k b D with miles := W ((setDep l.sheet k b D).miles + g.2.1), times := (setDep l.sheet k b D).times ++ [⟨g.1, imax g.1 s.start, 0, false⟩] }⟩)
      simp only [hm] at this ⊢
      exact .tup [.agg (cellsL _ _ _ j'), int 0] _ (.cons _ _ _ _ (.agg _ _ (this _ ((updH_ne _ _ _ _ ne_i8_j'.symm).trans Rt'))) (ConvL.refl _))
  · have hke : k = st.length := by omega
    have hne : ((k : Int) == (st.length : Int)) = true := by simp; omega
    have eS : stepP x t st k l b = nextE x t (placeP t st k) k l b := by unfold stepP; rw [List.getElem?_eq_none hge]
    rw [eS]
    unfold nextE sinN sheetE goL
    simp only [hD]
    generalize hg : go09 x.net t.profile (placeP t st k) t.dst D = g
    simp only [go_sem, h2, h4, h8, h10, h11, h12, hne]
    refine acond_i (fun hb => by simp at hb) (fun _ => ?_)
    simp only [go_sem, h2, h4, h8, h10, h11, h12]
    refine adraw_q (by rfl) (by kernel_rfl) ?_
    simp only [go_sem, h2, h4, h8, h10, h11, h12]
    refine ⟨_, hP.q rfl, ?_⟩
    simp only [go_sem, h2, h4, h8, h10, h11, h12]
    refine ⟨_, (nGo_c x.net t.profile (placeP t st k) t.dst D hn).q rfl, ?_⟩
    rw [hg]
    simp only [go_sem, h2, h4, h8, h10, h11, h12]
    refine acond_i (fun he => ?_) (fun he => ?_)
    · simp only [go_sem, h8]
      refine wputE_n R8 (by simp) ?_
      simp only [go_sem, h8]
      rw [if_pos he]
      exact .refl _
    rw [if_neg (by rw [he]; simp)]
    simp only [go_sem, h2, h4, h8, h10, h11, h12, R12]
    refine wputE_1 so3 R12 ⟨by simp, rfl, by simp⟩ ?_
    generalize hP : updH _ i12 _ = HP
    replace R8 := (congrFun hP.symm i8).trans ((updH_ne _ _ _ _ (by first | exact ne_i8_i12 | exact ne_i12_i8.symm)).trans R8)
    replace Rt := (congrFun hP.symm jt).trans ((updH_ne _ _ _ _ (by first | exact ne_jt_i12 | exact ne_i12_jt.symm)).trans Rt)
    replace R12 : HP i12 = some (labRow (cellsL 0 0 { setDep l.sheet k b D with miles := W ((setDep l.sheet k b D).miles + g.2.1) } jt)) := by rw [← hP, updH_same]; rfl
    clear hP
    simp only [go_sem, h2, h4, h8, h10, h11, h12, R12, R8, Rt]
    refine wputE_1 so3 R12 ⟨by simp, rfl, by simp⟩ ?_
    generalize hP : updH _ i12 _ = HP
    replace R8 := (congrFun hP.symm i8).trans ((updH_ne _ _ _ _ (by first | exact ne_i8_i12 | exact ne_i12_i8.symm)).trans R8)
    replace Rt := (congrFun hP.symm jt).trans ((updH_ne _ _ _ _ (by first | exact ne_jt_i12 | exact ne_i12_jt.symm)).trans Rt)
    replace R12 : HP i12 = some (labRow (cellsL 0 (W (W (sinL l b + g.1) - D)) { setDep l.sheet k b D with miles := W ((setDep l.sheet k b D).miles + g.2.1) } jt)) := by rw [← hP, updH_same]; rfl
    clear hP
    simp only [go_sem, h2, h4, h8, h10, h11, h12, hne, R12, R8, Rt]
    refine acond_i (fun _ => ?_) (fun hb => by simp at hb)
    simp only [go_sem, h2, h4, h8, h10, h11, h12]
    refine acond_i (fun hw => ?_) (fun hw => ?_)
    · rw [if_pos (by simpa using hw)]
      simp only [go_sem, h8]
      refine wputE_n R8 (by simp) ?_
      simp only [go_sem, h8]
      exact .refl _
    rw [if_neg (by simpa using hw)]
    simp only [go_sem, h2, h4, h8, h10, h11, h12, R12]
    refine wputE_1 so3 R12 ⟨by simp, rfl, by simp⟩ ?_
    generalize hP : updH _ i12 _ = HP
    replace R8 := (congrFun hP.symm i8).trans ((updH_ne _ _ _ _ (by first | exact ne_i8_i12 | exact ne_i12_i8.symm)).trans R8)
    replace Rt := (congrFun hP.symm jt).trans ((updH_ne _ _ _ _ (by first | exact ne_jt_i12 | exact ne_i12_jt.symm)).trans Rt)
    replace R12 : HP i12 = some (labRow (cellsL 0 (W (W (sinL l b + g.1) - D)) { setDep l.sheet k b D with miles := W ((setDep l.sheet k b D).miles + g.2.1), end_ := g.1 } jt)) := by rw [← hP, updH_same]; rfl
    clear hP
    simp only [go_sem, h2, h4, h8, h10, h11, h12, hne, R12, R8, Rt]
    refine wputE_1 so3 R12 ⟨by simp, rfl, by simp⟩ ?_
    generalize hP : updH _ i12 _ = HP
    replace R8 := (congrFun hP.symm i8).trans ((updH_ne _ _ _ _ (by first | exact ne_i8_i12 | exact ne_i12_i8.symm)).trans R8)
    replace Rt := (congrFun hP.symm jt).trans ((updH_ne _ _ _ _ (by first | exact ne_jt_i12 | exact ne_i12_jt.symm)).trans Rt)
    replace R12 : HP i12 = some (labRow (cellsL g.1 (W (W (sinL l b + g.1) - D)) { setDep l.sheet k b D with miles := W ((setDep l.sheet k b D).miles + g.2.1), end_ := g.1 } jt)) := by rw [← hP, updH_same]; rfl
    clear hP
    simp only [go_sem, h2, h4, h8, h10, h11, h12, hne, R12, R8, Rt]
    refine acond_i (fun hd => ?_) (fun hd => ?_)
    · rw [if_pos (by simpa using hd)]
      simp only [go_sem, h8]
      refine wputE_n R8 (by simp) ?_
      simp only [go_sem, h8]
      exact .refl _
    · rw [if_neg (by simpa using hd)]
      simp only [go_sem, h8, h12, R12]
      refine wputE_n R8 ⟨by simp, rfl, Nat.le_refl _⟩ ?_
      simp only [go_sem, h8]
      have hm := (setDep_miles l.sheet k b D).1
      have := fun H => conv_lab (H := H) (j := jt) (l := ⟨g.1, W (W (sinL l b + g.1) - D), { setDep l.sheet k b D with miles := W ((setDep l.sheet k b D).miles + g.2.1), end_ := g.1 }⟩)
      simp only [hm] at this ⊢
      exact .tup [.agg (cellsL _ _ _ jt), int 0] _ (.cons _ _ _ _ (.agg _ _ (this _ ((updH_ne _ _ _ _ ne_i8_jt.symm).trans Rt))) (ConvL.refl _))
end Go.Proofs.YtbefdpmjpioijaaGreatDoor.Sq
