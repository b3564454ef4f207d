/- commit, lorryref44: the committed beginnings of a plan -/
import Derived.Test.YtbefdpmjpioijaaGreatDoorAuU
set_option linter.unusedSimpArgs false
set_option linter.unusedVariables false
namespace Go.Proofs.YtbefdpmjpioijaaGreatDoor.Sq
open Go.Aw Go.Aw.D Go.Proofs Ty
open Mv (convI convB convA NC.pc take_allP)
set_option maxRecDepth 100000

theorem encSheet_00 (s : Sheet) : (encSheet s).getD 0 .any = boo s.rest := (rfl)
theorem encSheet_20 (s : Sheet) : (encSheet s).getD 2 .any = .sl (s.times.map encTm) := (rfl)
theorem encTm_3 (t : Tm) : (encTm t).getD 3 .any = boo t.rest := (rfl)
theorem encTm_1 (t : Tm) : (encTm t).getD 1 .any = int t.begin_ := (rfl)
attribute [go_sem] encSheet_00 encSheet_20 encTm_3 encTm_1
def restsS (s : Sheet) : List Bool := s.rest :: s.times.map (·.rest)
def restsK (s : Sheet) (k : Nat) : List Bool := s.rest :: (s.times.take k).map (·.rest)
theorem restsK_succ {s : Sheet} {k : Nat} {t : Tm} (h : s.times[k]? = some t) : restsK s (k + 1) = restsK s k ++ [t.rest] := by unfold restsK; rw [take_succ h]; simp
theorem restsK_len (s : Sheet) (k : Nat) : (restsK s k).length ≤ k + 1 := by unfold restsK; simp; omega
theorem rests_c (s : Sheet) (hl : s.times.length ≤ 1048576) : PC Tryz.prog 66 [.agg (encSheet s)] (.sl ((restsS s).map encBool)) := by
  refine PC.body (c := Tryz.f66.body.getD .skip) (fun t => t == 7) mixed Tryz.func66 rfl (by kernel_rfl) ?_
  unfold Tryz.f66
  simp only [Option.getD_some]
  simp only [go_sem]
  refine anew_i fun j hj => ?_
  simp only [go_sem]
  refine ⟨fun ρ H => ∃ k : Nat, k ≤ s.times.length ∧ ρ 1 = .rp (encSheet s) 0 ∧ ρ 4 = int k ∧ ∃ j, ρ 3 = .os j ∧ H j = some (boolRow (restsK s k)), fun ρ _ => s.times.length - natOf (ρ 4), ⟨0, Nat.zero_le _, rfl, rfl, j, rfl, updH_same _ _ _⟩, ?_⟩
  clear hj
  rintro ρ H ⟨k, hk, h1, h4, j, h3, R⟩
  simp only [go_sem, h1, h4, h3]
  refine acond_i (fun hlt => ?_) (fun hge => ?_)
  · have hlt := le_of_lt_b hlt
    obtain ⟨t, ht⟩ := getIn hlt
    have b1 := inB hlt
    simp only [go_sem, h1, h4, h3, getD_map ht, b1]
    refine wappE_i R ⟨rfl, rfl⟩ ⟨rfl, trivial⟩ (by have := restsK_len s k; simp; omega) (fun j' hj' => ?_)
    simp only [go_sem, h1, h4, h3, wrapS (show k ≤ 4611686018427387904 by omega)]
    refine ⟨⟨k + 1, hlt, rfl, j', rfl, ?_⟩, by simp only [natOf_int]; omega⟩
    rw [restsK_succ ht]
    exact row_appG (l' := [t.rest]) rfl
  · have hge := eq_of_ge_b hk hge
    subst hge
    simp only [go_sem, h3]
    have e : restsK s s.times.length = restsS s := by unfold restsK restsS; rw [List.take_length]
    rw [e] at R
    exact .row _ _ _ R (ConvE.refl _)
theorem vis_all : ∀ l : List Visit, allLen 2 (l.map encVisit)
  | [] => trivial
  | _ :: r => ⟨rfl, vis_all r⟩
abbrev visRow (l : List Visit) : Row := ⟨95, 2, l.map encVisit⟩
theorem cloneV_c (l : List Visit) (hl : l.length ≤ 1048576) : NC Tryz.prog 108 [.sl (l.map encVisit)] (visRow l) .os := by
  refine NC.body (c := Tryz.f108.body.getD .skip) (fun t => t == 2 || t == 5) mixed Tryz.func108 rfl (by kernel_rfl) ?_
  unfold Tryz.f108
  simp only [Option.getD_some]
  simp only [go_sem]
  refine anew_i fun j hj => ?_
  have R := updH_same noRows j (some (visRow []))
  generalize updH noRows j _ = H at R ⊢
  simp only [go_sem]
  refine ⟨fun hn => ?_, ?_⟩
  · refine acond_i (fun _ => ?_) (fun hb => by simp at hb)
    simp only [go_sem]
    refine anew_i fun i hi => ?_
    simp only [go_sem]
    refine ⟨i, rfl, ?_⟩
    rw [updH_same, List.map_eq_nil_iff.1 hn]; rfl
  · refine acond_i (fun hb => by simp at hb) (fun _ => ?_)
    simp only [go_sem]
    refine anew_i fun i hi => ?_
    simp only [go_sem]
    refine wappE_i (updH_same _ _ _) ⟨rfl, rfl⟩ (vis_all _) (by simp only [List.length_map, List.length_nil]; omega) (fun j' hj' => ?_)
    simp only [go_sem]
    refine ⟨j', rfl, ?_⟩
    exact updH_same _ _ _
def begunP (r : Route) (n : Nat) (d : Bool) (s : Sheet) : Route := ⟨r.type, r.start, (restsS s).take (if d = true then n + 1 else n), r.visits.take n⟩
theorem begun_c (r : Route) (n : Nat) (d : Bool) (s : Sheet) (hr : r.visits.length ≤ 1048576) (hn : n ≤ r.visits.length) (hs : s.times.length = r.visits.length) : PC Tryz.prog 62 [.agg (encRoute r), int n, boo d, .agg (encSheet s)] (.agg (encRoute (begunP r n d s))) := by
  refine PC.body (c := Tryz.f62.body.getD .skip) (fun t => t == 25 || t == 42) mixed Tryz.func62 rfl (by kernel_rfl) ?_
  unfold Tryz.f62
  simp only [Option.getD_some]
  simp only [go_sem]
  refine anew_i fun j8 hj8 => ?_
  have R8 := updH_same noRows j8 (some (routeRow [int 0, int 0, .sl [], .sl []]))
  generalize updH noRows j8 _ = H8 at R8 ⊢
  clear hj8
  simp only [go_sem]
  refine adraw_join (fun ρ' H' => ρ' 1 = int n ∧ ρ' 2 = boo d ∧ ρ' 7 = .rp (encSheet s) 0 ∧ ρ' 8 = .op j8 0 0 ∧ H' j8 = some (routeRow [int 0, int 0, .sl [], .sl []]) ∧ ∃ j9, ρ' 9 = .op j9 0 0 ∧ j8 ≠ j9 ∧ H' j9 = some (routeRow [int r.type, int r.start, .sl [], .sl ((r.visits.take n).map encVisit)])) ?_ fun K hK => ?_
  rotate_left
  · refine adraw_t [] (.q 0 (.q 1 (.q 2 (.q 3 (.q 4 (.q 5 (.q 6 (.q 7 (.a2 8 (.q 9 (.a1 10 (.a1 11 .nil))) 10 (.a1 8 (.q 9 (.a1 11 .nil)))))))))))) (by simp) (by kernel_rfl) fun Hp Hr _ hqr _ _ => ?_
    have eH : Hr = H8 := funext fun k => hqr k (by simp)
    subst eH
    simp only [go_sem]
    refine ⟨by omega, ?_⟩
    refine amixt_2i ?_ ?_
    · simp only [go_sem]
      rw [← List.map_take]
      refine PC.use (NC.pc (cloneV_c _ (by rw [List.length_take]; omega))) ?_
      simp only [go_sem]
      refine anew_i fun j9 h9 => ?_
      have n89 := ne_new R8 h9
      simp only [go_sem]
      refine wputE_n (updH_same _ _ _) (by simp) ?_
      simp only [go_sem]
      refine pinEnd_i fun _ Hm _ hm => hK _ _ ⟨by simp only [go_sem], by simp only [go_sem], by simp only [go_sem], by simp only [go_sem], ?_, j9, by simp only [go_sem], n89, ?_⟩
      · rw [hm j8 (by simp), updH_ne _ _ _ _ n89, updH_ne _ _ _ _ n89]; exact R8
      · rw [hm j9 (by simp), updH_same]
    · simp only [go_sem]
      refine anew_i fun j9 h9 => ?_
      have n89 := ne_new R8 h9
      simp only [go_sem]
      rw [← List.map_take]
      refine PC.use (NC.pc (cloneV_c _ (by rw [List.length_take]; omega))) ?_
      simp only [go_sem]
      refine wputE_n (updH_same _ _ _) (by simp) ?_
      simp only [go_sem]
      refine pinEnd_i fun _ Hm _ hm => hK _ _ ⟨by simp only [go_sem], by simp only [go_sem], by simp only [go_sem], by simp only [go_sem], ?_, j9, by simp only [go_sem], n89, ?_⟩
      · rw [hm j8 (by simp), updH_ne _ _ _ _ n89, updH_ne _ _ _ _ n89]; exact R8
      · rw [hm j9 (by simp), updH_same]
  clear R8
  rintro ρ H ⟨h1, h2, h7, h8, R8, j9, h9, n89, R9⟩
  simp only [go_sem, h1, h2, h7, h8, h9]
  refine anew_i fun j10 hj10 => ?_
  have n8 := ne_new R8 hj10
  have n9 := ne_new R9 hj10
  have S8 := keep_new (r' := boolRow [s.rest]) R8 hj10
  have S9 := keep_new (r' := boolRow [s.rest]) R9 hj10
  simp only [go_sem, h1, h2, h7, h8, h9]
  refine ⟨fun ρ H => ∃ k : Nat, k ≤ s.times.length ∧ ρ 1 = int n ∧ ρ 2 = boo d ∧ ρ 8 = .op j8 0 0 ∧ ρ 9 = .op j9 0 0 ∧ ρ 27 = .sl (s.times.map encTm) ∧ ρ 28 = int s.times.length ∧ ρ 29 = int k ∧ H j8 = some (routeRow [int 0, int 0, .sl [], .sl []]) ∧ H j9 = some (routeRow [int r.type, int r.start, .sl [], .sl ((r.visits.take n).map encVisit)]) ∧ ∃ j, ρ 10 = .os j ∧ j8 ≠ j ∧ j9 ≠ j ∧ H j = some (boolRow (restsK s k)), fun ρ _ => s.times.length - natOf (ρ 29),
    ⟨0, Nat.zero_le _, by simp only [go_sem, h1], by simp only [go_sem, h2], by simp only [go_sem, h8], by simp only [go_sem, h9], by simp only [go_sem], by simp only [go_sem, List.length_map], by simp only [go_sem]; rfl, S8, S9, j10, by simp only [go_sem], n8, n9, updH_same _ _ _⟩, ?_⟩
  clear h1 h2 h7 h8 h9 S8 S9 R8 R9 hj10 n8 n9 j10
  rintro ρ H ⟨k, hk, h1, h2, h8, h9, h27, h28, h29, R8, R9, j, h10, n8, n9, R⟩
  simp only [go_sem, h1, h2, h8, h9, h27, h28, h29, h10]
  refine acond_i (fun hlt => ?_) (fun hge => ?_)
  · have hlt := le_of_lt_b hlt
    obtain ⟨t, ht⟩ := getIn hlt
    have b1 := inB hlt
    simp only [go_sem, h1, h2, h8, h9, h27, h28, h29, h10, getD_map ht, b1]
    refine anew_i fun i12 hi120 => ?_
    have ne_j8_i12 : j8 ≠ i12 := ne_new R8 hi120
    have ne_j9_i12 : j9 ≠ i12 := ne_new R9 hi120
    have ne_j_i12 : j ≠ i12 := ne_new R hi120
    simp only [go_sem, h1, h2, h8, h9, h27, h28, h29, h10, R8, R9, R]
    refine wputE_n (updH_same _ _ _) (by simp [encTm_len]) ?_
    generalize hGi12 : updH (updH _ i12 _) i12 _ = HGi12
    replace R8 := (congrFun hGi12.symm j8).trans ((updH_ne _ _ _ _ ne_j8_i12).trans ((updH_ne _ _ _ _ ne_j8_i12).trans R8))
    replace R9 := (congrFun hGi12.symm j9).trans ((updH_ne _ _ _ _ ne_j9_i12).trans ((updH_ne _ _ _ _ ne_j9_i12).trans R9))
    replace R := (congrFun hGi12.symm j).trans ((updH_ne _ _ _ _ ne_j_i12).trans ((updH_ne _ _ _ _ ne_j_i12).trans R))
    have R12 : HGi12 i12 = some (⟨164, 4, [encTm t]⟩) := by rw [← hGi12, updH_same]; rfl
    clear hGi12 hi120
    simp only [go_sem, h1, h2, h8, h9, h27, h28, h29, h10, R12, R8, R9, R]
    refine wappE_i R ⟨rfl, rfl⟩ ⟨rfl, trivial⟩ (by have := restsK_len s k; simp; omega) (fun j' hj' => ?_)
    have n8' := ne_new R8 hj'
    have n9' := ne_new R9 hj'
    simp only [go_sem, h1, h2, h8, h9, h27, h28, h29, wrapS (show k ≤ 4611686018427387904 by omega)]
    refine ⟨⟨k + 1, hlt, rfl, keep_app R8 n8.symm hj', keep_app R9 n9.symm hj', j', rfl, n8', n9', ?_⟩, by simp only [natOf_int]; omega⟩
    rw [restsK_succ ht]
    exact row_appG (l' := [t.rest]) rfl
  have hge := eq_of_ge_b hk hge
  subst hge
  have e : restsK s s.times.length = restsS s := by unfold restsK restsS; rw [List.take_length]
  rw [e] at R
  simp only [go_sem, h1, h2, h8, h9, h10]
  refine acond_join (fun ρ' H' => ρ' 1 = int (if d = true then n + 1 else n : Nat) ∧ ρ' 8 = .op j8 0 0 ∧ ρ' 9 = .op j9 0 0 ∧ ρ' 10 = .os j ∧ H' = H) ?_ fun K hK => acond_i (fun hb => ?_) (fun hb => ?_)
  rotate_left
  · simp only [go_sem, h1, wrapS (show n ≤ 4611686018427387904 by omega)]
    exact hK _ _ ⟨by simp only [go_sem]; rw [if_pos hb], by simp only [go_sem, h8], by simp only [go_sem, h9], by simp only [go_sem, h10], rfl⟩
  · simp only [go_sem]
    exact hK _ _ ⟨by simp only [go_sem, h1]; rw [if_neg (by rw [hb]; simp)], by simp only [go_sem, h8], by simp only [go_sem, h9], by simp only [go_sem, h10], rfl⟩
  clear h1 h2 h8 h9 h27 h28 h29 h10
  rintro ρ H' ⟨h1, h8, h9, h10, rfl⟩
  simp only [go_sem, h1, h8, h9, h10]
  refine afreeze_i h10 R fun Hr _ hH => ?_
  have S8 := (hH j8 n8).trans R8
  have S9 := (hH j9 n9).trans R9
  clear R8 R9 R hH
  simp only [go_sem, h1, h8, h9]
  refine ⟨?_, ?_⟩
  · have : (restsS s).length = s.times.length + 1 := by simp [restsS]
    split <;> omega
  refine wputE_1 so53 S9 ⟨by simp, rfl, by simp⟩ ?_
  have ne_j8_j9 := n89
  generalize hP : updH _ j9 _ = HP
  replace S8 := (congrFun hP.symm j8).trans ((updH_ne _ _ _ _ (by first | exact ne_j8_j9 | exact ne_j9_j8.symm)).trans S8)
  replace S9 : HP j9 = some (routeRow (encRoute (begunP r n d s))) := by rw [← hP, updH_same]; simp only [setAt, begunP, encRoute, List.map_take]; rfl
  clear hP
  simp only [go_sem, h1, h8, h9, S9, S8]
  refine wputE_n S8 (by simp [encRoute_len]) ?_
  simp only [go_sem, h8, encRoute_all]
  exact .refl _
/-! ### how far a route has come -/
def timeAt (s : Sheet) (k : Nat) : Tm := s.times.getD k zeroTm
def servS (x : Instance) (v : Visit) : Int := (stopV x v).1.service
def readyK (x : Instance) (t : VType) (r : Route) (s : Sheet) : Nat → Int
  | 0 => imax t.start r.start
  | k + 1 => match r.visits[k]? with
    | some v => W ((timeAt s k).begin_ + servS x v)
    | none => 0
def progT (x : Instance) (t : VType) (r : Route) (s : Sheet) (now : Int) : Nat × Bool := match (List.range r.visits.length).find? (fun k => decide (readyK x t r s k ≥ now)) with
  | some k => (k, false)
  | none => (r.visits.length, decide ((r.visits.length : Int) > 0) && decide (readyK x t r s r.visits.length < now))
def progR (x : Instance) (r : Route) (now : Int) : Nat × Bool := match x.types[r.type.toNat]? with
  | some t => progT x t r (eval21 x r).1 now
  | none => (0, false)
/-- what a route that the reference accepts holds -/
theorem eval_facts {x : Instance} (h : Acc x) {r : Route} (he : (eval21 x r).2.2 = 0) : (0 ≤ r.type ∧ r.type < (x.types.length : Int)) ∧ (∀ v ∈ r.visits, 0 ≤ v.order ∧ v.order < (x.orders.length : Int)) ∧ (eval21 x r).1.times.length = r.visits.length ∧ ∀ v ∈ r.visits, (stop18 x v).2 = true := by
  have hc := eval_check he
  rw [← h.eval r] at he ⊢
  unfold evalP at he ⊢
  by_cases hb : badNo r.type x.types.length = true
  · rw [if_pos hb] at he; cases he
  rw [if_neg hb] at he ⊢
  have hb' := hb
  simp only [badNo, Bool.not_eq_true, Bool.or_eq_false_iff, decide_eq_false_iff_not] at hb'
  rw [h.seq] at he ⊢
  rw [if_neg (by rw [hc]; simp)] at he ⊢
  by_cases h1 : (ableR x r != 0) = true
  · rw [if_pos h1] at he; simp at h1; exact absurd he h1
  rw [if_neg h1] at he ⊢
  by_cases h2 : (cFits x r != 0) = true
  · rw [if_pos h2] at he; simp at h2; exact absurd he h2
  rw [if_neg h2] at he ⊢
  by_cases h3 : ((bestP x r).2 != 0) = true
  · rw [if_pos h3] at he; simp at h3; exact absurd he h3
  rw [if_neg h3] at he ⊢
  refine ⟨by omega, check_in hc, ?_, ?_⟩
  · have h3 : (bestP x r).2 = 0 := by simpa using h3
    show (bestP x r).1.times.length = _
    unfold bestP at h3 ⊢
    split at h3
    · cases h3
    rename_i hp
    rw [if_neg hp]
    have hp' : possible18 x r = true ∧ (r.rests.length : Int) ≤ (r.visits.length : Int) + 1 := by simpa using hp
    obtain ⟨t, ht⟩ := getIn (show r.type.toNat < x.types.length by omega)
    rw [ht] at h3 ⊢
    obtain ⟨hB, hs⟩ := h.route hp'.1 ht
    have hr : r.rests.length ≤ r.visits.length + 1 := by omega
    have h3 : (bestT x t r).2 = 0 := h3
    show (bestT x t r).1.times.length = _
    unfold bestT at h3 ⊢
    rw [dpPD x t r _ (Nat.le_refl _)] at h3 ⊢
    cases hdp : dpL x t r (r.visits.length + 1) with
    | nil =>
      exfalso
      rw [hdp] at h3
      have h3 : errD (runP x t (stopsL x r.visits) (rests0 r) 0 (lab0 t r)) = 0 := h3
      rw [runPD x t r _ 0 _ (by rw [rests0_len hr]; omega)] at h3
      have hk : keeps r.rests (rests0 r) := (keeps_prefix (by rw [rests0_len hr]; omega)).2 ⟨_, rfl⟩
      obtain ⟨e, hE⟩ := (dp_nil hB).1 hdp (rests0 r) (rests0_len hr) hk
      rw [hE] at h3
      exact runD_err _ _ _ _ hE h3
    | cons l ls =>
      show (ls.foldl bestS l).sheet.times.length = _
      have hmem : ∀ (ls : List Lab) (l : Lab), ls.foldl bestS l ∈ l :: ls := fun ls => by
        induction ls with
        | nil => intro l; simp
        | cons a r ih =>
          intro l
          have := ih (bestS l a)
          rw [List.foldl_cons]
          rcases List.mem_cons.1 this with e | e
          · rw [e]; unfold bestS; split <;> simp
          · simp [e]
      have hm := hmem ls l
      rw [← hdp] at hm
      have hm : ls.foldl bestS l ∈ growD x t r (dpL x t r r.visits.length) r.visits.length := hm
      generalize ls.foldl bestS l = q at hm
      unfold growD at hm
      rcases (addL_spec _ []).1 q hm with hq | hq
      · cases hq
      obtain ⟨l', hl', hq⟩ := List.mem_flatMap.1 hq
      obtain ⟨b, _, hq⟩ := List.mem_map.1 hq
      have ht' := dpP_times (x := x) (t := t) (r := r) (st := stopsL x r.visits) r.visits.length (by simp [stopsL]) l' (by rw [dpPD x t r _ (by omega)]; exact hl')
      unfold stepD at hq
      rw [List.getElem?_eq_none (Nat.le_refl _)] at hq
      obtain ⟨_, _, _, rfl⟩ := nextE_ok hq
      show (setDep l'.sheet r.visits.length b _).times.length = _
      rw [(setDep_miles _ _ _ _).2.2]; exact ht'
  · intro v hv
    have h3 : (bestP x r).2 = 0 := by simpa using h3
    unfold bestP at h3
    split at h3
    · cases h3
    rename_i hp
    have hp' : possible18 x r = true ∧ (r.rests.length : Int) ≤ (r.visits.length : Int) + 1 := by simpa using hp
    have := hp'.1
    unfold possible18 at this
    rw [Bool.and_eq_true] at this
    exact List.all_eq_true.1 this.2 v hv
end Go.Proofs.YtbefdpmjpioijaaGreatDoor.Sq
