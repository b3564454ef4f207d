/- maps of numbers; price.{foreign, Route}; route.{able, Evaluate, Valid} -/
import Derived.Test.YtbefdpmjpioijaaGreatDoorAuI
import Derived.Test.YtbefdpmjpioijaaGreatDoorSqR
set_option linter.unusedSimpArgs false
set_option linter.unusedVariables false
namespace Go.Proofs.YtbefdpmjpioijaaGreatDoor.Sq
open Go.Aw Go.Aw.D Go.Proofs Ty
open Mv (convI convB convA NC.pc take_allP)
set_option maxRecDepth 100000

/-! ### map[int]int -/
def encKV (p : Int × Int) : List AV := [int p.1, int p.2]
def idxM (m : List (Int × Int)) (o : Int) : Option Nat := m.findIdx? fun p => p.1 == o
def getM (m : List (Int × Int)) (o : Int) : Int := ((m.find? fun p => p.1 == o).map (·.2)).getD 0
def putM (m : List (Int × Int)) (o v : Int) : List (Int × Int) := match idxM m o with
  | some i => m.set i (o, v)
  | none => m ++ [(o, v)]
abbrev mapRow (m : List (Int × Int)) : Row := ⟨0, 2, m.map encKV⟩
theorem mfind_int (o : Int) : ∀ (m : List (Int × Int)) (i : Nat), mfind (keyEq Tryz.prog 3 (int o)) (m.map encKV) i = some ((idxM m o).map (· + i))
  | [], i => rfl
  | p :: m, i => by
    have ih := mfind_int o m (i + 1)
    have hk : keyEq Tryz.prog 3 (int o) ((encKV p).getD 0 .any) = some (o == p.1) := by
      show keyEq Tryz.prog 3 (int o) (int p.1) = _
      unfold keyEq
      simp only [kk3]
      simp [eqCell]
    rw [List.map_cons, mfind, hk]
    unfold idxM at *
    rw [List.findIdx?_cons]
    by_cases h : o = p.1
    · subst h; simp
    · have h1 : (o == p.1) = false := by simpa using h
      have h2 : (p.1 == o) = false := by simpa using fun e => h e.symm
      rw [h1, h2]
      simp only [Bool.false_eq_true, if_false]
      rw [ih]
      cases m.findIdx? (fun p => p.1 == o) with
      | none => rfl
      | some j => simp; omega
theorem mfind_int0 (o : Int) (m : List (Int × Int)) : mfind (keyEq Tryz.prog 3 (int o)) (m.map encKV) 0 = some (idxM m o) := by
  rw [mfind_int]; cases idxM m o <;> rfl
theorem plain_int (o : Int) : plainKey Tryz.prog 3 (int o) = true := by
  simp only [plainKey, kk3]; rfl
theorem mget_int (m : List (Int × Int)) (o : Int) : mget false (int 0) (m.map encKV) (idxM m o) = int (getM m o) := by
  unfold mget getM idxM
  induction m with
  | nil => rfl
  | cons p m ih =>
    rw [List.findIdx?_cons, List.find?_cons]
    cases h : p.1 == o with
    | true => simp [encKV]
    | false =>
      cases hi : m.findIdx? (fun p => p.1 == o) with
      | none =>
        rw [hi] at ih
        simpa using ih
      | some j =>
        rw [hi] at ih
        simp at ih ⊢
        exact ih
theorem mput_int (m : List (Int × Int)) (o v : Int) : mput (m.map encKV) (idxM m o) (int o) (int v) = (putM m o v).map encKV := by
  unfold mput putM
  cases idxM m o with
  | none => simp [encKV]
  | some i => simp [List.map_set, encKV]
theorem getM_put (m : List (Int × Int)) (o v q : Int) : getM (putM m o v) q = if q = o then v else getM m q := by
  unfold getM putM idxM
  induction m with
  | nil =>
    by_cases h : q = o
    · subst h; simp
    · have h2 : (o == q) = false := by simpa using fun e => h e.symm
      simp [h, h2]
  | cons p m ih =>
    rw [List.findIdx?_cons]
    cases hp : p.1 == o with
    | true =>
      have hpe : p.1 = o := by simpa using hp
      simp only [if_true, List.set_cons_zero, List.find?_cons]
      by_cases h : q = o
      · subst h; simp
      · have h2 : (o == q) = false := by simpa using fun e => h e.symm
        have h3 : (p.1 == q) = false := by rw [hpe]; exact h2
        simp [h, h2, h3]
    | false =>
      have hpe : p.1 ≠ o := by simpa using hp
      cases hi : m.findIdx? (fun p => p.1 == o) with
      | none =>
        rw [hi] at ih
        simp only [Bool.false_eq_true, if_false, Option.map_none, List.cons_append, List.find?_cons]
        cases hq : p.1 == q with
        | true =>
          have : q ≠ o := fun e => hpe ((by simpa using hq : p.1 = q).trans e)
          simp [this]
        | false => simpa using ih
      | some j =>
        rw [hi] at ih
        simp only [Bool.false_eq_true, if_false, Option.map_some, List.set_cons_succ, List.find?_cons]
        cases hq : p.1 == q with
        | true =>
          have : q ≠ o := fun e => hpe ((by simpa using hq : p.1 = q).trans e)
          simp [this]
        | false => simpa using ih
/-! ### price -/
theorem foreign_c (a b : Int) : PC Tryz.prog 95 [int a, int b] (boo (a != -1 && a != b)) := by
  refine PC.body (c := Tryz.f95.body.getD .skip) (fun _ => false) mixed Tryz.func95 rfl (by kernel_rfl) ?_
  unfold Tryz.f95
  simp only [Option.getD_some]
  simp only [go_sem]
  exact .refl _
def cntO (l : List Visit) (o : Int) : Nat := l.countP fun v => v.order == o
theorem cntO_succ {l : List Visit} {k : Nat} {v : Visit} (h : l[k]? = some v) (o : Int) : cntO (l.take (k + 1)) o = cntO (l.take k) o + if v.order = o then 1 else 0 := by
  unfold cntO
  rw [take_succ h, List.countP_append]
  by_cases e : v.order = o
  · simp [e]
  · have : (v.order == o) = false := by simpa using e
    simp [e]
theorem cntO_le (l : List Visit) (k : Nat) (o : Int) : cntO (l.take k) o ≤ l.length := Nat.le_trans List.countP_le_length (by rw [List.length_take]; omega)
theorem begins_cnt {l : List Visit} {k : Nat} {v : Visit} (h : l[k]? = some v) : begins20 l k = decide (cntO (l.take k) v.order = 0) := by
  have hlt := (List.getElem?_eq_some_iff.1 h).1
  rw [Bool.eq_iff_iff]
  simp only [decide_eq_true_eq]
  unfold begins20 cntO
  rw [List.countP_eq_zero, List.all_eq_true]
  constructor
  · intro hb u hu
    obtain ⟨i, hi, rfl⟩ := List.getElem_of_mem hu
    have hi' : i < k := by simp at hi; omega
    have := hb i (List.mem_range.2 hi')
    rw [ordAt_get h, ordAt_get (List.getElem?_eq_getElem (show i < l.length by omega))] at this
    simpa using this
  · intro hb i hi
    have hi' := List.mem_range.1 hi
    have hil : i < l.length := by omega
    rw [ordAt_get h, ordAt_get (List.getElem?_eq_getElem hil)]
    have := hb l[i] (List.mem_take_iff_getElem.2 ⟨i, by omega, rfl⟩)
    simpa using this
theorem price_c (x : Instance) (r : Route) (s : Sheet) (hr : r.visits.length ≤ 1048576) : PC Tryz.prog 53 [.agg (encInstance x), .agg (encRoute r), .agg (encSheet s)] (.agg (encScore (route20 x r s))) := by
  refine PC.body (c := Tryz.f53.body.getD .skip) (fun _ => false) mixed Tryz.func53 rfl (by kernel_rfl) ?_
  unfold Tryz.f53
  simp only [Option.getD_some]
  simp only [go_sem]
  refine anew_i fun i6 hi60 => ?_
  generalize hGi6 : updH _ i6 _ = HGi6
  have R6 : HGi6 i6 = some (scRow zeroScore) := by rw [← hGi6, updH_same]; rfl
  clear hGi6 hi60
  simp only [go_sem, R6]
  refine acond_i (fun h1 => ?_) (fun h1 => ?_)
  · have h1 : badNo r.type x.types.length = true := h1
    simp only [go_sem]
    refine wputE_n R6 (by simp) ?_
    simp only [go_sem]
    have e : route20 x r s = zeroScore := by unfold route20; rw [if_pos h1]
    rw [e]
    exact .refl _
  have h1 : badNo r.type x.types.length = false := h1
  have hty : 0 ≤ r.type ∧ r.type < (x.types.length : Int) := by simp only [badNo, Bool.or_eq_false_iff, decide_eq_false_iff_not] at h1; omega
  obtain ⟨t, ht⟩ := getIn (show r.type.toNat < x.types.length by omega)
  have e : route20 x r s = routeT x r s t := by unfold route20; rw [if_neg (by rw [h1]; simp), ht]
  rw [e]
  simp only [go_sem, getD_map ht, hty]
  refine anew_i fun i7 hi70 => ?_
  have ne_i6_i7 : i6 ≠ i7 := ne_new R6 hi70
  simp only [go_sem, R6]
  refine wputE_n (updH_same _ _ _) (by simp [encVType_len]) ?_
  generalize hGi7 : updH (updH _ i7 _) i7 _ = HGi7
  replace R6 := (congrFun hGi7.symm i6).trans ((updH_ne _ _ _ _ ne_i6_i7).trans ((updH_ne _ _ _ _ ne_i6_i7).trans R6))
  have R7 : HGi7 i7 = some (typeRow t) := by rw [← hGi7, updH_same]; rfl
  clear hGi7 hi70
  simp only [go_sem, R7, R6]
  refine ⟨by decide, ?_⟩
  refine anew_i fun i10 hi100 => ?_
  have ne_i6_i10 : i6 ≠ i10 := ne_new R6 hi100
  simp only [go_sem, R6]
  refine wputE_n (updH_same _ _ _) (by simp) ?_
  generalize hGi10 : updH (updH _ i10 _) i10 _ = HGi10
  replace R6 := (congrFun hGi10.symm i6).trans ((updH_ne _ _ _ _ ne_i6_i10).trans ((updH_ne _ _ _ _ ne_i6_i10).trans R6))
  have R10 : HGi10 i10 = some (scRow (route0 t s)) := by rw [← hGi10, updH_same]; rfl
  clear hGi10 hi100
  simp only [go_sem, R10, R6]
  refine anew_i fun jm hjm => ?_
  have ne_i6_jm := ne_new R6 hjm
  have ne_i10_jm := ne_new R10 hjm
  generalize hG : updH HGi10 jm _ = HM
  have Rm : HM jm = some (mapRow []) := by rw [← hG, updH_same]; rfl
  replace R6 := (congrFun hG.symm i6).trans ((updH_ne _ _ _ _ ne_i6_jm).trans R6)
  replace R10 := (congrFun hG.symm i10).trans ((updH_ne _ _ _ _ ne_i10_jm).trans R10)
  clear hG hjm R7
  simp only [go_sem]
  refine ⟨fun ρ H => ∃ (k : Nat) (m : List (Int × Int)), k ≤ r.visits.length ∧ ρ 3 = .rp (encInstance x) 0 ∧ ρ 4 = .rp (encRoute r) 0 ∧ ρ 6 = .op i6 0 0 ∧ ρ 10 = .op i10 0 0 ∧ ρ 11 = .om jm ∧ ρ 59 = .sl (r.visits.map encVisit) ∧ ρ 60 = int r.visits.length ∧ ρ 61 = int k ∧ H i6 = some (scRow zeroScore) ∧
      H i10 = some (scRow (((List.range r.visits.length).take k).foldl (routeStep x r) (route0 t s))) ∧ H jm = some (mapRow m) ∧ ∀ o, getM m o = (cntO (r.visits.take k) o : Nat), fun ρ _ => r.visits.length - natOf (ρ 61),
    ⟨0, [], Nat.zero_le _, by simp only [go_sem], by simp only [go_sem], by simp only [go_sem], by simp only [go_sem], by simp only [go_sem], by simp only [go_sem], by simp only [go_sem, List.length_map], by simp only [go_sem]; rfl, R6, R10, Rm, fun o => rfl⟩, ?_⟩
  clear R6 R10 Rm
  rintro ρ H ⟨k, m, hk, h3, h4, h6, h10, h11, h59, h60, h61, R6, R10, Rm, hm⟩
  simp only [go_sem, h3, h4, h6, h10, h11, h59, h60, h61]
  refine acond_i (fun hlt => ?_) (fun hge => ?_)
  · have hlt := le_of_lt_b hlt
    obtain ⟨v, hv⟩ := getIn hlt
    have b1 := inB hlt
    have hs : ((List.range r.visits.length).take (k + 1)).foldl (routeStep x r) (route0 t s) = routeStep x r (((List.range r.visits.length).take k).foldl (routeStep x r) (route0 t s)) k := by
      rw [take_succ (range_get hlt), List.foldl_append]; rfl
    generalize hA : ((List.range r.visits.length).take k).foldl (routeStep x r) (route0 t s) = A at R10 hs
    have ev : ordAt r.visits k = v.order := ordAt_get hv
    have hbc := begins_cnt hv
    have hcl := cntO_le r.visits k v.order
    have hcs := cntO_succ hv
    have hmv := hm v.order
    have wm : IntKind.i64.wrap (getM m v.order + 1) = getM m v.order + 1 := wrap_in (by omega)
    simp only [go_sem, h3, h4, h6, h10, h11, h59, h60, h61, getD_map hv, b1]
    refine anew_i fun i13 hi130 => ?_
    have ne_i6_i13 : i6 ≠ i13 := ne_new R6 hi130
    have ne_i10_i13 : i10 ≠ i13 := ne_new R10 hi130
    have ne_jm_i13 : jm ≠ i13 := ne_new Rm hi130
    simp only [go_sem, h3, h4, h6, h10, h11, h59, h60, h61, R6, R10, Rm]
    refine wputE_n (updH_same _ _ _) (by simp [encVisit_len]) ?_
    generalize hGi13 : updH (updH _ i13 _) i13 _ = HGi13
    replace R6 := (congrFun hGi13.symm i6).trans ((updH_ne _ _ _ _ ne_i6_i13).trans ((updH_ne _ _ _ _ ne_i6_i13).trans R6))
    replace R10 := (congrFun hGi13.symm i10).trans ((updH_ne _ _ _ _ ne_i10_i13).trans ((updH_ne _ _ _ _ ne_i10_i13).trans R10))
    replace Rm := (congrFun hGi13.symm jm).trans ((updH_ne _ _ _ _ ne_jm_i13).trans ((updH_ne _ _ _ _ ne_jm_i13).trans Rm))
    have R13 : HGi13 i13 = some (⟨95, 2, [encVisit v]⟩) := by rw [← hGi13, updH_same]; rfl
    clear hGi13 hi130
    simp only [go_sem, h3, h4, h6, h10, h11, h59, h60, h61, R13, R6, R10, Rm]
    refine alookup_i Rm ma153 (plain_int _) (mfind_int0 _ _) zv3 ?_
    rw [mget_int]
    simp only [go_sem, h3, h4, h6, h10, h11, h59, h60, h61, R13, wm]
    refine wmapU_i Rm ma153 (plain_int _) (mfind_int0 _ _) ?_
    rw [mput_int]
    generalize hP : updH _ jm _ = HP
    replace R6 := (congrFun hP.symm i6).trans ((updH_ne _ _ _ _ (by first | exact ne_i6_jm | exact ne_jm_i6.symm)).trans R6)
    replace R10 := (congrFun hP.symm i10).trans ((updH_ne _ _ _ _ (by first | exact ne_i10_jm | exact ne_jm_i10.symm)).trans R10)
    replace R13 := (congrFun hP.symm i13).trans ((updH_ne _ _ _ _ (by first | exact ne_i13_jm | exact ne_jm_i13.symm)).trans R13)
    replace Rm : HP jm = some (mapRow (putM m v.order (getM m v.order + 1))) := by rw [← hP, updH_same]; skip
    clear hP
    simp only [go_sem, h3, h4, h6, h10, h11, h59, h60, h61, Rm, R6, R10, R13]
    have hm' : ∀ o, getM (putM m v.order (getM m v.order + 1)) o = (cntO (r.visits.take (k + 1)) o : Nat) := fun o => by
      rw [getM_put, hcs o, hm o, hm v.order]
      by_cases e : o = v.order
      · subst e; simp
      · rw [if_neg e, if_neg (fun h => e h.symm)]; rfl
    refine alookup_i Rm ma153 (plain_int _) (mfind_int0 _ _) zv3 ?_
    rw [mget_int, getM_put, if_pos rfl]
    have hdec : (badNo v.order x.orders.length || decide (getM m v.order + 1 > 1)) = (badNo v.order x.orders.length || !begins20 r.visits k) := by
      rw [hbc, hmv]
      congr 1
      rw [Bool.eq_iff_iff]; simp; omega
    simp only [go_sem, h3, h4, h6, h10, h11, h59, h60, h61, R13]
    refine acond_i (fun hb => ?_) (fun hb => ?_)
    · have hb' : (badNo v.order x.orders.length || !begins20 r.visits k) = true := hdec ▸ hb
      have e : routeStep x r A k = A := by unfold routeStep; rw [ev, if_pos hb']
      simp only [go_sem, h3, h4, h6, h10, h11, h59, h60, h61, wrapS (show k ≤ 4611686018427387904 by omega)]
      exact ⟨⟨k + 1, _, hlt, rfl, R6, by rw [hs, e]; exact R10, Rm, hm'⟩, by simp only [natOf_int]; omega⟩
    have hb' : (badNo v.order x.orders.length || !begins20 r.visits k) = false := hdec ▸ hb
    have hno : badNo v.order x.orders.length = false := (Bool.or_eq_false_iff.1 hb').1
    have hio : 0 ≤ v.order ∧ v.order < (x.orders.length : Int) := by
      simp only [badNo, Bool.or_eq_false_iff, decide_eq_false_iff_not] at hno; omega
    obtain ⟨o, ho⟩ := getIn (show v.order.toNat < x.orders.length by omega)
    have e : routeStep x r A k = otherS o r.type (moveS o r.type A) := by
      unfold routeStep
      rw [ev, if_neg (by rw [hb']; simp), ho]
    rw [e] at hs
    simp only [go_sem, h3, h4, h6, h10, h11, h59, h60, h61, R13, getD_map ho, hio]
    refine anew_i fun i14 hi140 => ?_
    have ne_i6_i14 : i6 ≠ i14 := ne_new R6 hi140
    have ne_i10_i14 : i10 ≠ i14 := ne_new R10 hi140
    have ne_jm_i14 : jm ≠ i14 := ne_new Rm hi140
    simp only [go_sem, h3, h4, h6, h10, h11, h59, h60, h61, R6, R10, Rm]
    refine wputE_n (updH_same _ _ _) (by simp [encOrder_len]) ?_
    generalize hGi14 : updH (updH _ i14 _) i14 _ = HGi14
    replace R6 := (congrFun hGi14.symm i6).trans ((updH_ne _ _ _ _ ne_i6_i14).trans ((updH_ne _ _ _ _ ne_i6_i14).trans R6))
    replace R10 := (congrFun hGi14.symm i10).trans ((updH_ne _ _ _ _ ne_i10_i14).trans ((updH_ne _ _ _ _ ne_i10_i14).trans R10))
    replace Rm := (congrFun hGi14.symm jm).trans ((updH_ne _ _ _ _ ne_jm_i14).trans ((updH_ne _ _ _ _ ne_jm_i14).trans Rm))
    have R14 : HGi14 i14 = some (orderRow o) := by rw [← hGi14, updH_same]; rfl
    clear hGi14 hi140
    simp only [go_sem, h3, h4, h6, h10, h11, h59, h60, h61, R14, R6, R10, Rm]
    refine PC.use (foreign_c o.now r.type) ?_
    simp only [go_sem, h3, h4, h6, h10, h11, h59, h60, h61]
    refine acond_join (fun ρ' H' => ρ' 3 = .rp (encInstance x) 0 ∧ ρ' 4 = .rp (encRoute r) 0 ∧ ρ' 6 = .op i6 0 0 ∧ ρ' 10 = .op i10 0 0 ∧ ρ' 11 = .om jm ∧ ρ' 14 = .op i14 0 0 ∧ ρ' 59 = .sl (r.visits.map encVisit) ∧ ρ' 60 = int r.visits.length ∧ ρ' 61 = int k ∧ H' i6 = some (scRow zeroScore) ∧ H' i14 = some (orderRow o) ∧ H' jm = some (mapRow (putM m v.order (getM m v.order + 1))) ∧ H' i10 = some (scRow (moveS o r.type A))) ?_ fun K hK => acond_i (fun hb => ?_) (fun hb => ?_)
    rotate_left
    · simp only [go_sem, h3, h4, h6, h10, h11, h59, h60, h61, R10]
      refine wputE_1 so3 R10 ⟨by simp, rfl, by simp⟩ ?_
      generalize hP : updH _ i10 _ = HP
      replace R6 := (congrFun hP.symm i6).trans ((updH_ne _ _ _ _ (by first | exact ne_i6_i10 | exact ne_i10_i6.symm)).trans R6)
      replace R14 := (congrFun hP.symm i14).trans ((updH_ne _ _ _ _ (by first | exact ne_i14_i10 | exact ne_i10_i14.symm)).trans R14)
      replace Rm := (congrFun hP.symm jm).trans ((updH_ne _ _ _ _ (by first | exact ne_jm_i10 | exact ne_i10_jm.symm)).trans Rm)
      replace R10 : HP i10 = some (scRow (moveS o r.type A)) := by rw [← hP, updH_same]; (rw [moveS, if_pos (show movedB o r.type = true from hb)]; rfl)
      clear hP
      simp only [go_sem, h3, h4, h6, h10, h11, h59, h60, h61, R10, R6, R14, Rm]
      exact hK _ _ ⟨by simp only [go_sem, h3], by simp only [go_sem, h4], by simp only [go_sem, h6], by simp only [go_sem, h10], by simp only [go_sem, h11], by simp only [go_sem], by simp only [go_sem, h59], by simp only [go_sem, h60], by simp only [go_sem, h61], R6, R14, Rm, R10⟩
    · simp only [go_sem]
      refine hK _ _ ⟨by simp only [go_sem, h3], by simp only [go_sem, h4], by simp only [go_sem, h6], by simp only [go_sem, h10], by simp only [go_sem, h11], by simp only [go_sem], by simp only [go_sem, h59], by simp only [go_sem, h60], by simp only [go_sem, h61], R6, R14, Rm, ?_⟩
      rw [moveS, if_neg (by rw [show movedB o r.type = false from hb]; simp)]; exact R10
    clear R6 R10 Rm R14 h3 h4 h6 h10 h11 h59 h60 h61
    rintro ρ H ⟨h3, h4, h6, h10, h11, h14, h59, h60, h61, R6, R14, Rm, R10⟩
    simp only [go_sem, h3, h4, h6, h10, h11, h14, h59, h60, h61, R14]
    refine PC.use (foreign_c o.last r.type) ?_
    simp only [go_sem, h3, h4, h6, h10, h11, h14, h59, h60, h61]
    refine acond_i (fun hb => ?_) (fun hb => ?_)
    · simp only [go_sem, h3, h4, h6, h10, h11, h14, h59, h60, h61, R10]
      refine wputE_1 so3 R10 ⟨by simp, rfl, by simp⟩ ?_
      generalize hP : updH _ i10 _ = HP
      replace R6 := (congrFun hP.symm i6).trans ((updH_ne _ _ _ _ (by first | exact ne_i6_i10 | exact ne_i10_i6.symm)).trans R6)
      replace R14 := (congrFun hP.symm i14).trans ((updH_ne _ _ _ _ (by first | exact ne_i14_i10 | exact ne_i10_i14.symm)).trans R14)
      replace Rm := (congrFun hP.symm jm).trans ((updH_ne _ _ _ _ (by first | exact ne_jm_i10 | exact ne_i10_jm.symm)).trans Rm)
      replace R10 : HP i10 = some (scRow (otherS o r.type (moveS o r.type A))) := by rw [← hP, updH_same]; (rw [otherS, if_pos (show otherB o r.type = true from hb)]; rfl)
      clear hP
      simp only [go_sem, h3, h4, h6, h10, h11, h14, h59, h60, h61, wrapS (show k ≤ 4611686018427387904 by omega), R10, R6, R14, Rm]
      exact ⟨⟨k + 1, putM m v.order (getM m v.order + 1), hlt, rfl, by rw [hs], rfl, hm'⟩, by simp only [natOf_int]; omega⟩
    · simp only [go_sem, h3, h4, h6, h10, h11, h14, h59, h60, h61, wrapS (show k ≤ 4611686018427387904 by omega)]
      exact ⟨⟨k + 1, _, hlt, rfl, R6, by rw [hs, otherS, if_neg (by rw [show otherB o r.type = false from hb]; simp)]; exact R10, Rm, hm'⟩, by simp only [natOf_int]; omega⟩
  · have hge := eq_of_ge_b hk hge
    subst hge
    rw [List.take_of_length_le (by simp)] at R10
    simp only [go_sem, h6, h10, R10]
    refine wputE_n R6 (by simp [encScore_len]) ?_
    simp only [go_sem, h6]
    exact .refl _
/-! ### route -/
def skillP (x : Instance) (r : Route) (v : Visit) : Bool := match x.types[r.type.toNat]?, x.orders[v.order.toNat]? with
  | some t, some o => ableP t.skills o.skills
  | _, _ => false
def ableR (x : Instance) (r : Route) : Int := if (r.visits.any fun v => !skillP x r v) = true then 18 else 0
theorem rable_c (x : Instance) (r : Route) (hr : r.visits.length ≤ 1048576) (hty : 0 ≤ r.type ∧ r.type < (x.types.length : Int)) (hin : ∀ v ∈ r.visits, 0 ≤ v.order ∧ v.order < (x.orders.length : Int)) :
    PC Tryz.prog 50 [.agg (encInstance x), .agg (encRoute r)] (int (ableR x r)) := by
  obtain ⟨t, ht⟩ := getIn (show r.type.toNat < x.types.length by omega)
  refine PC.body (c := Tryz.f50.body.getD .skip) (fun _ => false) mixed Tryz.func50 rfl (by kernel_rfl) ?_
  unfold Tryz.f50
  simp only [Option.getD_some]
  simp only [go_sem]
  refine ⟨fun ρ _ => ∃ k : Nat, k ≤ r.visits.length ∧ ρ 2 = .rp (encInstance x) 0 ∧ ρ 3 = .rp (encRoute r) 0 ∧ ρ 8 = .sl (r.visits.map encVisit) ∧ ρ 9 = int r.visits.length ∧ ρ 10 = int k ∧ ∀ v ∈ r.visits.take k, (!skillP x r v) = false, fun ρ _ => r.visits.length - natOf (ρ 10), ⟨0, Nat.zero_le _, rfl, rfl, rfl, by simp only [go_sem, List.length_map], rfl, by simp⟩, ?_⟩
  rintro ρ H ⟨k, hk, h2, h3, h8, h9, h10, hz⟩
  simp only [go_sem, h2, h3, h8, h9, h10]
  refine acond_i (fun hlt => ?_) (fun hge => ?_)
  · have hlt := le_of_lt_b hlt
    obtain ⟨v, hv⟩ := getIn hlt
    have b1 := inB hlt
    have hiv := hin v (List.mem_of_getElem? hv)
    obtain ⟨o, ho⟩ := getIn (show v.order.toNat < x.orders.length by omega)
    have es : skillP x r v = ableP t.skills o.skills := by unfold skillP; rw [ht, ho]
    simp only [go_sem, h2, h3, h8, h9, h10, getD_map hv, b1]
    refine anew_i fun i6 hi60 => ?_
    simp only [go_sem, h2, h3, h8, h9, h10]
    refine wputE_n (updH_same _ _ _) (by simp [encVisit_len]) ?_
    generalize hGi6 : updH (updH _ i6 _) i6 _ = HGi6
    have R6 : HGi6 i6 = some (⟨95, 2, [encVisit v]⟩) := by rw [← hGi6, updH_same]; rfl
    clear hGi6 hi60
    simp only [go_sem, h2, h3, h8, h9, h10, R6]
    refine adraw_p [i6] [(0, true), (1, true), (2, true), (3, true), (4, true), (5, true), (6, true), (7, true), (8, true), (9, true), (10, true), (11, true), (12, true), (13, true), (14, true)] (by simp [R6]) (by kernel_rfl) fun Hp Hr hp hr' _ hr0 => ?_
    have P6 := (hp i6 (by simp)).trans R6
    simp only [go_sem, h2, h3, h8, h9, h10, P6, getD_map ht, hty, getD_map ho, hiv]
    refine ⟨_, (able_c t o.skills).q rfl, ?_⟩
    simp only [go_sem, h2, h3, h8, h9, h10]
    refine pinEnd_i fun _ Hm _ _ => ?_
    simp only [go_sem, h2, h3, h8, h9, h10]
    refine acond_i (fun hb => ?_) (fun hb => ?_)
    · simp only [go_sem]
      exact convI (by unfold ableR; rw [if_pos (List.any_eq_true.2 ⟨v, List.mem_of_getElem? hv, by rw [es]; exact hb⟩)])
    · simp only [go_sem, h2, h3, h8, h9, h10, wrapS (show k ≤ 4611686018427387904 by omega)]
      exact ⟨⟨k + 1, hlt, rfl, take_allP (p := fun v => (!skillP x r v) = false) hv (by rw [es]; exact hb) hz⟩, by simp only [natOf_int]; omega⟩
  · have hge := eq_of_ge_b hk hge
    subst hge
    rw [List.take_length] at hz
    simp only [go_sem]
    exact convI (by unfold ableR; rw [if_neg (by rw [any_no hz]; simp)])
def evalP (x : Instance) (r : Route) : Sheet × Score × Int :=
  if badNo r.type x.types.length = true then (zeroSheet, zeroScore, 2)
  else if (seqP x r.visits != 0) = true then (zeroSheet, zeroScore, seqP x r.visits)
  else if (ableR x r != 0) = true then (zeroSheet, zeroScore, ableR x r)
  else if (cFits x r != 0) = true then (zeroSheet, zeroScore, cFits x r)
  else if ((bestP x r).2 != 0) = true then (zeroSheet, zeroScore, (bestP x r).2)
  else ((bestP x r).1, route20 x r (bestP x r).1, 0)
structure EvalB (x : Instance) : Prop where
  net : NetOk x.net
  load : LoadB x
  apart : x.apart.length ≤ 1048576
  before : x.before.length ≤ 1048576
abbrev fnsL : List (List AV) := [[.v (.func (.func 49) #[] #[])], [.v (.func (.func 50) #[] #[])], [.v (.func (.func 51) #[] #[])]]
theorem evaluate_c (x : Instance) (r : Route) (hx : EvalB x) (hr : r.visits.length ≤ 1048575) : PC Tryz.prog 33 [.agg (encInstance x), .agg (encRoute r)] (.tup [.agg (encSheet (evalP x r).1), .agg (encScore (evalP x r).2.1), int (evalP x r).2.2]) := by
  refine PC.body (c := Tryz.f33.body.getD .skip) (fun _ => false) mixed Tryz.func33 rfl (by kernel_rfl) ?_
  unfold Tryz.f33
  simp only [Option.getD_some]
  simp only [go_sem]
  refine anew_i fun i4 hi40 => ?_
  generalize hGi4 : updH _ i4 _ = HGi4
  have R4 : HGi4 i4 = some (sheetRow (encSheet zeroSheet)) := by rw [← hGi4, updH_same]; rfl
  clear hGi4 hi40
  simp only [go_sem, R4]
  refine anew_i fun i5 hi50 => ?_
  have ne_i4_i5 : i4 ≠ i5 := ne_new R4 hi50
  generalize hGi5 : updH _ i5 _ = HGi5
  replace R4 := (congrFun hGi5.symm i4).trans ((updH_ne _ _ _ _ ne_i4_i5).trans R4)
  have R5 : HGi5 i5 = some (scRow zeroScore) := by rw [← hGi5, updH_same]; rfl
  clear hGi5 hi50
  simp only [go_sem, R5, R4]
  refine acond_i (fun h1 => ?_) (fun h1 => ?_)
  · have h1 : badNo r.type x.types.length = true := h1
    simp only [go_sem]
    refine wputE_n R4 (by simp) ?_
    generalize hP : updH _ i4 _ = HP
    replace R5 := (congrFun hP.symm i5).trans ((updH_ne _ _ _ _ (by first | exact ne_i5_i4 | exact ne_i4_i5.symm)).trans R5)
    replace R4 : HP i4 = some (sheetRow (encSheet zeroSheet)) := by rw [← hP, updH_same]; rfl
    clear hP
    simp only [go_sem, R4, R5]
    refine wputE_n R5 (by simp) ?_
    generalize hP : updH _ i5 _ = HP
    replace R4 := (congrFun hP.symm i4).trans ((updH_ne _ _ _ _ (by first | exact ne_i4_i5 | exact ne_i5_i4.symm)).trans R4)
    replace R5 : HP i5 = some (scRow zeroScore) := by rw [← hP, updH_same]; rfl
    clear hP
    simp only [go_sem, R5, R4]
    have e : evalP x r = (zeroSheet, zeroScore, 2) := by unfold evalP; rw [if_pos h1]
    rw [e]
    exact .refl _
  have c1 : ¬ badNo r.type x.types.length = true := by rw [show badNo r.type x.types.length = false from h1]; simp
  have hty : 0 ≤ r.type ∧ r.type < (x.types.length : Int) := by
    have h1 : badNo r.type x.types.length = false := h1
    simp only [badNo, Bool.or_eq_false_iff, decide_eq_false_iff_not] at h1; omega
  simp only [go_sem]
  refine ⟨fun ρ H => ∃ (k : Nat), k ≤ 3 ∧ ρ 2 = .rp (encInstance x) 0 ∧ ρ 3 = .rp (encRoute r) 0 ∧ ρ 4 = .op i4 0 0 ∧ ρ 5 = .op i5 0 0 ∧ ρ 25 = .sl fnsL ∧ ρ 26 = int 3 ∧ ρ 27 = int k ∧ H i4 = some (sheetRow (encSheet zeroSheet)) ∧ H i5 = some (scRow zeroScore) ∧ (0 < k → seqP x r.visits = 0) ∧ (1 < k → ableR x r = 0) ∧ (2 < k → cFits x r = 0), fun ρ _ => 3 - natOf (ρ 27),
    ⟨0, Nat.zero_le _, by simp only [go_sem], by simp only [go_sem], by simp only [go_sem], by simp only [go_sem], by simp only [go_sem], by simp only [go_sem]; rfl, by simp only [go_sem]; rfl, R4, R5, fun h => absurd h (by decide), fun h => absurd h (by decide), fun h => absurd h (by decide)⟩, ?_⟩
  clear R4 R5
  rintro ρ H ⟨k, hk, h2, h3, h4, h5, h25, h26, h27, R4, R5, q1, q2, q3⟩
  simp only [go_sem, h2, h3, h4, h5, h25, h26, h27]
  refine acond_i (fun hlt => ?_) (fun hge => ?_)
  · have hlt : k < 3 := by simp at hlt; omega
    have hc : k = 0 ∨ k = 1 ∨ k = 2 := by omega
    rcases hc with rfl | rfl | rfl
    · simp only [go_sem, h2, h3, h4, h5, h25, h26, h27]
      refine ⟨by decide, PC.use (seqCheck_c x r (by omega) hx.apart hx.before) ?_⟩
      simp only [go_sem, h2, h3, h4, h5, h25, h26, h27]
      refine acond_i (fun hb => ?_) (fun hb => ?_)
      · have e : evalP x r = (zeroSheet, zeroScore, seqP x r.visits) := by unfold evalP; rw [if_neg c1, if_pos hb]
        simp only [go_sem, h2, h3, h4, h5, h25, h26, h27]
        refine wputE_n R4 (by simp) ?_
        generalize hP : updH _ i4 _ = HP
        replace R5 := (congrFun hP.symm i5).trans ((updH_ne _ _ _ _ (by first | exact ne_i5_i4 | exact ne_i4_i5.symm)).trans R5)
        replace R4 : HP i4 = some (sheetRow (encSheet zeroSheet)) := by rw [← hP, updH_same]; rfl
        clear hP
        simp only [go_sem, h2, h3, h4, h5, h25, h26, h27, R4, R5]
        refine wputE_n R5 (by simp) ?_
        generalize hP : updH _ i5 _ = HP
        replace R4 := (congrFun hP.symm i4).trans ((updH_ne _ _ _ _ (by first | exact ne_i4_i5 | exact ne_i5_i4.symm)).trans R4)
        replace R5 : HP i5 = some (scRow zeroScore) := by rw [← hP, updH_same]; rfl
        clear hP
        simp only [go_sem, h2, h3, h4, h5, h25, h26, h27, R5, R4]
        rw [e]
        exact .refl _
      · simp only [go_sem, h2, h3, h4, h5, h25, h26, h27]
        exact ⟨⟨1, by decide, rfl, R4, R5, fun _ => by simpa using hb, fun h => absurd h (by decide), fun h => absurd h (by decide)⟩, by simp only [natOf_int]; decide⟩
    · simp only [go_sem, h2, h3, h4, h5, h25, h26, h27]
      refine ⟨by decide, PC.use (rable_c x r (by omega) hty (seq_in (q1 (by decide)))) ?_⟩
      simp only [go_sem, h2, h3, h4, h5, h25, h26, h27]
      refine acond_i (fun hb => ?_) (fun hb => ?_)
      · have e : evalP x r = (zeroSheet, zeroScore, ableR x r) := by unfold evalP; rw [if_neg c1, q1 (by decide), if_neg (by decide), if_pos hb]
        simp only [go_sem, h2, h3, h4, h5, h25, h26, h27]
        refine wputE_n R4 (by simp) ?_
        generalize hP : updH _ i4 _ = HP
        replace R5 := (congrFun hP.symm i5).trans ((updH_ne _ _ _ _ (by first | exact ne_i5_i4 | exact ne_i4_i5.symm)).trans R5)
        replace R4 : HP i4 = some (sheetRow (encSheet zeroSheet)) := by rw [← hP, updH_same]; rfl
        clear hP
        simp only [go_sem, h2, h3, h4, h5, h25, h26, h27, R4, R5]
        refine wputE_n R5 (by simp) ?_
        generalize hP : updH _ i5 _ = HP
        replace R4 := (congrFun hP.symm i4).trans ((updH_ne _ _ _ _ (by first | exact ne_i4_i5 | exact ne_i5_i4.symm)).trans R4)
        replace R5 : HP i5 = some (scRow zeroScore) := by rw [← hP, updH_same]; rfl
        clear hP
        simp only [go_sem, h2, h3, h4, h5, h25, h26, h27, R5, R4]
        rw [e]
        exact .refl _
      · simp only [go_sem, h2, h3, h4, h5, h25, h26, h27]
        exact ⟨⟨2, by decide, rfl, R4, R5, fun _ => q1 (by decide), fun _ => by simpa using hb, fun h => absurd h (by decide)⟩, by simp only [natOf_int]; decide⟩
    · simp only [go_sem, h2, h3, h4, h5, h25, h26, h27]
      refine ⟨by decide, PC.use (cfits_c x r hx.load hr hx.apart hx.before) ?_⟩
      simp only [go_sem, h2, h3, h4, h5, h25, h26, h27]
      refine acond_i (fun hb => ?_) (fun hb => ?_)
      · have e : evalP x r = (zeroSheet, zeroScore, cFits x r) := by unfold evalP; rw [if_neg c1, q1 (by decide), if_neg (by decide), q2 (by decide), if_neg (by decide), if_pos hb]
        simp only [go_sem, h2, h3, h4, h5, h25, h26, h27]
        refine wputE_n R4 (by simp) ?_
        generalize hP : updH _ i4 _ = HP
        replace R5 := (congrFun hP.symm i5).trans ((updH_ne _ _ _ _ (by first | exact ne_i5_i4 | exact ne_i4_i5.symm)).trans R5)
        replace R4 : HP i4 = some (sheetRow (encSheet zeroSheet)) := by rw [← hP, updH_same]; rfl
        clear hP
        simp only [go_sem, h2, h3, h4, h5, h25, h26, h27, R4, R5]
        refine wputE_n R5 (by simp) ?_
        generalize hP : updH _ i5 _ = HP
        replace R4 := (congrFun hP.symm i4).trans ((updH_ne _ _ _ _ (by first | exact ne_i4_i5 | exact ne_i5_i4.symm)).trans R4)
        replace R5 : HP i5 = some (scRow zeroScore) := by rw [← hP, updH_same]; rfl
        clear hP
        simp only [go_sem, h2, h3, h4, h5, h25, h26, h27, R5, R4]
        rw [e]
        exact .refl _
      · simp only [go_sem, h2, h3, h4, h5, h25, h26, h27]
        exact ⟨⟨3, by decide, rfl, R4, R5, fun _ => q1 (by decide), fun _ => q2 (by decide), fun _ => by simpa using hb⟩, by simp only [natOf_int]; decide⟩
  have hge : k = 3 := by simp at hge; omega
  subst hge
  have e1 := q1 (by decide)
  have e2 := q2 (by decide)
  have e3 := q3 (by decide)
  have eE : evalP x r = if ((bestP x r).2 != 0) = true then (zeroSheet, zeroScore, (bestP x r).2) else ((bestP x r).1, route20 x r (bestP x r).1, 0) := by
    unfold evalP
    rw [if_neg c1, e1, e2, e3]; rfl
  rw [eE]
  simp only [go_sem, h2, h3, h4, h5]
  refine PC.use (best_c x r hx.net (by omega)) ?_
  simp only [go_sem, h2, h3, h4, h5]
  refine anew_i fun i10 hi100 => ?_
  have ne_i4_i10 : i4 ≠ i10 := ne_new R4 hi100
  have ne_i5_i10 : i5 ≠ i10 := ne_new R5 hi100
  simp only [go_sem, h2, h3, h4, h5, R4, R5]
  refine wputE_n (updH_same _ _ _) (by simp [encSheet_len]) ?_
  generalize hGi10 : updH (updH _ i10 _) i10 _ = HGi10
  replace R4 := (congrFun hGi10.symm i4).trans ((updH_ne _ _ _ _ ne_i4_i10).trans ((updH_ne _ _ _ _ ne_i4_i10).trans R4))
  replace R5 := (congrFun hGi10.symm i5).trans ((updH_ne _ _ _ _ ne_i5_i10).trans ((updH_ne _ _ _ _ ne_i5_i10).trans R5))
  have R10 : HGi10 i10 = some (sheetRow (encSheet (bestP x r).1)) := by rw [← hGi10, updH_same]; rfl
  clear hGi10 hi100
  simp only [go_sem, h2, h3, h4, h5, R10, R4, R5]
  refine acond_i (fun hb => ?_) (fun hb => ?_)
  · rw [if_pos hb]
    simp only [go_sem, h2, h3, h4, h5]
    refine wputE_n R4 (by simp) ?_
    generalize hP : updH _ i4 _ = HP
    replace R5 := (congrFun hP.symm i5).trans ((updH_ne _ _ _ _ (by first | exact ne_i5_i4 | exact ne_i4_i5.symm)).trans R5)
    replace R4 : HP i4 = some (sheetRow (encSheet zeroSheet)) := by rw [← hP, updH_same]; rfl
    clear hP
    simp only [go_sem, h2, h3, h4, h5, R4, R5]
    refine wputE_n R5 (by simp) ?_
    generalize hP : updH _ i5 _ = HP
    replace R4 := (congrFun hP.symm i4).trans ((updH_ne _ _ _ _ (by first | exact ne_i4_i5 | exact ne_i5_i4.symm)).trans R4)
    replace R5 : HP i5 = some (scRow zeroScore) := by rw [← hP, updH_same]; rfl
    clear hP
    simp only [go_sem, h2, h3, h4, h5, R5, R4]
    exact .refl _
  · rw [if_neg (by rw [hb]; simp)]
    simp only [go_sem, h2, h3, h4, h5]
    refine adraw_p [i10] [(0, true), (1, true), (2, true), (3, true), (4, true), (5, false), (6, false), (7, false)] (by simp [R10]) (by kernel_rfl) fun Hp Hr hp hr' _ hr0 => ?_
    have P10 := (hp i10 (by simp)).trans R10
    have P4 := (hr' i4 (by simp [ne_i4_i10])).trans R4
    have P5 := (hr' i5 (by simp [ne_i5_i10])).trans R5
    simp only [go_sem, h2, h3, h4, h5, P10]
    refine ⟨_, (price_c x r (bestP x r).1 (by omega)).q rfl, ?_⟩
    simp only [go_sem, h2, h3, h4, h5, P10]
    refine wputE_n P4 (by simp [encSheet_len]) ?_
    generalize hP : updH _ i4 _ = HP
    replace P5 := (congrFun hP.symm i5).trans ((updH_ne _ _ _ _ (by first | exact ne_i5_i4 | exact ne_i4_i5.symm)).trans P5)
    replace P4 : HP i4 = some (sheetRow (encSheet (bestP x r).1)) := by rw [← hP, updH_same]; rfl
    clear hP
    simp only [go_sem, h2, h3, h4, h5, P4, P5]
    refine wputE_n P5 (by simp [encScore_len]) ?_
    generalize hP : updH _ i5 _ = HP
    replace P4 := (congrFun hP.symm i4).trans ((updH_ne _ _ _ _ (by first | exact ne_i4_i5 | exact ne_i5_i4.symm)).trans P4)
    replace P5 : HP i5 = some (scRow (route20 x r (bestP x r).1)) := by rw [← hP, updH_same]; rfl
    clear hP
    simp only [go_sem, h2, h3, h4, h5, P5, P4]
    refine pinEnd_i fun _ Hm _ hm2 => ?_
    have M4 := (hm2 i4 (by simp [ne_i4_i10])).trans P4
    have M5 := (hm2 i5 (by simp [ne_i5_i10])).trans P5
    simp only [go_sem, h4, h5, M4, M5]
    exact .refl _
theorem valid_c (x : Instance) (r : Route) (hx : EvalB x) (hr : r.visits.length ≤ 1048575) : PC Tryz.prog 16 [.agg (encInstance x), .agg (encRoute r)] (int (evalP x r).2.2) := by
  refine PC.body (c := Tryz.f16.body.getD .skip) (fun _ => false) mixed Tryz.func16 rfl (by kernel_rfl) ?_
  unfold Tryz.f16
  simp only [Option.getD_some]
  simp only [go_sem]
  refine PC.use (evaluate_c x r hx hr) ?_
  simp only [go_sem]
  refine anew_i fun i5 hi50 => ?_
  generalize hGi5 : updH _ i5 _ = HGi5
  have R5 : HGi5 i5 = some (sheetRow (encSheet zeroSheet)) := by rw [← hGi5, updH_same]; rfl
  clear hGi5 hi50
  simp only [go_sem, R5]
  refine anew_i fun i6 hi60 => ?_
  have ne_i5_i6 : i5 ≠ i6 := ne_new R5 hi60
  generalize hGi6 : updH _ i6 _ = HGi6
  replace R5 := (congrFun hGi6.symm i5).trans ((updH_ne _ _ _ _ ne_i5_i6).trans R5)
  have R6 : HGi6 i6 = some (scRow zeroScore) := by rw [← hGi6, updH_same]; rfl
  clear hGi6 hi60
  simp only [go_sem, R6, R5]
  refine wputE_n R5 (by simp [encSheet_len]) ?_
  generalize hP : updH _ i5 _ = HP
  replace R6 := (congrFun hP.symm i6).trans ((updH_ne _ _ _ _ (by first | exact ne_i6_i5 | exact ne_i5_i6.symm)).trans R6)
  replace R5 : HP i5 = some (sheetRow (encSheet (evalP x r).1)) := by rw [← hP, updH_same]; rfl
  clear hP
  simp only [go_sem, R5, R6]
  refine wputE_n R6 (by simp [encScore_len]) ?_
  generalize hP : updH _ i6 _ = HP
  replace R5 := (congrFun hP.symm i5).trans ((updH_ne _ _ _ _ (by first | exact ne_i5_i6 | exact ne_i6_i5.symm)).trans R5)
  replace R6 : HP i6 = some (scRow (evalP x r).2.1) := by rw [← hP, updH_same]; rfl
  clear hP
  simp only [go_sem, R6, R5]
  exact .refl _
end Go.Proofs.YtbefdpmjpioijaaGreatDoor.Sq
