/- audit.Plan -/
import Derived.Test.YtbefdpmjpioijaaGreatDoorAuK
set_option linter.unusedSimpArgs false
set_option linter.unusedVariables false
namespace Go.Proofs.YtbefdpmjpioijaaGreatDoor.Sq
open Go.Aw Go.Aw.D Go.Proofs Ty
open Mv (convI convB convA NC.pc take_allP)
set_option maxRecDepth 100000

def evR (x : Instance) (r : Route) : Int := (evalP x r).2.2
structure PlanS (x : Instance) (p : Plan) : Prop where
  routes : p.routes.length ≤ 19
  unserved : p.unserved.length ≤ 19
  orders : x.orders.length ≤ 19
  types : x.types.length ≤ 19
  visits : ∀ r ∈ p.routes, r.visits.length ≤ 1048575
theorem row_eq {l l' : List Int} (h : l = l') : (some (intRow l) : Option Row) = some (intRow l') := h ▸ rfl
theorem set_row {l : List Int} {k : Nat} {v : Int} {y : Int} (h : l[k]? = some y) : ((intRow l).es.set k (setAt ((intRow l).es.getD k []) 0 [int v])) = (l.set k v).map encInt := by
  show (l.map encInt).set k (setAt ((l.map encInt).getD k []) 0 [int v]) = _
  rw [getD_map h, List.map_set]; rfl
theorem aplan_c (x : Instance) (p : Plan) (hx : EvalB x) (hp : PlanS x p) : PC Tryz.prog 8 [.agg (encInstance x), .agg (encPlan p)] (.sl ((planF (evR x) x p).map encFault)) := by
  have hr19 := hp.routes
  have hu19 := hp.unserved
  have ho19 := hp.orders
  have ht19 := hp.types
  refine PC.body (c := Tryz.f8.body.getD .skip) (fun t => t == 5) mixed Tryz.func8 rfl (by kernel_rfl) ?_
  unfold Tryz.f8
  simp only [Option.getD_some]
  simp only [go_sem]
  refine acond_i (fun h1 => by exfalso; simp at h1; omega) (fun h1 => ?_)
  have eP : planF (evR x) x p = routesF (evR x) p.routes p.routes.length ++ ordersF x p x.orders.length ++ unservedF x p p.unserved.length ++ typesF x p x.types.length := by
    unfold planF
    rw [if_neg (by simp; omega)]
  rw [eP]
  simp only [go_sem]
  refine anew_i fun j hj => ?_
  refine anew_i fun i5 hi5 => ?_
  have nj5 : j ≠ i5 := fun e => by rw [← e, updH_same] at hi5; cases hi5
  generalize hG : updH (updH noRows j _) i5 _ = H0
  have R5 : H0 i5 = some (repRow j) := by rw [← hG, updH_same]
  have Rj : H0 j = some (faultRow []) := by rw [← hG, updH_ne _ _ _ _ nj5, updH_same]; rfl
  clear hG hj hi5 nj5
  simp only [go_sem]
  refine ⟨⟨by omega, by omega⟩, ?_⟩
  refine anew_i fun j6 hj6 => ?_
  have ne_i5_j6 := ne_new R5 hj6
  have ne_j_j6 := ne_new Rj hj6
  generalize hG : updH H0 j6 _ = H1
  replace R5 := (congrFun hG.symm i5).trans ((updH_ne _ _ _ _ ne_i5_j6).trans R5)
  replace Rj := (congrFun hG.symm j).trans ((updH_ne _ _ _ _ ne_j_j6).trans Rj)
  have R6 : H1 j6 = some (intRow (servedL x.orders.length [])) := by
    rw [← hG, updH_same]
    simp only [servedL, cntB, List.countP_nil, intRow, List.map_map]
    simp [encInt, Function.comp_def, List.map_const']
  clear hG hj6
  simp only [go_sem]
  refine ⟨⟨by omega, by omega⟩, ?_⟩
  refine anew_i fun j7 hj7 => ?_
  have ne_i5_j7 := ne_new R5 hj7
  have ne_j_j7 := ne_new Rj hj7
  have ne_j6_j7 := ne_new R6 hj7
  generalize hG : updH H1 j7 _ = H2
  replace R5 := (congrFun hG.symm i5).trans ((updH_ne _ _ _ _ ne_i5_j7).trans R5)
  replace Rj := (congrFun hG.symm j).trans ((updH_ne _ _ _ _ ne_j_j7).trans Rj)
  replace R6 := (congrFun hG.symm j6).trans ((updH_ne _ _ _ _ ne_j6_j7).trans R6)
  have R7 : H2 j7 = some (intRow (usedL x.types.length [])) := by
    rw [← hG, updH_same]
    simp only [usedL, cntB, List.countP_nil, intRow, List.map_map]
    simp [encInt, Function.comp_def, List.map_const']
  clear hG hj7
  simp only [go_sem]
  have hsl : ∀ l, (servedL x.orders.length l).length = x.orders.length := fun l => by simp [servedL]
  have hul : ∀ l, (usedL x.types.length l).length = x.types.length := fun l => by simp [usedL]
  refine ⟨fun ρ H => ∃ (i j : Nat), i ≤ p.routes.length ∧ ρ 2 = .rp (encInstance x) 0 ∧ ρ 3 = .rp (encPlan p) 0 ∧ ρ 5 = .op i5 0 0 ∧ ρ 6 = .os j6 ∧ ρ 7 = .os j7 ∧ ρ 45 = .sl (p.routes.map encRoute) ∧ ρ 46 = int p.routes.length ∧ ρ 47 = int i ∧ H i5 = some (repRow j) ∧ H j = some (faultRow (routesF (evR x) p.routes i)) ∧
      H j6 = some (intRow (servedL x.orders.length (p.routes.take i))) ∧ H j7 = some (intRow (usedL x.types.length (p.routes.take i))), fun ρ _ => p.routes.length - natOf (ρ 47),
    ⟨0, j, Nat.zero_le _, by simp only [go_sem], by simp only [go_sem], by simp only [go_sem], by simp only [go_sem], by simp only [go_sem], by simp only [go_sem], by simp only [go_sem, List.length_map], by simp only [go_sem]; rfl, R5, Rj, R6, R7⟩, ?_⟩
  clear R5 Rj R6 R7 ne_j_j6 ne_j_j7 j
  rintro ρ H ⟨i, j, hi, h2, h3, h5, h6, h7, h45, h46, h47, R5, Rj, R6, R7⟩
  simp only [go_sem, h2, h3, h5, h6, h7, h45, h46, h47]
  refine acond_i (fun hlt => ?_) (fun hge => ?_)
  · have hlt := le_of_lt_b hlt
    obtain ⟨r, hri⟩ := getIn hlt
    have b1 := inB hlt
    have hvr := hp.visits r (List.mem_of_getElem? hri)
    have hrl := routesF_len (evR x) p.routes i
    have hrs := routesF_succ (ev := evR x) hri
    simp only [go_sem, h2, h3, h5, h6, h7, h45, h46, h47, getD_map hri, b1]
    refine anew_i fun i9 hi90 => ?_
    have ne_i5_i9 : i5 ≠ i9 := ne_new R5 hi90
    have ne_j_i9 : j ≠ i9 := ne_new Rj hi90
    have ne_j6_i9 : j6 ≠ i9 := ne_new R6 hi90
    have ne_j7_i9 : j7 ≠ i9 := ne_new R7 hi90
    simp only [go_sem, h2, h3, h5, h6, h7, h45, h46, h47, R5, Rj, R6, R7]
    refine wputE_n (updH_same _ _ _) (by simp [encRoute_len]) ?_
    generalize hGi9 : updH (updH _ i9 _) i9 _ = HGi9
    replace R5 := (congrFun hGi9.symm i5).trans ((updH_ne _ _ _ _ ne_i5_i9).trans ((updH_ne _ _ _ _ ne_i5_i9).trans R5))
    replace Rj := (congrFun hGi9.symm j).trans ((updH_ne _ _ _ _ ne_j_i9).trans ((updH_ne _ _ _ _ ne_j_i9).trans Rj))
    replace R6 := (congrFun hGi9.symm j6).trans ((updH_ne _ _ _ _ ne_j6_i9).trans ((updH_ne _ _ _ _ ne_j6_i9).trans R6))
    replace R7 := (congrFun hGi9.symm j7).trans ((updH_ne _ _ _ _ ne_j7_i9).trans ((updH_ne _ _ _ _ ne_j7_i9).trans R7))
    have R9 : HGi9 i9 = some (⟨56, 4, [encRoute r]⟩) := by rw [← hGi9, updH_same]; rfl
    clear hGi9 hi90
    simp only [go_sem, h2, h3, h5, h6, h7, h45, h46, h47, R9, R5, Rj, R6, R7]
    refine PC.use (valid_c x r hx hvr) ?_
    simp only [go_sem, h2, h3, h5, h6, h7, h45, h46, h47]
    refine add_c i5 j _ sRoutes i (evR x r) _ _ R5 Rj (by omega) (by decide) (by omega) fun r' j' H' R5' Rj' keep => ?_
    replace R6 := keep j6 _ ne_i5_j6.symm (row_ne R6 Rj (by rfl)) R6
    replace R7 := keep j7 _ ne_i5_j7.symm (row_ne R7 Rj (by rfl)) R7
    replace R9 := keep i9 _ ne_i5_i9.symm (row_ne R9 Rj (by rfl)) R9
    rw [← hrs] at Rj'
    clear keep R5 Rj ne_j_i9 j
    simp only [go_sem, h2, h3, h5, h6, h7, h45, h46, h47, R9]
    refine PC.use (orders_c r (by omega)) ?_
    have hcs : ∀ k : Nat, ((cntB (fun r : Route => onRt r.visits k) (p.routes.take (i + 1)) : Nat) : Int) = (cntB (fun r : Route => onRt r.visits k) (p.routes.take i) : Nat) + (if onRt r.visits k = true then 1 else 0) := fun k => by
      rw [cnt_take hri]; split <;> simp
    have hcl : ∀ k : Nat, cntB (fun r : Route => onRt r.visits k) (p.routes.take i) ≤ p.routes.length := fun k => cnt_le
    simp only [go_sem, h2, h3, h5, h6, h7, h45, h46, h47]
    refine acond_join (fun ρ' H' => ρ' 2 = .rp (encInstance x) 0 ∧ ρ' 3 = .rp (encPlan p) 0 ∧ ρ' 5 = .op i5 0 0 ∧ ρ' 6 = .os j6 ∧ ρ' 7 = .os j7 ∧ ρ' 9 = .op i9 0 0 ∧ ρ' 45 = .sl (p.routes.map encRoute) ∧ ρ' 46 = int p.routes.length ∧ ρ' 47 = int i ∧ H' i5 = some (repRow j') ∧ H' j' = some (faultRow (routesF (evR x) p.routes (i + 1))) ∧ H' j6 = some (intRow (servedL x.orders.length (p.routes.take (i + 1)))) ∧ H' j7 = some (intRow (usedL x.types.length (p.routes.take i))) ∧ H' i9 = some (⟨56, 4, [encRoute r]⟩ : Row)) ?_ fun K hK => acond_i (fun hb => ?_) (fun hb => ?_)
    rotate_left
    · simp only [go_sem, h2, h3, h5, h6, h7, h45, h46, h47, R6]
      refine ⟨fun ρ' H' => ∃ m : Nat, m ≤ x.orders.length ∧ ρ' 2 = .rp (encInstance x) 0 ∧ ρ' 3 = .rp (encPlan p) 0 ∧ ρ' 5 = .op i5 0 0 ∧ ρ' 6 = .os j6 ∧ ρ' 7 = .os j7 ∧ ρ' 9 = .op i9 0 0 ∧ ρ' 45 = .sl (p.routes.map encRoute) ∧ ρ' 46 = int p.routes.length ∧ ρ' 47 = int i ∧ ρ' 10 = int (orders16 r.visits).1 ∧ ρ' 65 = int x.orders.length ∧ ρ' 66 = int m ∧ H' i5 = some (repRow j') ∧ H' j' = some (faultRow (routesF (evR x) p.routes (i + 1))) ∧
          H' j6 = some (intRow ((List.range x.orders.length).map fun k : Nat => ((cntB (fun r : Route => onRt r.visits k) (p.routes.take i) : Nat) : Int) + (if k < m ∧ onRt r.visits k = true then 1 else 0))) ∧ H' j7 = some (intRow (usedL x.types.length (p.routes.take i))) ∧ H' i9 = some (⟨56, 4, [encRoute r]⟩ : Row), fun ρ' _ => x.orders.length - natOf (ρ' 66),
        ⟨0, Nat.zero_le _, by simp only [go_sem, h2], by simp only [go_sem, h3], by simp only [go_sem, h5], by simp only [go_sem, h6], by simp only [go_sem, h7], by simp only [go_sem, ], by simp only [go_sem, h45], by simp only [go_sem, h46], by simp only [go_sem, h47], by simp only [go_sem], by simp only [go_sem, List.length_map, hsl], by simp only [go_sem]; rfl, R5', Rj', ?_, R7, R9⟩, ?_⟩
      · rw [R6]; simp [servedL]
      clear h2  h3  h5  h6  h7  h45  h46  h47 R6 R5' Rj' R7 R9
      rintro ρ H ⟨m, hm, h2, h3, h5, h6, h7, h9, h45, h46, h47, h10, h65, h66, R5', Rj', R6, R7, R9⟩
      simp only [go_sem, h2, h3, h5, h6, h7, h9, h45, h46, h47, h10, h65, h66]
      refine acond_i (fun hlt2 => ?_) (fun hge2 => ?_)
      · have hlt2 := le_of_lt_b hlt2
        simp only [go_sem, h2, h3, h5, h6, h7, h9, h45, h46, h47, h10, h65, h66]
        refine PC.use (sHas_c _ _) ?_
        simp only [go_sem, h2, h3, h5, h6, h7, h9, h45, h46, h47, h10, h65, h66]
        have hon : onRt r.visits (m : Int) = hasR (orders16 r.visits).1 m := by unfold onRt; rw [hb]; rfl
        refine acond_i (fun hb2 => ?_) (fun hb2 => ?_)
        · have hg := rmap_get (f := fun k : Nat => ((cntB (fun r : Route => onRt r.visits k) (p.routes.take i) : Nat) : Int) + (if k < m ∧ onRt r.visits k = true then 1 else 0)) hlt2
          have hcm := hcl m
          have hlr : ((List.range x.orders.length).map fun k : Nat => ((cntB (fun r : Route => onRt r.visits k) (p.routes.take i) : Nat) : Int) + (if k < m ∧ onRt r.visits k = true then 1 else 0)).length = x.orders.length := by simp
          have b2 := inB hlt2
          simp only [go_sem, h2, h3, h5, h6, h7, h9, h45, h46, h47, h10, h65, h66, R6, getD_map hg]
          refine ⟨by rw [hlr]; exact b2, by rw [hlr]; exact hlt2, by rw [hlr]; exact b2, wputE_1 so3 R6 ⟨by rw [List.length_map, hlr]; exact hlt2, rfl, Nat.le_refl 1⟩ ?_⟩
          have w1 : IntKind.i64.wrap (((cntB (fun r : Route => onRt r.visits (m : Int)) (p.routes.take i) : Nat) : Int) + (if m < m ∧ onRt r.visits (m : Int) = true then 1 else 0) + 1) = ((cntB (fun r : Route => onRt r.visits (m : Int)) (p.routes.take i) : Nat) : Int) + 1 := by
            rw [if_neg (by omega), wrap_in (by omega)]; omega
          rw [w1]
          generalize hP : updH _ j6 _ = HP
          replace R5' := (congrFun hP.symm i5).trans ((updH_ne _ _ _ _ ne_i5_j6).trans R5')
          replace R7 := (congrFun hP.symm j7).trans ((updH_ne _ _ _ _ ne_j6_j7.symm).trans R7)
          replace R9 := (congrFun hP.symm i9).trans ((updH_ne _ _ _ _ ne_j6_i9.symm).trans R9)
          replace Rj' := (congrFun hP.symm j').trans ((updH_ne _ _ _ _ (row_ne Rj' R6 (by rfl))).trans Rj')
          have R6' : HP j6 = some (intRow ((List.range x.orders.length).map fun k : Nat => ((cntB (fun r : Route => onRt r.visits k) (p.routes.take i) : Nat) : Int) + (if k < m + 1 ∧ onRt r.visits k = true then 1 else 0))) := by
            rw [← hP, updH_same]
            refine (congrArg (fun es => some (⟨3, 1, es⟩ : Row)) (set_row hg)).trans (row_eq ?_)
            rw [range_set]
            refine List.map_congr_left fun k _ => ?_
            by_cases e : k = m
            · subst e; simp [hon, hb2]
            · have : k < m + 1 ↔ k < m := by omega
              simp only [this, if_neg e]
          clear hP R6
          simp only [go_sem, h2, h3, h5, h6, h7, h9, h45, h46, h47, h10, h65, h66, wrapS (show m ≤ 4611686018427387904 by omega)]
          exact ⟨⟨m + 1, hlt2, rfl, R5', Rj', R6', R7, R9⟩, by simp only [natOf_int]; omega⟩
        · simp only [go_sem, h2, h3, h5, h6, h7, h9, h45, h46, h47, h10, h65, h66, wrapS (show m ≤ 4611686018427387904 by omega)]
          refine ⟨⟨m + 1, hlt2, rfl, R5', Rj', ?_, R7, R9⟩, by simp only [natOf_int]; omega⟩
          refine R6.trans (row_eq (List.map_congr_left fun k _ => ?_))
          by_cases e : k = m
          · subst e; rw [hon, hb2]; simp
          · have : k < m + 1 ↔ k < m := by omega
            simp only [this]
      · have hge2 := eq_of_ge_b hm hge2
        subst hge2
        simp only [go_sem]
        refine hK _ _ ⟨by simp only [go_sem, h2], by simp only [go_sem, h3], by simp only [go_sem, h5], by simp only [go_sem, h6], by simp only [go_sem, h7], by simp only [go_sem, h9], by simp only [go_sem, h45], by simp only [go_sem, h46], by simp only [go_sem, h47], R5', Rj', ?_, R7, R9⟩
        refine R6.trans (row_eq (List.map_congr_left fun k hk => ?_))
        have := List.mem_range.1 hk
        rw [hcs k]; simp [this]
    · simp only [go_sem]
      refine hK _ _ ⟨by simp only [go_sem, h2], by simp only [go_sem, h3], by simp only [go_sem, h5], by simp only [go_sem, h6], by simp only [go_sem, h7], by simp only [go_sem, ], by simp only [go_sem, h45], by simp only [go_sem, h46], by simp only [go_sem, h47], R5', Rj', ?_, R7, R9⟩
      refine R6.trans (row_eq (List.map_congr_left fun k hk => ?_))
      have : onRt r.visits (k : Int) = false := by unfold onRt; rw [hb]; rfl
      rw [hcs k, this]; simp
    clear h2  h3  h5  h6  h7  h45  h46  h47 R6 R5' Rj' R7 R9
    rintro ρ H ⟨h2, h3, h5, h6, h7, h9, h45, h46, h47, R5, Rj, R6, R7, R9⟩
    simp only [go_sem, h2, h3, h5, h6, h7, h9, h45, h46, h47, R9, R7]
    have hct : ∀ t : Nat, ((cntB (fun r : Route => r.type == (t : Int)) (p.routes.take (i + 1)) : Nat) : Int) = (cntB (fun r : Route => r.type == (t : Int)) (p.routes.take i) : Nat) + (if (r.type == (t : Int)) = true then 1 else 0) := fun t => by
      rw [cnt_take hri]; split <;> simp
    have hctl : ∀ t : Nat, cntB (fun r : Route => r.type == (t : Int)) (p.routes.take i) ≤ p.routes.length := fun t => cnt_le
    rw [hul]
    refine acond_i (fun hb => ?_) (fun hb => ?_)
    · have htb : 0 ≤ r.type ∧ r.type < (x.types.length : Int) := by simpa using hb
      have hlt3 : r.type.toNat < x.types.length := by omega
      have hg := rmap_get (f := fun t : Nat => ((cntB (fun r : Route => r.type == (t : Int)) (p.routes.take i) : Nat) : Int)) hlt3
      have hg2 : (usedL x.types.length (p.routes.take i))[r.type.toNat]? = some ((cntB (fun r' : Route => r'.type == (r.type.toNat : Int)) (p.routes.take i) : Nat) : Int) := hg
      have hcm := hctl r.type.toNat
      have w1 : IntKind.i64.wrap (((cntB (fun r' : Route => r'.type == (r.type.toNat : Int)) (p.routes.take i) : Nat) : Int) + 1) = ((cntB (fun r' : Route => r'.type == (r.type.toNat : Int)) (p.routes.take i) : Nat) : Int) + 1 := by rw [wrap_in (by omega)]
      simp only [go_sem, h2, h3, h5, h6, h7, h9, h45, h46, h47, R9, R7, getD_map hg2, hul, w1]
      refine ⟨htb, hlt3, htb, wputE_1 so3 R7 ⟨by rw [List.length_map, hul]; exact hlt3, rfl, Nat.le_refl 1⟩ ?_⟩
      generalize hP : updH _ j7 _ = HP
      replace R5 := (congrFun hP.symm i5).trans ((updH_ne _ _ _ _ ne_i5_j7).trans R5)
      replace R6 := (congrFun hP.symm j6).trans ((updH_ne _ _ _ _ ne_j6_j7).trans R6)
      replace Rj := (congrFun hP.symm j').trans ((updH_ne _ _ _ _ (row_ne Rj R7 (by rfl))).trans Rj)
      have R7' : HP j7 = some (intRow (usedL x.types.length (p.routes.take (i + 1)))) := by
        rw [← hP, updH_same]
        refine (congrArg (fun es => some (⟨3, 1, es⟩ : Row)) (set_row hg2)).trans (row_eq ?_)
        unfold usedL
        rw [range_set]
        refine List.map_congr_left fun k _ => ?_
        rw [hct k]
        by_cases e : k = r.type.toNat
        · subst e
          have : (r.type == ((r.type.toNat : Nat) : Int)) = true := by simp; omega
          rw [if_pos rfl, if_pos this]
        · have : ¬ (r.type == (k : Int)) = true := by simp; omega
          rw [if_neg e, if_neg this]; simp
      clear hP R7
      simp only [go_sem, h2, h3, h5, h6, h7, h9, h45, h46, h47, wrapS (show i ≤ 4611686018427387904 by omega)]
      exact ⟨⟨i + 1, j', hlt, rfl, R5, Rj, R6, R7'⟩, by simp only [natOf_int]; omega⟩
    · simp only [go_sem, h2, h3, h5, h6, h7, h9, h45, h46, h47, wrapS (show i ≤ 4611686018427387904 by omega)]
      refine ⟨⟨i + 1, j', hlt, rfl, R5, Rj, R6, R7.trans (row_eq (List.map_congr_left fun k hk => ?_))⟩, by simp only [natOf_int]; omega⟩
      have hkl := List.mem_range.1 hk
      have : ¬ (r.type == (k : Int)) = true := by
        intro h
        have : r.type = (k : Int) := by simpa using h
        rw [this] at hb
        simp at hb; omega
      rw [hct k, if_neg this]; simp
  have hge := eq_of_ge_b hi hge
  subst hge
  rw [List.take_length] at R6 R7
  have hRF := routesF_len (evR x) p.routes p.routes.length
  generalize routesF (evR x) p.routes p.routes.length = RF at *
  simp only [go_sem, h2, h3, h5, h6, h7]
  refine ⟨fun ρ H => ∃ (n j : Nat), n ≤ x.orders.length ∧ ρ 2 = .rp (encInstance x) 0 ∧ ρ 3 = .rp (encPlan p) 0 ∧ ρ 5 = .op i5 0 0 ∧ ρ 6 = .os j6 ∧ ρ 7 = .os j7 ∧ ρ 98 = .sl (x.orders.map encOrder) ∧ ρ 99 = int x.orders.length ∧ ρ 100 = int n ∧ H i5 = some (repRow j) ∧ H j = some (faultRow (RF ++ ordersF x p n)) ∧ H j6 = some (intRow (servedL x.orders.length p.routes)) ∧ H j7 = some (intRow (usedL x.types.length p.routes)), fun ρ _ => x.orders.length - natOf (ρ 100),
    ⟨0, j, Nat.zero_le _, by simp only [go_sem, h2], by simp only [go_sem, h3], by simp only [go_sem, h5], by simp only [go_sem, h6], by simp only [go_sem, h7], by simp only [go_sem], by simp only [go_sem, List.length_map], by simp only [go_sem]; rfl, R5, by rw [Rj]; simp [ordersF], R6, R7⟩, ?_⟩
  clear h2 h3 h5 h6 h7 h45 h46 h47 R5 Rj R6 R7 j hi
  rintro ρ H ⟨n, j, hn, h2, h3, h5, h6, h7, h98, h99, h100, R5, Rj, R6, R7⟩
  simp only [go_sem, h2, h3, h5, h6, h7, h98, h99, h100]
  refine acond_i (fun hlt => ?_) (fun hge => ?_)
  · have hlt := le_of_lt_b hlt
    obtain ⟨o, ho⟩ := getIn hlt
    have b1 := inB hlt
    have hol := ordersF_len x p n
    have hos := ordersF_succ (p := p) ho
    simp only [go_sem, h2, h3, h5, h6, h7, h98, h99, h100, getD_map ho, b1]
    refine anew_i fun i14 hi140 => ?_
    have ne_i5_i14 : i5 ≠ i14 := ne_new R5 hi140
    have ne_j_i14 : j ≠ i14 := ne_new Rj hi140
    have ne_j6_i14 : j6 ≠ i14 := ne_new R6 hi140
    have ne_j7_i14 : j7 ≠ i14 := ne_new R7 hi140
    simp only [go_sem, h2, h3, h5, h6, h7, h98, h99, h100, R5, Rj, R6, R7]
    refine wputE_n (updH_same _ _ _) (by simp [encOrder_len]) ?_
    generalize hGi14 : updH (updH _ i14 _) i14 _ = HGi14
    replace R5 := (congrFun hGi14.symm i5).trans ((updH_ne _ _ _ _ ne_i5_i14).trans ((updH_ne _ _ _ _ ne_i5_i14).trans R5))
    replace Rj := (congrFun hGi14.symm j).trans ((updH_ne _ _ _ _ ne_j_i14).trans ((updH_ne _ _ _ _ ne_j_i14).trans Rj))
    replace R6 := (congrFun hGi14.symm j6).trans ((updH_ne _ _ _ _ ne_j6_i14).trans ((updH_ne _ _ _ _ ne_j6_i14).trans R6))
    replace R7 := (congrFun hGi14.symm j7).trans ((updH_ne _ _ _ _ ne_j7_i14).trans ((updH_ne _ _ _ _ ne_j7_i14).trans R7))
    have R14 : HGi14 i14 = some (orderRow o) := by rw [← hGi14, updH_same]; rfl
    clear hGi14 hi140
    simp only [go_sem, h2, h3, h5, h6, h7, h98, h99, h100, R14, R5, Rj, R6, R7]
    refine ⟨fun ρ H => ∃ (m : Nat), m ≤ p.unserved.length ∧ ρ 2 = .rp (encInstance x) 0 ∧ ρ 3 = .rp (encPlan p) 0 ∧ ρ 5 = .op i5 0 0 ∧ ρ 6 = .os j6 ∧ ρ 7 = .os j7 ∧ ρ 13 = int n ∧ ρ 14 = .op i14 0 0 ∧ ρ 98 = .sl (x.orders.map encOrder) ∧ ρ 99 = int x.orders.length ∧ ρ 100 = int n ∧ ρ 106 = .sl (p.unserved.map encInt) ∧ ρ 107 = int p.unserved.length ∧ ρ 108 = int m ∧ ρ 15 = int (cntB (fun u : Int => u == (n : Int)) (p.unserved.take m) : Nat) ∧ H i5 = some (repRow j) ∧ H j = some (faultRow (RF ++ ordersF x p n)) ∧ H j6 = some (intRow (servedL x.orders.length p.routes)) ∧ H j7 = some (intRow (usedL x.types.length p.routes)) ∧ H i14 = some (orderRow o), fun ρ _ => p.unserved.length - natOf (ρ 108),
      ⟨0, Nat.zero_le _, by simp only [go_sem, h2], by simp only [go_sem, h3], by simp only [go_sem, h5], by simp only [go_sem, h6], by simp only [go_sem, h7], by simp only [go_sem], by simp only [go_sem], by simp only [go_sem, h98], by simp only [go_sem, h99], by simp only [go_sem, h100], by simp only [go_sem], by simp only [go_sem, List.length_map], by simp only [go_sem]; rfl, by simp only [go_sem]; rfl, R5, Rj, R6, R7, R14⟩, ?_⟩
    clear h2 h3 h5 h6 h7 h98 h99 h100 R5 Rj R6 R7 R14
    rintro ρ H ⟨m, hm, h2, h3, h5, h6, h7, h13, h14, h98, h99, h100, h106, h107, h108, h15, R5, Rj, R6, R7, R14⟩
    simp only [go_sem, h2, h3, h5, h6, h7, h13, h14, h98, h99, h100, h106, h107, h108, h15]
    refine acond_i (fun hlt2 => ?_) (fun hge2 => ?_)
    · have hlt2 := le_of_lt_b hlt2
      obtain ⟨u, hu⟩ := getIn hlt2
      have b2 := inB hlt2
      have hcu : cntB (fun u : Int => u == (n : Int)) (p.unserved.take m) ≤ p.unserved.length := cnt_le
      have hcs := cnt_take (p := fun u : Int => u == (n : Int)) hu
      simp only [go_sem, h2, h3, h5, h6, h7, h13, h14, h98, h99, h100, h106, h107, h108, h15, getD_map hu, b2]
      refine acond_i (fun hb => ?_) (fun hb => ?_)
      · rw [if_pos hb] at hcs
        simp only [go_sem, h2, h3, h5, h6, h7, h13, h14, h98, h99, h100, h106, h107, h108, h15, wrapS (show m ≤ 4611686018427387904 by omega), wrapS (show cntB (fun u : Int => u == (n : Int)) (p.unserved.take m) ≤ 4611686018427387904 by omega)]
        exact ⟨⟨m + 1, hlt2, rfl, by rw [hcs], R5, Rj, R6, R7, R14⟩, by simp only [natOf_int]; omega⟩
      · rw [if_neg (by rw [hb]; simp)] at hcs
        simp only [go_sem, h2, h3, h5, h6, h7, h13, h14, h98, h99, h100, h106, h107, h108, h15, wrapS (show m ≤ 4611686018427387904 by omega)]
        exact ⟨⟨m + 1, hlt2, rfl, by rw [hcs]; rfl, R5, Rj, R6, R7, R14⟩, by simp only [natOf_int]; omega⟩
    have hge2 := eq_of_ge_b hm hge2
    subst hge2
    rw [List.take_length] at h15
    have ne_j_j6 : j ≠ j6 := row_ne Rj R6 (by rfl)
    have ne_j_j7 : j ≠ j7 := row_ne Rj R7 (by rfl)
    simp only [go_sem, h2, h3, h5, h6, h7, h13, h14, h98, h99, h100, h106, h107, h108, h15]
    have hsg : (servedL x.orders.length p.routes)[n]? = some ((aOn p n : Nat) : Int) := rmap_get (f := fun k : Nat => ((cntB (fun r : Route => onRt r.visits k) p.routes : Nat) : Int)) hlt
    have haO : aOn p n ≤ p.routes.length := cnt_le'
    have huO : onU p n ≤ p.unserved.length := cnt_le'
    have hel := ordE_len o (aOn p n) (onU p n)
    refine adraw_p [i14, j6] [(0, true), (1, true), (2, true), (3, true), (4, true), (5, true), (8, true), (6, false), (7, false)] (by simp [R14, R6]) (by kernel_rfl) fun Hp Hr hpp hr _ hr0 => ?_
    have P14 := (hpp i14 (by simp)).trans R14
    have P6 := (hpp j6 (by simp)).trans R6
    simp only [go_sem, h2, h3, h5, h6, h7, h13, h14, h98, h99, h100, h106, h107, h108, h15, P14, P6, getD_map hsg, hsl]
    refine ⟨⟨by omega, by omega⟩, hlt, ?_⟩
    refine PC.use (aorder_c o (aOn p n) (onU p n) (by omega) (by omega)) ?_
    generalize ordE o (aOn p n) (onU p n) = es at *
    simp only [go_sem, h2, h3, h5, h6, h7, h13, h14, h98, h99, h100, h106, h107, h108, h15]
    refine pinEnd_i fun _ Hm hm1 hm2 => ?_
    have eM : Hm = H := funext fun k => by
      by_cases hk : k ∈ [i14, j6]
      · exact hm1 k hk
      · rw [hm2 k hk, hr k hk]
    subst eM
    simp only [go_sem, h2, h3, h5, h6, h7, h13, h14, h98, h99, h100, h106, h107, h108, h15]
    refine ⟨fun ρ H => ∃ (m j : Nat), m ≤ es.length ∧ ρ 2 = .rp (encInstance x) 0 ∧ ρ 3 = .rp (encPlan p) 0 ∧ ρ 5 = .op i5 0 0 ∧ ρ 6 = .os j6 ∧ ρ 7 = .os j7 ∧ ρ 13 = int n ∧ ρ 98 = .sl (x.orders.map encOrder) ∧ ρ 99 = int x.orders.length ∧ ρ 100 = int n ∧ ρ 124 = .sl (es.map encInt) ∧ ρ 125 = int es.length ∧ ρ 126 = int m ∧ H i5 = some (repRow j) ∧ H j = some (faultRow ((RF ++ ordersF x p n) ++ (es.take m).flatMap (errF sOrders n))) ∧ H j6 = some (intRow (servedL x.orders.length p.routes)) ∧ H j7 = some (intRow (usedL x.types.length p.routes)), fun ρ _ => es.length - natOf (ρ 126),
      ⟨0, j, Nat.zero_le _, by simp only [go_sem, h2], by simp only [go_sem, h3], by simp only [go_sem, h5], by simp only [go_sem, h6], by simp only [go_sem, h7], by simp only [go_sem, h13], by simp only [go_sem, h98], by simp only [go_sem, h99], by simp only [go_sem, h100], by simp only [go_sem], by simp only [go_sem, List.length_map], by simp only [go_sem]; rfl, R5, by rw [Rj]; simp, R6, R7⟩, ?_⟩
    clear h2 h3 h5 h6 h7 h13 h14 h98 h99 h100 h106 h107 h108 h15 R5 Rj R6 R7 R14 P14 P6 ne_j_j6 ne_j_j7 ne_j_i14 hm1 hm2 hpp hr hr0 j hm
    rintro ρ H ⟨m, j, hm, h2, h3, h5, h6, h7, h13, h98, h99, h100, h124, h125, h126, R5, Rj, R6, R7⟩
    simp only [go_sem, h2, h3, h5, h6, h7, h13, h98, h99, h100, h124, h125, h126]
    refine acond_i (fun hlt2 => ?_) (fun hge2 => ?_)
    · have hlt2 := le_of_lt_b hlt2
      obtain ⟨e, he⟩ := getIn hlt2
      have b2 := inB hlt2
      have hfl := flat_le (c := 1) (f := errF sOrders n) (es.take m) fun e _ => errF_len _ _ _
      have hfs : (es.take (m + 1)).flatMap (errF sOrders n) = (es.take m).flatMap (errF sOrders n) ++ errF sOrders n e := by rw [take_succ he, List.flatMap_append]; simp
      simp only [go_sem, h2, h3, h5, h6, h7, h13, h98, h99, h100, h124, h125, h126, getD_map he, b2]
      refine add_c i5 j _ sOrders n e _ _ R5 Rj (by omega) (by decide) (by simp only [List.length_append]; simp only [List.length_take] at hfl; omega) fun r' j' H' R5' Rj' keep => ?_
      replace R6 := keep j6 _ ne_i5_j6.symm (row_ne R6 Rj (by rfl)) R6
      replace R7 := keep j7 _ ne_i5_j7.symm (row_ne R7 Rj (by rfl)) R7
      rw [List.append_assoc, ← hfs] at Rj'
      simp only [go_sem, h2, h3, h5, h6, h7, h13, h98, h99, h100, h124, h125, h126, wrapS (show m ≤ 4611686018427387904 by omega)]
      exact ⟨⟨m + 1, j', hlt2, rfl, R5', Rj', R6, R7⟩, by simp only [natOf_int]; omega⟩
    have hge2 := eq_of_ge_b hm hge2
    subst hge2
    rw [List.take_length, List.append_assoc, ← hos] at Rj
    simp only [go_sem, h2, h3, h5, h6, h7, h13, h98, h99, h100, h124, h125, h126, wrapS (show n ≤ 4611686018427387904 by omega)]
    exact ⟨⟨n + 1, j, hlt, rfl, R5, Rj, R6, R7⟩, by simp only [natOf_int]; omega⟩
  have hge := eq_of_ge_b hn hge
  subst hge
  have hOF := ordersF_len x p x.orders.length
  have hRO : (RF ++ ordersF x p x.orders.length).length ≤ 100 := by rw [List.length_append]; omega
  generalize RF ++ ordersF x p x.orders.length = RO at *
  simp only [go_sem, h2, h3, h5, h7]
  refine ⟨fun ρ H => ∃ (n j : Nat), n ≤ p.unserved.length ∧ ρ 2 = .rp (encInstance x) 0 ∧ ρ 5 = .op i5 0 0 ∧ ρ 7 = .os j7 ∧ ρ 136 = .sl (p.unserved.map encInt) ∧ ρ 137 = int p.unserved.length ∧ ρ 138 = int n ∧ H i5 = some (repRow j) ∧ H j = some (faultRow (RO ++ unservedF x p n)) ∧ H j7 = some (intRow (usedL x.types.length p.routes)), fun ρ _ => p.unserved.length - natOf (ρ 138),
    ⟨0, j, Nat.zero_le _, by simp only [go_sem, h2], by simp only [go_sem, h5], by simp only [go_sem, h7], by simp only [go_sem], by simp only [go_sem, List.length_map], by simp only [go_sem]; rfl, R5, by rw [Rj]; simp [unservedF], R7⟩, ?_⟩
  clear h2 h3 h5 h6 h7 h98 h99 h100 R5 Rj R6 R7 j hn
  rintro ρ H ⟨n, j, hn, h2, h5, h7, h136, h137, h138, R5, Rj, R7⟩
  simp only [go_sem, h2, h5, h7, h136, h137, h138]
  refine acond_i (fun hlt => ?_) (fun hge => ?_)
  · have hlt := le_of_lt_b hlt
    obtain ⟨u, hu⟩ := getIn hlt
    have b1 := inB hlt
    have hul' := unservedF_len x p n
    have hus := unservedF_succ (x := x) hu
    simp only [go_sem, h2, h5, h7, h136, h137, h138, getD_map hu, b1]
    refine acond_i (fun hb => ?_) (fun hb => ?_)
    · have hb : badNo u x.orders.length = true := hb
      rw [if_pos hb] at hus
      simp only [go_sem, h2, h5, h7, h136, h137, h138]
      refine add_c i5 j _ sUnserved n 7 _ _ R5 Rj (by omega) (by decide) (by simp only [List.length_append]; omega) fun r' j' H' R5' Rj' keep => ?_
      replace R7 := keep j7 _ ne_i5_j7.symm (row_ne R7 Rj (by rfl)) R7
      rw [List.append_assoc, ← hus] at Rj'
      simp only [go_sem, h2, h5, h7, h136, h137, h138, wrapS (show n ≤ 4611686018427387904 by omega)]
      exact ⟨⟨n + 1, j', hlt, rfl, R5', Rj', R7⟩, by simp only [natOf_int]; omega⟩
    · have hb : badNo u x.orders.length = false := hb
      rw [if_neg (by rw [hb]; simp)] at hus
      have e0 : errF sUnserved n 0 = [] := rfl
      rw [e0, List.append_nil] at hus
      simp only [go_sem, h2, h5, h7, h136, h137, h138, wrapS (show n ≤ 4611686018427387904 by omega)]
      exact ⟨⟨n + 1, j, hlt, rfl, R5, by rw [hus]; exact Rj, R7⟩, by simp only [natOf_int]; omega⟩
  have hge := eq_of_ge_b hn hge
  subst hge
  have hUF := unservedF_len x p p.unserved.length
  have hRU : (RO ++ unservedF x p p.unserved.length).length ≤ 200 := by rw [List.length_append]; omega
  generalize RO ++ unservedF x p p.unserved.length = RU at *
  simp only [go_sem, h2, h5, h7, R7, List.length_map, hul]
  refine ⟨fun ρ H => ∃ (n j : Nat), n ≤ x.types.length ∧ ρ 2 = .rp (encInstance x) 0 ∧ ρ 5 = .op i5 0 0 ∧ ρ 155 = .os j7 ∧ ρ 156 = int x.types.length ∧ ρ 157 = int n ∧ H i5 = some (repRow j) ∧ H j = some (faultRow (RU ++ typesF x p n)) ∧ H j7 = some (intRow (usedL x.types.length p.routes)), fun ρ _ => x.types.length - natOf (ρ 157),
    ⟨0, j, Nat.zero_le _, by simp only [go_sem, h2], by simp only [go_sem, h5], by simp only [go_sem, h7], by simp only [go_sem], by simp only [go_sem]; rfl, R5, by rw [Rj]; simp [typesF], R7⟩, ?_⟩
  clear h2 h5 h7 h136 h137 h138 R5 Rj R7 j hn
  rintro ρ H ⟨n, j, hn, h2, h5, h155, h156, h157, R5, Rj, R7⟩
  simp only [go_sem, h2, h5, h155, h156, h157]
  refine acond_i (fun hlt => ?_) (fun hge => ?_)
  · have hlt := le_of_lt_b hlt
    obtain ⟨v, hv⟩ := getIn hlt
    have b1 := inB hlt
    have htl := typesF_len x p n
    have hts := typesF_succ (p := p) hv
    have hug : (usedL x.types.length p.routes)[n]? = some ((cntT p n : Nat) : Int) := rmap_get (f := fun t : Nat => ((cntB (fun r : Route => r.type == (t : Int)) p.routes : Nat) : Int)) hlt
    simp only [go_sem, h2, h5, h155, h156, h157, R7, getD_map hug, getD_map hv, b1, hul]
    refine ⟨hlt, acond_i (fun hb => ?_) (fun hb => ?_)⟩
    · rw [if_pos (by simpa using hb)] at hts
      simp only [go_sem, h2, h5, h155, h156, h157]
      refine add_c i5 j _ sTypes n 22 _ _ R5 Rj (by omega) (by decide) (by simp only [List.length_append]; omega) fun r' j' H' R5' Rj' keep => ?_
      replace R7 := keep j7 _ ne_i5_j7.symm (row_ne R7 Rj (by rfl)) R7
      rw [List.append_assoc, ← hts] at Rj'
      simp only [go_sem, h2, h5, h155, h156, h157, wrapS (show n ≤ 4611686018427387904 by omega)]
      exact ⟨⟨n + 1, j', hlt, rfl, R5', Rj', R7⟩, by simp only [natOf_int]; omega⟩
    · rw [if_neg (by simpa using hb)] at hts
      have e0 : errF sTypes n 0 = [] := rfl
      rw [e0, List.append_nil] at hts
      simp only [go_sem, h2, h5, h155, h156, h157, wrapS (show n ≤ 4611686018427387904 by omega)]
      exact ⟨⟨n + 1, j, hlt, rfl, R5, by rw [hts]; exact Rj, R7⟩, by simp only [natOf_int]; omega⟩
  have hge := eq_of_ge_b hn hge
  subst hge
  simp only [go_sem, h5, R5]
  exact .row _ _ _ Rj (ConvE.refl _)
end Go.Proofs.YtbefdpmjpioijaaGreatDoor.Sq
