/- lorryref46.With, lorryref46.Last -/
import Derived.Test.YtjlbikpgjejkjaaMvE
set_option linter.unusedSimpArgs false
set_option linter.unusedVariables false
namespace Go.Proofs.Ytjlbikpgjejkjaa.Mv
open Go.Aw Go.Aw.D Go.Proofs Ty
set_option maxRecDepth 100000

def nowO (o : Order) (n : Int) : Order := { o with now := n }
def lastO (o : Order) (n : Int) : Order := { o with now := -1, last := if decide (n ≥ 0) = true then n else o.last }
def chL (f : Order → Int → Order) (l : List Order) (ks : List Int) : List Order := List.zipWith f l ks
theorem chL_get {f : Order → Int → Order} {l : List Order} {ks : List Int} {k : Nat} {o : Order} {n : Int} (h1 : l[k]? = some o) (h2 : ks[k]? = some n) : (chL f l ks)[k]? = some (f o n) := by
  simp [chL, List.getElem?_zipWith, h1, h2]
theorem chL_len {f : Order → Int → Order} {l : List Order} {ks : List Int} (h : ks.length = l.length) : (chL f l ks).length = l.length := by simp [chL, h]
def zeroI : Instance := ⟨⟨[], []⟩, [], [], [], []⟩
def chI (f : Order → Int → Order) (x : Instance) (ks : List Int) : Instance := { x with orders := chL f x.orders ks }
def chR (f : Order → Int → Order) (x : Instance) (p : Plan) : Instance := if (wrongR x p != 0) = true then zeroI else chI f x (kindsR x p)
theorem order_now (o : Order) (n : Int) : setAt (encOrder o) 14 [int n] = encOrder (nowO o n) := rfl
theorem orders_all : ∀ l : List Order, allLen 16 (l.map encOrder)
  | [] => trivial
  | _ :: r => ⟨rfl, orders_all r⟩
abbrev oRow (l : List Order) : Row := ⟨75, 16, l.map encOrder⟩
abbrev xRow (x : Instance) (o : Nat) : Row := ⟨30, 6, [[.sl (x.net.places.map encStr), .sl (x.net.arcs.map encArc), .sl (x.types.map encVType), .os o, .sl (x.apart.map encPair), .sl (x.before.map encPair)]]⟩
theorem oRow_app (l : List Order) (o : Order) : oRow (l ++ [o]) = ⟨75, 16, l.map encOrder ++ [encOrder o]⟩ := by simp [oRow]
theorem With46_c (x : Instance) (p : Plan) (ho : x.orders.length ≤ 1048576) (hp : p.routes.length ≤ 1048576) (hv : ∀ r ∈ p.routes, r.visits.length ≤ 1048576) :
    PC Try.prog 20 [.agg (encInstance x), .agg (encPlan p)] (.tup [.agg (encInstance (chR nowO x p)), int (wrongR x p)]) := by
  refine PC.body (c := Try.f20.body.getD .skip) (fun _ => false) mixed Try.func20 rfl (by kernel_rfl) ?_
  unfold Try.f20
  simp only [Option.getD_some]
  simp only [go_sem]
  refine anew_i fun j4 hj4 => ?_
  have R4 := updH_same noRows j4 (some (⟨30, 6, [[.sl [], .sl [], .sl [], .sl [], .sl [], .sl []]]⟩ : Row))
  generalize updH noRows j4 _ = H4 at R4 ⊢
  simp only [go_sem]
  refine PC.use (kinds_c x p ho hp hv) ?_
  simp only [go_sem]
  refine acond_i (fun hb => ?_) (fun hb => ?_)
  · have e : chR nowO x p = zeroI := if_pos hb
    rw [e]
    simp only [go_sem]
    refine wputE_n R4 (by simp) ?_
    simp only [go_sem]
    exact .refl _
  have e : chR nowO x p = chI nowO x (kindsR x p) := if_neg (by rw [hb]; simp)
  have hlk := kindsR_len hb
  rw [e]
  generalize kindsR x p = ks at hlk
  simp only [go_sem]
  refine anew_i fun j8 hj8 => ?_
  have n48 : j4 ≠ j8 := ne_new R4 hj8
  have R4 := keep_new (r' := (⟨30, 6, [[.sl [], .sl [], .sl [], .sl [], .sl [], .sl []]]⟩ : Row)) R4 hj8
  simp only [go_sem]
  refine wputE_n (updH_same _ _ _) (by simp [encInstance_len]) ?_
  simp only [go_sem, encInstance_len]
  generalize hG : updH (updH H4 j8 _) j8 _ = H8
  have R8 : H8 j8 = some ⟨30, 6, [encInstance x]⟩ := by rw [← hG, updH_same]
  have R4 : H8 j4 = some ⟨30, 6, [[.sl [], .sl [], .sl [], .sl [], .sl [], .sl []]]⟩ := by rw [← hG, updH_ne _ _ _ _ n48]; exact R4
  clear hG hj8 hj4
  refine anew_i fun jo hjo => ?_
  have n8o : j8 ≠ jo := ne_new R8 hjo
  have n4o : j4 ≠ jo := ne_new R4 hjo
  refine wputE_1 so27 (by rw [updH_ne _ _ _ _ n8o]; exact R8) ⟨by simp, rfl, by simp⟩ ?_
  simp only [go_sem]
  refine ⟨fun ρ H => ∃ k : Nat, k ≤ x.orders.length ∧ ρ 2 = .rp (encInstance x) 0 ∧ ρ 4 = .op j4 0 0 ∧ ρ 6 = .sl (ks.map encInt) ∧ ρ 8 = .op j8 0 0 ∧ ρ 9 = int k ∧ ∃ jo, j8 ≠ jo ∧ j4 ≠ jo ∧ H j8 = some (xRow x jo) ∧ H j4 = some ⟨30, 6, [[.sl [], .sl [], .sl [], .sl [], .sl [], .sl []]]⟩ ∧ H jo = some (oRow ((chL nowO x.orders ks).take k)), fun ρ _ => x.orders.length - natOf (ρ 9), ⟨0, Nat.zero_le _, rfl, rfl, rfl, rfl, rfl, jo, n8o, n4o, by rw [updH_same]; rfl, by rw [updH_ne _ _ _ _ n48, updH_ne _ _ _ _ n4o]; exact R4, by rw [updH_ne _ _ _ _ n8o.symm, updH_same]; rfl⟩, ?_⟩
  clear R8 R4 n8o n4o hjo
  rintro ρ H ⟨k, hk, h2, h4, h6, h8, h9, jo, n8o, n4o, R8, R4, RO⟩
  simp only [go_sem, h2, h4, h6, h8, h9]
  refine acond_i (fun hlt => ?_) (fun hge => ?_)
  · have hlt := le_of_lt_b hlt
    obtain ⟨o, hok⟩ := getIn hlt
    obtain ⟨n, hnk⟩ := getIn (show k < ks.length by omega)
    have b1 := inB hlt
    have b2 := inB (show k < ks.length by omega)
    have hcl := chL_len (f := nowO) hlk
    simp only [go_sem, h2, h4, h6, h8, h9, getD_map hok, b1]
    refine anew_i fun i hi => ?_
    simp only [go_sem, h2, h4, h6, h8, h9, getD_map hok, b1]
    refine wputE_n (updH_same _ _ _) (by simp [encOrder_len]) ?_
    simp only [go_sem, h2, h4, h6, h8, h9, getD_map hnk, b2]
    refine wputE_1 so3 (updH_same _ _ _) ⟨by simp, rfl, by simp⟩ ?_
    simp only [go_sem, h2, h4, h6, h8, h9]
    generalize hG : updH (updH (updH H i _) i _) i _ = HG
    have ei : j8 ≠ i := ne_new R8 hi
    have eo : jo ≠ i := ne_new RO hi
    have e4 : j4 ≠ i := ne_new R4 hi
    have RI : HG i = some ⟨75, 16, [encOrder (nowO o n)]⟩ := by rw [← hG, updH_same]; rfl
    have R8 : HG j8 = some (xRow x jo) := by rw [← hG, updH_ne _ _ _ _ ei, updH_ne _ _ _ _ ei, updH_ne _ _ _ _ ei]; exact R8
    have R4 : HG j4 = some ⟨30, 6, [[.sl [], .sl [], .sl [], .sl [], .sl [], .sl []]]⟩ := by rw [← hG, updH_ne _ _ _ _ e4, updH_ne _ _ _ _ e4, updH_ne _ _ _ _ e4]; exact R4
    have RO : HG jo = some (oRow ((chL nowO x.orders ks).take k)) := by rw [← hG, updH_ne _ _ _ _ eo, updH_ne _ _ _ _ eo, updH_ne _ _ _ _ eo]; exact RO
    clear hG hi
    simp only [go_sem, h2, h4, h6, h8, h9, R8, RI]
    refine ⟨rfl, ?_⟩
    refine wappE_i RO ⟨rfl, rfl⟩ ⟨rfl, trivial⟩ (by simp only [List.length_map, List.length_take, List.length_cons, List.length_nil]; omega) (fun j' hj' => ?_)
    have R8' := fun r' => keep_app (r' := r') R8 n8o.symm hj'
    have R4' := fun r' => keep_app (r' := r') R4 n4o.symm hj'
    have e8 : j8 ≠ j' := ne_new R8 hj'
    have e4 : j4 ≠ j' := ne_new R4 hj'
    simp only [go_sem, h2, h4, h6, h8, h9, R8']
    refine wputE_1 so27 (R8' _) ⟨by simp, rfl, by simp⟩ ?_
    simp only [go_sem, h2, h4, h6, h8, h9, wrapS (show k ≤ 4611686018427387904 by omega)]
    refine ⟨⟨k + 1, hlt, rfl, j', e8, e4, rfl, by rw [updH_ne _ _ _ _ n48]; exact R4' _, ?_⟩, by simp only [natOf_int]; omega⟩
    rw [updH_ne _ _ _ _ e8.symm, updH_same, take_succ (chL_get hok hnk), oRow_app]
    rfl
  · have hge := eq_of_ge_b hk hge
    subst hge
    rw [List.take_of_length_le (by rw [chL_len hlk]; exact Nat.le_refl _)] at RO
    simp only [go_sem, h4, h8, R8]
    refine wputE_n R4 (by simp) ?_
    simp only [go_sem, h4]
    rw [show wrongR x p = 0 by simpa using hb]
    exact .tup _ _ (.cons _ _ _ _ (.agg _ _ (.cons _ _ _ _ (.refl _) (.cons _ _ _ _ (.refl _) (.cons _ _ _ _ (.refl _) (.cons _ _ _ _ (.row _ _ _ (by rw [updH_ne _ _ _ _ n4o.symm]; exact RO) (ConvE.refl _)) (.cons _ _ _ _ (.refl _) (.cons _ _ _ _ (.refl _) .nil))))))) (.cons _ _ _ _ (.refl _) .nil))
theorem Last46_c (x : Instance) (p : Plan) (ho : x.orders.length ≤ 1048576) (hp : p.routes.length ≤ 1048576) (hv : ∀ r ∈ p.routes, r.visits.length ≤ 1048576) :
    PC Try.prog 22 [.agg (encInstance x), .agg (encPlan p)] (.tup [.agg (encInstance (chR lastO x p)), int (wrongR x p)]) := by
  refine PC.body (c := Try.f22.body.getD .skip) (fun _ => false) mixed Try.func22 rfl (by kernel_rfl) ?_
  unfold Try.f22
  simp only [Option.getD_some]
  simp only [go_sem]
  refine anew_i fun j4 hj4 => ?_
  have R4 := updH_same noRows j4 (some (⟨30, 6, [[.sl [], .sl [], .sl [], .sl [], .sl [], .sl []]]⟩ : Row))
  generalize updH noRows j4 _ = H4 at R4 ⊢
  simp only [go_sem]
  refine PC.use (kinds_c x p ho hp hv) ?_
  simp only [go_sem]
  refine acond_i (fun hb => ?_) (fun hb => ?_)
  · have e : chR lastO x p = zeroI := if_pos hb
    rw [e]
    simp only [go_sem]
    refine wputE_n R4 (by simp) ?_
    simp only [go_sem]
    exact .refl _
  have e : chR lastO x p = chI lastO x (kindsR x p) := if_neg (by rw [hb]; simp)
  have hlk := kindsR_len hb
  rw [e]
  generalize kindsR x p = ks at hlk
  simp only [go_sem]
  refine anew_i fun j8 hj8 => ?_
  have n48 : j4 ≠ j8 := ne_new R4 hj8
  have R4 := keep_new (r' := (⟨30, 6, [[.sl [], .sl [], .sl [], .sl [], .sl [], .sl []]]⟩ : Row)) R4 hj8
  simp only [go_sem]
  refine wputE_n (updH_same _ _ _) (by simp [encInstance_len]) ?_
  simp only [go_sem, encInstance_len]
  generalize hG : updH (updH H4 j8 _) j8 _ = H8
  have R8 : H8 j8 = some ⟨30, 6, [encInstance x]⟩ := by rw [← hG, updH_same]
  have R4 : H8 j4 = some ⟨30, 6, [[.sl [], .sl [], .sl [], .sl [], .sl [], .sl []]]⟩ := by rw [← hG, updH_ne _ _ _ _ n48]; exact R4
  clear hG hj8 hj4
  refine anew_i fun jo hjo => ?_
  have n8o : j8 ≠ jo := ne_new R8 hjo
  have n4o : j4 ≠ jo := ne_new R4 hjo
  refine wputE_1 so27 (by rw [updH_ne _ _ _ _ n8o]; exact R8) ⟨by simp, rfl, by simp⟩ ?_
  simp only [go_sem]
  refine ⟨fun ρ H => ∃ k : Nat, k ≤ x.orders.length ∧ ρ 2 = .rp (encInstance x) 0 ∧ ρ 4 = .op j4 0 0 ∧ ρ 6 = .sl (ks.map encInt) ∧ ρ 8 = .op j8 0 0 ∧ ρ 9 = int k ∧ ∃ jo, j8 ≠ jo ∧ j4 ≠ jo ∧ H j8 = some (xRow x jo) ∧ H j4 = some ⟨30, 6, [[.sl [], .sl [], .sl [], .sl [], .sl [], .sl []]]⟩ ∧ H jo = some (oRow ((chL lastO x.orders ks).take k)), fun ρ _ => x.orders.length - natOf (ρ 9), ⟨0, Nat.zero_le _, rfl, rfl, rfl, rfl, rfl, jo, n8o, n4o, by rw [updH_same]; rfl, by rw [updH_ne _ _ _ _ n48, updH_ne _ _ _ _ n4o]; exact R4, by rw [updH_ne _ _ _ _ n8o.symm, updH_same]; rfl⟩, ?_⟩
  clear R8 R4 n8o n4o hjo
  rintro ρ H ⟨k, hk, h2, h4, h6, h8, h9, jo, n8o, n4o, R8, R4, RO⟩
  simp only [go_sem, h2, h4, h6, h8, h9]
  refine acond_i (fun hlt => ?_) (fun hge => ?_)
  · have hlt := le_of_lt_b hlt
    obtain ⟨o, hok⟩ := getIn hlt
    obtain ⟨n, hnk⟩ := getIn (show k < ks.length by omega)
    have b1 := inB hlt
    have b2 := inB (show k < ks.length by omega)
    have hcl := chL_len (f := lastO) hlk
    simp only [go_sem, h2, h4, h6, h8, h9, getD_map hok, b1]
    refine anew_i fun i hi => ?_
    simp only [go_sem, h2, h4, h6, h8, h9, getD_map hok, b1]
    refine wputE_n (updH_same _ _ _) (by simp [encOrder_len]) ?_
    simp only [go_sem, h2, h4, h6, h8, h9, getD_map hnk, b2]
    have ei : j8 ≠ i := ne_new R8 hi
    have eo : jo ≠ i := ne_new RO hi
    have e4 : j4 ≠ i := ne_new R4 hi
    refine acond_joinL (fun ρ' H' => ρ' 2 = .rp (encInstance x) 0 ∧ ρ' 4 = .op j4 0 0 ∧ ρ' 6 = .sl (ks.map encInt) ∧ ρ' 8 = .op j8 0 0 ∧ ρ' 9 = int k ∧ ρ' 10 = .op i 0 0 ∧ H' j8 = some (xRow x jo) ∧ H' j4 = some ⟨30, 6, [[.sl [], .sl [], .sl [], .sl [], .sl [], .sl []]]⟩ ∧ H' jo = some (oRow ((chL lastO x.orders ks).take k)) ∧ H' i = some ⟨75, 16, [encOrder { o with last := if decide (n ≥ 0) = true then n else o.last }]⟩) ?_ fun K hK _ _ => acond_i (fun hb => ?_) (fun hb => ?_)
    rotate_left
    · simp only [go_sem, h2, h4, h6, h8, h9, getD_map hnk, b2]
      refine wputE_1 so3 (updH_same _ _ _) ⟨by simp, rfl, by simp⟩ ?_
      simp only [go_sem]
      refine hK _ _ ⟨by simp only [go_sem, h2], by simp only [go_sem, h4], by simp only [go_sem, h6], by simp only [go_sem, h8], by simp only [go_sem, h9], by simp only [go_sem], by rw [updH_ne _ _ _ _ ei, updH_ne _ _ _ _ ei, updH_ne _ _ _ _ ei]; exact R8, by rw [updH_ne _ _ _ _ e4, updH_ne _ _ _ _ e4, updH_ne _ _ _ _ e4]; exact R4, by rw [updH_ne _ _ _ _ eo, updH_ne _ _ _ _ eo, updH_ne _ _ _ _ eo]; exact RO, ?_⟩
      rw [updH_same, if_pos hb]; rfl
    · simp only [go_sem]
      refine hK _ _ ⟨by simp only [go_sem, h2], by simp only [go_sem, h4], by simp only [go_sem, h6], by simp only [go_sem, h8], by simp only [go_sem, h9], by simp only [go_sem], by rw [updH_ne _ _ _ _ ei, updH_ne _ _ _ _ ei]; exact R8, by rw [updH_ne _ _ _ _ e4, updH_ne _ _ _ _ e4]; exact R4, by rw [updH_ne _ _ _ _ eo, updH_ne _ _ _ _ eo]; exact RO, ?_⟩
      rw [updH_same, if_neg (by rw [hb]; simp)]
    clear h2 h4 h6 h8 h9 R8 R4 RO hi
    rintro ρ H ⟨h2, h4, h6, h8, h9, h10, R8, R4, RO, RI⟩
    simp only [go_sem, h2, h4, h6, h8, h9, h10]
    refine wputE_1 so3 RI ⟨by simp, rfl, by simp⟩ ?_
    simp only [go_sem, h2, h4, h6, h8, h9, h10]
    generalize hG : updH H i _ = HG
    have RI : HG i = some ⟨75, 16, [encOrder (lastO o n)]⟩ := by rw [← hG, updH_same]; rfl
    have R8 : HG j8 = some (xRow x jo) := by rw [← hG, updH_ne _ _ _ _ ei]; exact R8
    have R4 : HG j4 = some ⟨30, 6, [[.sl [], .sl [], .sl [], .sl [], .sl [], .sl []]]⟩ := by rw [← hG, updH_ne _ _ _ _ e4]; exact R4
    have RO : HG jo = some (oRow ((chL lastO x.orders ks).take k)) := by rw [← hG, updH_ne _ _ _ _ eo]; exact RO
    clear hG
    simp only [go_sem, h2, h4, h6, h8, h9, h10, R8, RI]
    refine ⟨rfl, ?_⟩
    refine wappE_i RO ⟨rfl, rfl⟩ ⟨rfl, trivial⟩ (by simp only [List.length_map, List.length_take, List.length_cons, List.length_nil]; omega) (fun j' hj' => ?_)
    have R8' := fun r' => keep_app (r' := r') R8 n8o.symm hj'
    have R4' := fun r' => keep_app (r' := r') R4 n4o.symm hj'
    have e8 : j8 ≠ j' := ne_new R8 hj'
    have e4 : j4 ≠ j' := ne_new R4 hj'
    simp only [go_sem, h2, h4, h6, h8, h9, R8']
    refine wputE_1 so27 (R8' _) ⟨by simp, rfl, by simp⟩ ?_
    simp only [go_sem, h2, h4, h6, h8, h9, wrapS (show k ≤ 4611686018427387904 by omega)]
    refine ⟨⟨k + 1, hlt, rfl, j', e8, e4, rfl, by rw [updH_ne _ _ _ _ n48]; exact R4' _, ?_⟩, by simp only [natOf_int]; omega⟩
    rw [updH_ne _ _ _ _ e8.symm, updH_same, take_succ (chL_get hok hnk), oRow_app]
    rfl
  · have hge := eq_of_ge_b hk hge
    subst hge
    rw [List.take_of_length_le (by rw [chL_len hlk]; exact Nat.le_refl _)] at RO
    simp only [go_sem, h4, h8, R8]
    refine wputE_n R4 (by simp) ?_
    simp only [go_sem, h4]
    rw [show wrongR x p = 0 by simpa using hb]
    exact .tup _ _ (.cons _ _ _ _ (.agg _ _ (.cons _ _ _ _ (.refl _) (.cons _ _ _ _ (.refl _) (.cons _ _ _ _ (.refl _) (.cons _ _ _ _ (.row _ _ _ (by rw [updH_ne _ _ _ _ n4o.symm]; exact RO) (ConvE.refl _)) (.cons _ _ _ _ (.refl _) (.cons _ _ _ _ (.refl _) .nil))))))) (.cons _ _ _ _ (.refl _) .nil))
end Go.Proofs.Ytjlbikpgjejkjaa.Mv
