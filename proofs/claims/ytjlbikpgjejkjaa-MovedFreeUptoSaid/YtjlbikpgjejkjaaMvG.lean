/- moved.change, moved.With, moved.Last -/
import Derived.Test.YtjlbikpgjejkjaaMvF
set_option linter.unusedSimpArgs false
set_option linter.unusedVariables false
namespace Go.Proofs.Ytjlbikpgjejkjaa.Mv
open Go.Aw Go.Aw.D Go.Proofs Ty
set_option maxRecDepth 100000

theorem clone_c (l : List Order) (hl : l.length ≤ 1048576) : NC Try.prog 83 [.sl (l.map encOrder)] (oRow l) .os := by
  refine NC.body (c := Try.f83.body.getD .skip) (fun t => t == 2 || t == 5) mixed Try.func83 rfl (by kernel_rfl) ?_
  unfold Try.f83
  simp only [Option.getD_some]
  simp only [go_sem]
  refine anew_i fun j hj => ?_
  have R := updH_same noRows j (some (oRow []))
  generalize updH noRows j _ = H at R ⊢
  simp only [go_sem]
  refine ⟨fun hn => ?_, ?_⟩
  · refine acond_i (fun _ => ?_) (fun hb => by simp at hb)
    simp only [go_sem]
    refine anew_i fun i hi => ?_
    simp only [go_sem]
    refine ⟨i, rfl, ?_⟩
    rw [updH_same, List.map_eq_nil_iff.1 hn]; rfl
  · refine acond_i (fun hb => by simp at hb) (fun _ => ?_)
    simp only [go_sem]
    refine anew_i fun i hi => ?_
    simp only [go_sem]
    refine wappE_i (updH_same _ _ _) ⟨rfl, rfl⟩ (orders_all _) (by simp only [List.length_map, List.length_nil]; omega) (fun j' hj' => ?_)
    simp only [go_sem]
    refine ⟨j', rfl, ?_⟩
    exact updH_same _ _ _
abbrev mid (f : Order → Int → Order) (l : List Order) (ks : List Int) (k : Nat) : List Order := (chL f l ks).take k ++ l.drop k
theorem mid_zero (f : Order → Int → Order) (l : List Order) (ks : List Int) : mid f l ks 0 = l := by simp [mid]
theorem mid_all {f : Order → Int → Order} {l : List Order} {ks : List Int} (h : ks.length = l.length) : mid f l ks l.length = chL f l ks := by
  unfold mid
  rw [List.take_of_length_le (by rw [chL_len h]; exact Nat.le_refl _), List.drop_length, List.append_nil]
theorem mid_len {f : Order → Int → Order} {l : List Order} {ks : List Int} (h : ks.length = l.length) (k : Nat) (hk : k ≤ l.length) : (mid f l ks k).length = l.length := by
  unfold mid
  rw [List.length_append, List.length_take, List.length_drop, chL_len h]; omega
theorem mid_get {f : Order → Int → Order} {l : List Order} {ks : List Int} (h : ks.length = l.length) {k : Nat} {o : Order} (hk : l[k]? = some o) : (mid f l ks k)[k]? = some o := by
  have hlt := (List.getElem?_eq_some_iff.1 hk).1
  unfold mid
  rw [List.getElem?_append_right (by rw [List.length_take, chL_len h]; omega), List.length_take, chL_len h, Nat.min_eq_left (by omega), Nat.sub_self, List.getElem?_drop]
  exact hk
theorem mid_succ {f : Order → Int → Order} {l : List Order} {ks : List Int} (h : ks.length = l.length) {k : Nat} {o : Order} {n : Int} (h1 : l[k]? = some o) (h2 : ks[k]? = some n) : (mid f l ks k).set k (f o n) = mid f l ks (k + 1) := by
  have hlt := (List.getElem?_eq_some_iff.1 h1).1
  unfold mid
  rw [take_succ (chL_get h1 h2), List.set_append_right _ _ (by rw [List.length_take, chL_len h]; omega), List.length_take, chL_len h, Nat.min_eq_left (by omega), Nat.sub_self, List.append_assoc]
  congr 1
  rw [← List.getElem_cons_drop (h := hlt)]
  rfl
theorem change_c (f : Order → Int → Order) (g : Nat) (x : Instance) (p : Plan) (ho : x.orders.length ≤ 1048576) (hp : p.routes.length ≤ 1048576) (hv : ∀ r ∈ p.routes, r.visits.length ≤ 1048576)
    (hok : callOk Try.prog g = true) (hg : ∀ (j : Nat) (l : List Order) (k : Nat) (o : Order) (n : Int) (H : Heap) (K : AV → Heap → Prop), H j = some (oRow l) → l[k]? = some o → (∀ r, K r (updH H j (some (oRow (l.set k (f o n)))))) → FCalls Try.prog g [.op j k 0, int n] H K) :
    PC Try.prog 50 [.agg (encInstance x), .agg (encPlan p), .v (.func (.func g) #[] #[])] (.tup [.agg (encInstance (chR f x p)), int (wrongR x p)]) := by
  refine PC.body (c := Try.f50.body.getD .skip) (fun t => t == 3) mixed Try.func50 rfl (by kernel_rfl) ?_
  unfold Try.f50
  simp only [Option.getD_some]
  simp only [go_sem]
  refine anew_i fun j3 hj3 => ?_
  have R3 := updH_same noRows j3 (some (⟨30, 6, [encInstance x]⟩ : Row))
  generalize updH noRows j3 _ = H3 at R3 ⊢
  simp only [go_sem]
  refine anew_i fun j6 hj6 => ?_
  have n36 : j3 ≠ j6 := ne_new R3 hj6
  have R3 := keep_new (r' := (⟨30, 6, [[.sl [], .sl [], .sl [], .sl [], .sl [], .sl []]]⟩ : Row)) R3 hj6
  have R6 := updH_same H3 j6 (some (⟨30, 6, [[.sl [], .sl [], .sl [], .sl [], .sl [], .sl []]]⟩ : Row))
  generalize updH H3 j6 _ = H6 at R3 R6 ⊢
  clear hj3 hj6
  simp only [go_sem, R3, encInstance_len]
  refine PC.use (Kinds_c x p ho hp hv) ?_
  simp only [go_sem]
  refine acond_i (fun hb => ?_) (fun hb => ?_)
  · have e : chR f x p = zeroI := if_pos hb
    rw [e]
    simp only [go_sem]
    refine wputE_n R6 (by simp) ?_
    simp only [go_sem]
    exact .refl _
  have e : chR f x p = chI f x (kindsR x p) := if_neg (by rw [hb]; simp)
  have hlk := kindsR_len hb
  rw [e]
  generalize kindsR x p = ks at hlk
  simp only [go_sem, R3]
  refine NC.use (clone_c x.orders ho) fun jc hjc => ?_
  have n3c : j3 ≠ jc := ne_new R3 hjc
  have n6c : j6 ≠ jc := ne_new R6 hjc
  have RC := updH_same H6 jc (some (oRow x.orders))
  have R3 := keep_new (r' := oRow x.orders) R3 hjc
  have R6 := keep_new (r' := oRow x.orders) R6 hjc
  generalize updH H6 jc _ = HC at R3 R6 RC ⊢
  clear hjc
  simp only [go_sem, R3]
  refine wputE_1 so27 R3 ⟨by simp, rfl, by simp⟩ ?_
  generalize hG : updH HC j3 _ = HD
  have R3 : HD j3 = some (xRow x jc) := by rw [← hG, updH_same]; rfl
  have R6 : HD j6 = some ⟨30, 6, [[.sl [], .sl [], .sl [], .sl [], .sl [], .sl []]]⟩ := by rw [← hG, updH_ne _ _ _ _ n36.symm]; exact R6
  have RC : HD jc = some (oRow x.orders) := by rw [← hG, updH_ne _ _ _ _ n3c.symm]; exact RC
  clear hG
  simp only [go_sem, R3, RC]
  refine ⟨fun ρ H => ∃ k : Nat, k ≤ x.orders.length ∧ ρ 2 = .v (.func (.func g) #[] #[]) ∧ ρ 3 = .op j3 0 0 ∧ ρ 6 = .op j6 0 0 ∧ ρ 8 = .sl (ks.map encInt) ∧ ρ 27 = int x.orders.length ∧ ρ 28 = int k ∧ H j3 = some (xRow x jc) ∧ H j6 = some ⟨30, 6, [[.sl [], .sl [], .sl [], .sl [], .sl [], .sl []]]⟩ ∧ H jc = some (oRow (mid f x.orders ks k)), fun ρ _ => x.orders.length - natOf (ρ 28), ⟨0, Nat.zero_le _, rfl, rfl, rfl, rfl, by simp only [go_sem], rfl, R3, R6, by rw [mid_zero]; exact RC⟩, ?_⟩
  clear R3 R6 RC
  rintro ρ H ⟨k, hk, h2, h3, h6, h8, h27, h28, R3, R6, RC⟩
  simp only [go_sem, h2, h3, h6, h8, h27, h28]
  refine acond_i (fun hlt => ?_) (fun hge => ?_)
  · have hlt := le_of_lt_b hlt
    obtain ⟨o, hok2⟩ := getIn hlt
    obtain ⟨n, hnk⟩ := getIn (show k < ks.length by omega)
    have b1 := inB hlt
    have b2 := inB (show k < ks.length by omega)
    have hml := mid_len (f := f) hlk k hk
    simp only [go_sem, h2, h3, h6, h8, h27, h28]
    refine adraw_m [(0, true), (1, true), (3, true), (5, true), (6, true), (7, true), (8, true), (2, false), (4, false), (9, false)] (by kernel_rfl) ?_
    simp only [go_sem, h2, h3, h6, h8, h27, h28, getD_map hnk, b2, R3, RC, hok, hml, b1]
    refine hg jc _ k o n H _ RC (mid_get hlk hok2) fun r => ?_
    simp only [go_sem, h2, h3, h6, h8, h27, h28, wrapS (show k ≤ 4611686018427387904 by omega)]
    refine ⟨⟨k + 1, hlt, rfl, by rw [updH_ne _ _ _ _ n3c]; exact R3, by rw [updH_ne _ _ _ _ n6c]; exact R6, ?_⟩, by simp only [natOf_int]; omega⟩
    rw [mid_succ hlk hok2 hnk]
  · have hge := eq_of_ge_b hk hge
    subst hge
    rw [mid_all hlk] at RC
    simp only [go_sem, h3, h6, R3]
    refine wputE_n R6 (by simp) ?_
    simp only [go_sem, h6]
    rw [show wrongR x p = 0 by simpa using hb]
    exact .tup _ _ (.cons _ _ _ _ (.agg _ _ (.cons _ _ _ _ (.refl _) (.cons _ _ _ _ (.refl _) (.cons _ _ _ _ (.refl _) (.cons _ _ _ _ (.row _ _ _ (by rw [updH_ne _ _ _ _ n6c.symm]; exact RC) (ConvE.refl _)) (.cons _ _ _ _ (.refl _) (.cons _ _ _ _ (.refl _) .nil))))))) (.cons _ _ _ _ (.refl _) .nil))
theorem order_now14 (o : Order) (n : Int) : List.take 14 (encOrder o) ++ [int n] ++ List.drop 15 (encOrder o) = encOrder { o with now := n } := rfl
theorem order_last13 (o : Order) (n : Int) : List.take 13 (encOrder o) ++ [int n] ++ List.drop 14 (encOrder o) = encOrder { o with last := n } := rfl
theorem updH_twice (H : Heap) (j : Nat) (a b : Option Row) : updH (updH H j a) j b = updH H j b := by
  funext k
  by_cases e : k = j
  · subst e; rw [updH_same, updH_same]
  · rw [updH_ne _ _ _ _ e, updH_ne _ _ _ _ e, updH_ne _ _ _ _ e]
theorem with1_c (j : Nat) (l : List Order) (k : Nat) (o : Order) (n : Int) (H : Heap) (K : AV → Heap → Prop) (hj : H j = some (oRow l)) (hk : l[k]? = some o) (hK : ∀ r, K r (updH H j (some (oRow (l.set k (nowO o n)))))) :
    FCalls Try.prog 51 [.op j k 0, int n] H K := by
  have hlt := (List.getElem?_eq_some_iff.1 hk).1
  refine FCalls.body (c := Try.f51.body.getD .skip) (fun _ => false) mixed Try.func51 rfl (by kernel_rfl) ?_
  unfold Try.f51
  simp only [Option.getD_some]
  simp only [go_sem]
  refine wputE_1 so3 hj ⟨by rw [List.length_map]; exact hlt, rfl, by simp⟩ ?_
  simp only [go_sem, getD_map hk]
  rw [order_now14, ← List.map_set]
  exact hK _
theorem last1_c (j : Nat) (l : List Order) (k : Nat) (o : Order) (n : Int) (H : Heap) (K : AV → Heap → Prop) (hj : H j = some (oRow l)) (hk : l[k]? = some o) (hK : ∀ r, K r (updH H j (some (oRow (l.set k (lastO o n)))))) :
    FCalls Try.prog 52 [.op j k 0, int n] H K := by
  have hlt := (List.getElem?_eq_some_iff.1 hk).1
  refine FCalls.body (c := Try.f52.body.getD .skip) (fun _ => false) mixed Try.func52 rfl (by kernel_rfl) ?_
  unfold Try.f52
  simp only [Option.getD_some]
  simp only [go_sem]
  refine wputE_1 so3 hj ⟨by rw [List.length_map]; exact hlt, rfl, by simp⟩ ?_
  simp only [go_sem]
  refine acond_i (fun hb => ?_) (fun hb => ?_)
  · simp only [go_sem]
    refine wputE_1 so3 (updH_same _ _ _) ⟨by rw [List.length_set, List.length_map]; exact hlt, rfl, by simp⟩ ?_
    simp only [go_sem, getD_map hk]
    have e : lastO o n = { o with now := -1, last := n } := by unfold lastO; rw [if_pos hb]
    rw [e] at hK
    rw [order_now14, ← List.map_set, getD_map (show (l.set k { o with now := -1 })[k]? = some { o with now := -1 } by rw [List.getElem?_set, if_pos rfl, if_pos hlt]), order_last13, ← List.map_set, List.set_set, updH_twice]
    exact hK _
  · simp only [go_sem, getD_map hk]
    have e : lastO o n = { o with now := -1 } := by unfold lastO; rw [if_neg (by rw [hb]; simp)]
    rw [e] at hK
    rw [order_now14, ← List.map_set]
    exact hK _
theorem With_c (x : Instance) (p : Plan) (ho : x.orders.length ≤ 1048576) (hp : p.routes.length ≤ 1048576) (hv : ∀ r ∈ p.routes, r.visits.length ≤ 1048576) :
    PC Try.prog 19 [.agg (encInstance x), .agg (encPlan p)] (.tup [.agg (encInstance (chR nowO x p)), int (wrongR x p)]) := by
  refine PC.body (c := Try.f19.body.getD .skip) (fun _ => false) mixed Try.func19 rfl (by kernel_rfl) ?_
  unfold Try.f19
  simp only [Option.getD_some]
  simp only [go_sem]
  refine anew_i fun j hj => ?_
  simp only [go_sem]
  refine PC.use (change_c nowO 51 x p ho hp hv (by kernel_rfl) with1_c) ?_
  simp only [go_sem]
  refine wputE_n (updH_same _ _ _) (by simp [encInstance_len]) ?_
  simp only [go_sem, encInstance_len]
  exact .refl _
theorem Last_c (x : Instance) (p : Plan) (ho : x.orders.length ≤ 1048576) (hp : p.routes.length ≤ 1048576) (hv : ∀ r ∈ p.routes, r.visits.length ≤ 1048576) :
    PC Try.prog 21 [.agg (encInstance x), .agg (encPlan p)] (.tup [.agg (encInstance (chR lastO x p)), int (wrongR x p)]) := by
  refine PC.body (c := Try.f21.body.getD .skip) (fun _ => false) mixed Try.func21 rfl (by kernel_rfl) ?_
  unfold Try.f21
  simp only [Option.getD_some]
  simp only [go_sem]
  refine anew_i fun j hj => ?_
  simp only [go_sem]
  refine PC.use (change_c lastO 52 x p ho hp hv (by kernel_rfl) last1_c) ?_
  simp only [go_sem]
  refine wputE_n (updH_same _ _ _) (by simp [encInstance_len]) ?_
  simp only [go_sem, encInstance_len]
  exact .refl _
end Go.Proofs.Ytjlbikpgjejkjaa.Mv
