/- audit: add, order -/
import Derived.Test.YtbefdpmjpioijaaGreatDoorAuJ
set_option linter.unusedSimpArgs false
set_option linter.unusedVariables false
namespace Go.Proofs.YtbefdpmjpioijaaGreatDoor.Sq
open Go.Aw Go.Aw.D Go.Proofs Ty
open Mv (convI convB convA NC.pc take_allP)
set_option maxRecDepth 100000

/-! ### faults -/
def atF (w : ByteArray) (i : Nat) : ByteArray := (w ++ ⟨#[46]⟩) ++ decN i
def errF (w : ByteArray) (i : Nat) (e : Int) : List Fault := if (e != 0) = true then [⟨e, atF w i⟩] else []
abbrev repRow (j : Nat) : Row := ⟨65, 1, [[.os j]]⟩
theorem decN_small {n : Nat} (h : n < 100) : (decN n).size ≤ 2 := by
  by_cases h10 : 10 ≤ n
  · rw [decN_step h10, decN_last (by omega), ByteArray.size_append, digitS_size, digitS_size]; omega
  · rw [decN_last (by omega), digitS_size]; omega
theorem add_c (i j : Nat) (l : List Fault) (w : ByteArray) (n : Nat) (e : Int) (H : Heap) (K : AV → Heap → Prop) (hi : H i = some (repRow j)) (hj : H j = some (faultRow l)) (hn : n < 20) (hw : w.size ≤ 1000) (hl : l.length ≤ 1000000)
    (hK : ∀ r j' H', H' i = some (repRow j') → H' j' = some (faultRow (l ++ errF w n e)) → (∀ k row, k ≠ i → k ≠ j → H k = some row → H' k = some row) → K r H') :
    FCalls Tryz.prog 15 [.op i 0 0, str w, int n, int e] H K := by
  have nij : i ≠ j := row_ne hi hj (by rfl)
  have hd := decN_small (show n < 100 by omega)
  refine FCalls.body (c := Tryz.f15.body.getD .skip) (fun _ => false) mixed Tryz.func15 rfl (by kernel_rfl) ?_
  unfold Tryz.f15
  simp only [Option.getD_some]
  simp only [go_sem]
  refine acond_i (fun hb => ?_) (fun hb => ?_)
  · simp only [go_sem]
    refine adraw_t [] (.q 0 (.q 1 (.q 2 (.q 4 (.q 5 (.q 6 (.q 7 (.q 8 (.q 9 (.q 10 (.a2 3 (.a1 11 (.a1 12 (.a1 13 (.a1 14 .nil)))) 11 (.a1 3 (.a1 12 (.a1 13 (.a1 14 .nil))))))))))))))) (by simp) (by kernel_rfl) fun Hp Hr hp hr hp0 hr0 => ?_
    have eH : Hr = H := funext fun k => hr k (by simp)
    subst eH
    simp only [go_sem]
    refine ⟨by show ((w.size + 1 : Nat) : Int) ≤ 9223372036854775807; omega, _, (tdecimal_c n hn).q rfl, ?_⟩
    simp only [go_sem]
    refine ⟨by show ((w.size + 1 + (decN n).size : Nat) : Int) ≤ 9223372036854775807; omega, ?_⟩
    have eE : errF w n e = [⟨e, atF w n⟩] := by unfold errF; rw [if_pos hb]
    refine amixt_2i ?_ ?_
    · simp only [go_sem, hi]
      refine wappE_i hj ⟨rfl, rfl⟩ ⟨rfl, trivial⟩ (by simp only [List.length_map, List.length_cons, List.length_nil]; omega) (fun j' hj' => ?_)
      have ne_i_j' : i ≠ j' := ne_new hi hj'
      have hi2 := keep_app (r' := ⟨64, 2, l.map encFault ++ [encFault ⟨e, atF w n⟩]⟩) hi nij.symm hj'
      simp only [go_sem, hi2]
      refine wputE_1 so65 hi2 ⟨by simp, rfl, by simp⟩ ?_
      simp only [go_sem]
      refine pinEnd_i fun _ Hm _ hm2 => ?_
      have eM : Hm = _ := funext fun k => hm2 k (by simp)
      rw [eM]
      refine hK _ j' _ (updH_same _ _ _) ((updH_ne _ _ _ _ ne_i_j'.symm).trans ?_) (fun k row h1 h2 h => (updH_ne _ _ _ _ h1).trans (keep_app h (Ne.symm h2) hj'))
      rw [eE]
      exact row_app (l' := [⟨e, atF w n⟩]) rfl
    · simp only [go_sem, hi]
      refine wappE_i hj ⟨rfl, rfl⟩ ⟨rfl, trivial⟩ (by simp only [List.length_map, List.length_cons, List.length_nil]; omega) (fun j' hj' => ?_)
      have ne_i_j' : i ≠ j' := ne_new hi hj'
      have hi2 := keep_app (r' := ⟨64, 2, l.map encFault ++ [encFault ⟨e, atF w n⟩]⟩) hi nij.symm hj'
      simp only [go_sem, hi2]
      refine wputE_1 so65 hi2 ⟨by simp, rfl, by simp⟩ ?_
      simp only [go_sem]
      refine pinEnd_i fun _ Hm _ hm2 => ?_
      have eM : Hm = _ := funext fun k => hm2 k (by simp)
      rw [eM]
      refine hK _ j' _ (updH_same _ _ _) ((updH_ne _ _ _ _ ne_i_j'.symm).trans ?_) (fun k row h1 h2 h => (updH_ne _ _ _ _ h1).trans (keep_app h (Ne.symm h2) hj'))
      rw [eE]
      exact row_app (l' := [⟨e, atF w n⟩]) rfl
  · simp only [go_sem]
    refine hK _ j H hi ?_ (fun k row _ _ h => h)
    unfold errF
    rw [if_neg (by rw [hb]; simp), List.append_nil]; exact hj
/-- the errors of an order that is on a routes, and b times in Unserved -/
def ordE (o : Order) (a b : Nat) : List Int :=
  if o.off = true then opt (decide (((a + b : Nat) : Int) > 0)) 9
  else (opt (decide (((a + b : Nat) : Int) > 1)) 6 ++ opt (((a + b : Nat) : Int) == 0) 23) ++ opt ((o.penalty == -1 && decide ((b : Int) > 0)) && (a : Int) == 0) 23
theorem ordE_len (o : Order) (a b : Nat) : (ordE o a b).length ≤ 3 := by
  unfold ordE
  split
  · have := opt_len (decide (((a + b : Nat) : Int) > 0)) (9 : Int); omega
  · have h1 := opt_len (decide (((a + b : Nat) : Int) > 1)) (6 : Int)
    have h2 := opt_len (((a + b : Nat) : Int) == 0) (23 : Int)
    have h3 := opt_len ((o.penalty == -1 && decide ((b : Int) > 0)) && (a : Int) == 0) (23 : Int)
    simp only [List.length_append]; omega
theorem aorder_c (o : Order) (a b : Nat) (ha : a ≤ 1048576) (hb : b ≤ 1048576) : PC Tryz.prog 19 [.agg (encOrder o), int a, int b] (.sl ((ordE o a b).map encInt)) := by
  have w : IntKind.i64.wrap ((a : Int) + (b : Int)) = ((a + b : Nat) : Int) := by rw [wrap_in (by omega)]; omega
  refine PC.body (c := Tryz.f19.body.getD .skip) (fun t => t == 7) mixed Tryz.func19 rfl (by kernel_rfl) ?_
  unfold Tryz.f19
  simp only [Option.getD_some]
  simp only [go_sem]
  refine anew_i fun j hj => ?_
  simp only [go_sem]
  refine acond_i (fun ho => ?_) (fun ho => ?_)
  · have e0 : ordE o a b = opt (decide (((a + b : Nat) : Int) > 0)) 9 := by unfold ordE; rw [if_pos ho]
    rw [e0]
    simp only [go_sem, w]
    refine acond_i (fun h1 => ?_) (fun h1 => ?_)
    · rw [opt_t h1]
      simp only [go_sem]
      refine wappE_i (updH_same _ _ _) ⟨rfl, rfl⟩ ⟨rfl, trivial⟩ (by simp) (fun j' hj' => ?_)
      simp only [go_sem]
      exact .row _ _ _ (updH_same _ _ _) (ConvE.refl _)
    · rw [opt_f h1]
      simp only [go_sem]
      exact .row _ _ _ (updH_same _ _ _) (ConvE.refl _)
  have e0 : ordE o a b = (opt (decide (((a + b : Nat) : Int) > 1)) 6 ++ opt (((a + b : Nat) : Int) == 0) 23) ++ opt ((o.penalty == -1 && decide ((b : Int) > 0)) && (a : Int) == 0) 23 := by unfold ordE; rw [if_neg (by rw [ho]; simp)]
  rw [e0]
  simp only [go_sem, w]
  refine acond_cut (fun ρ' H' => ρ' 1 = int a ∧ ρ' 2 = int b ∧ ρ' 3 = .rp (encOrder o) 0 ∧ ∃ j', ρ' 7 = .os j' ∧ H' j' = some (errRow [])) ⟨by simp only [go_sem], by simp only [go_sem], by simp only [go_sem], _, by simp only [go_sem], updH_same _ _ _⟩ ?_
  rintro ρ H ⟨h1, h2, h3, j, h7, hH⟩
  generalize hes0 : ([] : List Int) = es0 at hH
  have hln0 : es0.length ≤ 0 := by rw [← hes0]; exact Nat.le_refl _
  refine acond_join (fun ρ' H' => ρ' 1 = int a ∧ ρ' 2 = int b ∧ ρ' 3 = .rp (encOrder o) 0 ∧ ∃ j', ρ' 7 = .os j' ∧ H' j' = some (errRow (es0 ++ opt (decide (((a + b : Nat) : Int) > 1)) 6))) ?_ fun K hK => acond_i (fun hb => ?_) (fun hb => ?_)
  rotate_left
  · simp only [go_sem, h1, h2, h3, h7]
    refine wappE_i hH ⟨rfl, rfl⟩ (by simp only [go_sem]) (by simp only [List.length_map, List.length_cons, List.length_nil]; omega) (fun j' hj' => ?_)
    simp only [go_sem]
    refine hK _ _ ⟨by simp only [go_sem, h1], by simp only [go_sem, h2], by simp only [go_sem, h3], j', by simp only [go_sem], ?_⟩
    rw [opt_t (show (decide (((a + b : Nat) : Int) > 1)) = true from hb)]
    exact row_appI (l' := [6]) rfl
  · simp only [go_sem]
    refine hK _ _ ⟨by simp only [go_sem, h1], by simp only [go_sem, h2], by simp only [go_sem, h3], j, by simp only [go_sem, h7], ?_⟩
    rw [opt_f (show (decide (((a + b : Nat) : Int) > 1)) = false from hb), List.append_nil, hH]
  clear hH h1 h2 h3 h7
  rintro ρ H ⟨h1, h2, h3, j, h7, hH⟩
  generalize hes1 : es0 ++ opt (decide (((a + b : Nat) : Int) > 1)) (6 : Int) = es1 at hH
  have hln1 : es1.length ≤ es0.length + 1 := by rw [← hes1, List.length_append]; have := opt_len (decide (((a + b : Nat) : Int) > 1)) (6 : Int); omega
  simp only [go_sem, h1, h2, h3, h7, w]
  refine acond_join (fun ρ' H' => ρ' 1 = int a ∧ ρ' 2 = int b ∧ ρ' 3 = .rp (encOrder o) 0 ∧ ∃ j', ρ' 7 = .os j' ∧ H' j' = some (errRow (es1 ++ opt (((a + b : Nat) : Int) == 0) 23))) ?_ fun K hK => acond_i (fun hb => ?_) (fun hb => ?_)
  rotate_left
  · simp only [go_sem, h1, h2, h3, h7]
    refine wappE_i hH ⟨rfl, rfl⟩ (by simp only [go_sem]) (by simp only [List.length_map, List.length_cons, List.length_nil]; omega) (fun j' hj' => ?_)
    simp only [go_sem]
    refine hK _ _ ⟨by simp only [go_sem, h1], by simp only [go_sem, h2], by simp only [go_sem, h3], j', by simp only [go_sem], ?_⟩
    rw [opt_t (show (((a + b : Nat) : Int) == 0) = true from hb)]
    exact row_appI (l' := [23]) rfl
  · simp only [go_sem]
    refine hK _ _ ⟨by simp only [go_sem, h1], by simp only [go_sem, h2], by simp only [go_sem, h3], j, by simp only [go_sem, h7], ?_⟩
    rw [opt_f (show (((a + b : Nat) : Int) == 0) = false from hb), List.append_nil, hH]
  clear hH h1 h2 h3 h7
  rintro ρ H ⟨h1, h2, h3, j, h7, hH⟩
  generalize hes2 : es1 ++ opt (((a + b : Nat) : Int) == 0) (23 : Int) = es2 at hH
  have hln2 : es2.length ≤ es1.length + 1 := by rw [← hes2, List.length_append]; have := opt_len (((a + b : Nat) : Int) == 0) (23 : Int); omega
  simp only [go_sem, h1, h2, h3, h7, w]
  refine acond_join (fun ρ' H' => ρ' 1 = int a ∧ ρ' 2 = int b ∧ ρ' 3 = .rp (encOrder o) 0 ∧ ∃ j', ρ' 7 = .os j' ∧ H' j' = some (errRow (es2 ++ opt ((o.penalty == -1 && decide ((b : Int) > 0)) && (a : Int) == 0) 23))) ?_ fun K hK => acond_i (fun hb => ?_) (fun hb => ?_)
  rotate_left
  · simp only [go_sem, h1, h2, h3, h7]
    refine wappE_i hH ⟨rfl, rfl⟩ (by simp only [go_sem]) (by simp only [List.length_map, List.length_cons, List.length_nil]; omega) (fun j' hj' => ?_)
    simp only [go_sem]
    refine hK _ _ ⟨by simp only [go_sem, h1], by simp only [go_sem, h2], by simp only [go_sem, h3], j', by simp only [go_sem], ?_⟩
    rw [opt_t (show ((o.penalty == -1 && decide ((b : Int) > 0)) && (a : Int) == 0) = true from hb)]
    exact row_appI (l' := [23]) rfl
  · simp only [go_sem]
    refine hK _ _ ⟨by simp only [go_sem, h1], by simp only [go_sem, h2], by simp only [go_sem, h3], j, by simp only [go_sem, h7], ?_⟩
    rw [opt_f (show ((o.penalty == -1 && decide ((b : Int) > 0)) && (a : Int) == 0) = false from hb), List.append_nil, hH]
  clear hH h1 h2 h3 h7
  rintro ρ H ⟨h1, h2, h3, j, h7, hH⟩
  generalize hes3 : es2 ++ opt ((o.penalty == -1 && decide ((b : Int) > 0)) && (a : Int) == 0) (23 : Int) = es3 at hH
  have hln3 : es3.length ≤ es2.length + 1 := by rw [← hes3, List.length_append]; have := opt_len ((o.penalty == -1 && decide ((b : Int) > 0)) && (a : Int) == 0) (23 : Int); omega
  simp only [go_sem, h7]
  rw [← hes3, ← hes2, ← hes1, ← hes0, List.nil_append] at hH
  exact .row _ _ _ hH (ConvE.refl _)
/-! ### the faults of a plan -/
def sRoutes : ByteArray := ⟨#[114,111,117,116,101,115]⟩
def sOrders : ByteArray := ⟨#[111,114,100,101,114,115]⟩
def sUnserved : ByteArray := ⟨#[117,110,115,101,114,118,101,100]⟩
def sTypes : ByteArray := ⟨#[116,121,112,101,115]⟩
def sPlan : ByteArray := ⟨#[112,108,97,110]⟩
def onRt (l : List Visit) (k : Int) : Bool := ((orders16 l).2 == 0) && hasR (orders16 l).1 k
def aOn (p : Plan) (k : Int) : Nat := cntB (fun r : Route => onRt r.visits k) p.routes
def routesF (ev : Route → Int) (l : List Route) (k : Nat) : List Fault := (List.range k).flatMap fun i => match l[i]? with
  | some r => errF sRoutes i (ev r)
  | none => []
def orderF (x : Instance) (p : Plan) (i : Nat) : List Fault := match x.orders[i]? with
  | some o => (ordE o (aOn p i) (onU p i)).flatMap (errF sOrders i)
  | none => []
def ordersF (x : Instance) (p : Plan) (k : Nat) : List Fault := (List.range k).flatMap (orderF x p)
def unservedF (x : Instance) (p : Plan) (k : Nat) : List Fault := (List.range k).flatMap fun i => match p.unserved[i]? with
  | some u => errF sUnserved i (if badNo u x.orders.length = true then 7 else 0)
  | none => []
def typesF (x : Instance) (p : Plan) (k : Nat) : List Fault := (List.range k).flatMap fun t => match x.types[t]? with
  | some v => errF sTypes t (if (cntT p t : Int) > v.count then 22 else 0)
  | none => []
def planF (ev : Route → Int) (x : Instance) (p : Plan) : List Fault :=
  if (decide ((p.routes.length : Int) > 1024) || decide ((p.unserved.length : Int) > 1024)) = true then [⟨4, sPlan⟩]
  else routesF ev p.routes p.routes.length ++ ordersF x p x.orders.length ++ unservedF x p p.unserved.length ++ typesF x p x.types.length
theorem errF_len (w : ByteArray) (i : Nat) (e : Int) : (errF w i e).length ≤ 1 := by unfold errF; split <;> simp
theorem flat_le {α β : Type} {f : α → List β} {c : Nat} : ∀ l : List α, (∀ x ∈ l, (f x).length ≤ c) → (l.flatMap f).length ≤ l.length * c
  | [], _ => by simp
  | x :: l, h => by
    have h1 := h x (by simp)
    have h2 := flat_le l fun y hy => h y (by simp [hy])
    rw [List.flatMap_cons, List.length_append, List.length_cons, Nat.add_mul]; omega
theorem routesF_len (ev : Route → Int) (l : List Route) (k : Nat) : (routesF ev l k).length ≤ k := by
  have := flat_le (c := 1) (f := fun i => match l[i]? with | some r => errF sRoutes i (ev r) | none => []) (List.range k) fun i _ => by
    split
    · exact errF_len _ _ _
    · simp
  simpa [routesF] using this
theorem orderF_len (x : Instance) (p : Plan) (i : Nat) : (orderF x p i).length ≤ 3 := by
  unfold orderF
  split
  · rename_i o ho
    have := flat_le (c := 1) (f := errF sOrders i) (ordE o (aOn p i) (onU p i)) fun e _ => errF_len _ _ _
    have := ordE_len o (aOn p i) (onU p i)
    omega
  · simp
theorem ordersF_len (x : Instance) (p : Plan) (k : Nat) : (ordersF x p k).length ≤ k * 3 := by
  have := flat_le (c := 3) (f := orderF x p) (List.range k) fun i _ => orderF_len x p i
  simpa [ordersF] using this
theorem unservedF_len (x : Instance) (p : Plan) (k : Nat) : (unservedF x p k).length ≤ k := by
  have := flat_le (c := 1) (f := fun i => match p.unserved[i]? with | some u => errF sUnserved i (if badNo u x.orders.length = true then 7 else 0) | none => []) (List.range k) fun i _ => by
    split
    · exact errF_len _ _ _
    · simp
  simpa [unservedF] using this
theorem typesF_len (x : Instance) (p : Plan) (k : Nat) : (typesF x p k).length ≤ k := by
  have := flat_le (c := 1) (f := fun t => match x.types[t]? with | some v => errF sTypes t (if (cntT p t : Int) > v.count then 22 else 0) | none => []) (List.range k) fun i _ => by
    split
    · exact errF_len _ _ _
    · simp
  simpa [typesF] using this
theorem routesF_succ {ev : Route → Int} {l : List Route} {k : Nat} {r : Route} (h : l[k]? = some r) : routesF ev l (k + 1) = routesF ev l k ++ errF sRoutes k (ev r) := by
  unfold routesF
  rw [List.range_succ, List.flatMap_append]
  simp [h]
theorem ordersF_succ {x : Instance} {p : Plan} {k : Nat} {o : Order} (h : x.orders[k]? = some o) : ordersF x p (k + 1) = ordersF x p k ++ (ordE o (aOn p k) (onU p k)).flatMap (errF sOrders k) := by
  unfold ordersF
  rw [List.range_succ, List.flatMap_append]
  simp [orderF, h]
theorem unservedF_succ {x : Instance} {p : Plan} {k : Nat} {u : Int} (h : p.unserved[k]? = some u) : unservedF x p (k + 1) = unservedF x p k ++ errF sUnserved k (if badNo u x.orders.length = true then 7 else 0) := by
  unfold unservedF
  rw [List.range_succ, List.flatMap_append]
  simp [h]
theorem typesF_succ {x : Instance} {p : Plan} {k : Nat} {v : VType} (h : x.types[k]? = some v) : typesF x p (k + 1) = typesF x p k ++ errF sTypes k (if (cntT p k : Int) > v.count then 22 else 0) := by
  unfold typesF
  rw [List.range_succ, List.flatMap_append]
  simp [h]
theorem range_set {f : Nat → Int} {n k : Nat} {v : Int} : ((List.range n).map f).set k v = (List.range n).map fun m => if m = k then v else f m := by
  apply List.ext_getElem?
  intro i
  rw [List.getElem?_set]
  by_cases e : k = i
  · subst e
    by_cases h : k < n
    · simp [h]
    · simp [h]
  · have : i ≠ k := fun h => e h.symm
    by_cases h : i < n
    · simp [e, h, this]
    · simp [e, h]
def servedL (n : Nat) (l : List Route) : List Int := (List.range n).map fun k : Nat => ((cntB (fun r : Route => onRt r.visits k) l : Nat) : Int)
def usedL (n : Nat) (l : List Route) : List Int := (List.range n).map fun t : Nat => ((cntB (fun r : Route => r.type == (t : Int)) l : Nat) : Int)
theorem rmap_get {f : Nat → Int} {n k : Nat} (h : k < n) : ((List.range n).map f)[k]? = some (f k) := by simp [h]
end Go.Proofs.YtbefdpmjpioijaaGreatDoor.Sq
