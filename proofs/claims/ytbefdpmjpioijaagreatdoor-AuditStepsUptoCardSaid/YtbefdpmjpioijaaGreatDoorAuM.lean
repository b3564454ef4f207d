/- lorryref55: index, routes, unserved, order -/
import Derived.Test.YtbefdpmjpioijaaGreatDoorAuK
set_option linter.unusedSimpArgs false
set_option linter.unusedVariables false
namespace Go.Proofs.YtbefdpmjpioijaaGreatDoor.Sq
open Go.Aw Go.Aw.D Go.Proofs Ty
open Mv (convI convB convA NC.pc take_allP)
set_option maxRecDepth 100000

theorem rindex_c (w : ByteArray) (n : Nat) (hw : w.size ≤ 1000) (hn : n < 100) : PC Tryz.prog 21 [str w, int n] (str (atF w n)) := by
  have hd := decN_small hn
  refine PC.body (c := Tryz.f21.body.getD .skip) (fun _ => false) mixed Tryz.func21 rfl (by kernel_rfl) ?_
  unfold Tryz.f21
  simp only [Option.getD_some]
  simp only [go_sem]
  refine ⟨by show ((w.size + 1 : Nat) : Int) ≤ 9223372036854775807; omega, ?_⟩
  refine PC.use (Decimal_c n (by omega)) ?_
  simp only [go_sem]
  refine ⟨by show ((w.size + 1 + (decN n).size : Nat) : Int) ≤ 9223372036854775807; omega, ?_⟩
  exact .refl _
theorem hasR_bit {s k : Int} (h0 : 0 ≤ k) (h1 : k ≤ 62) : (bitV .and .i64 (shV .shr .i64 s k) 1 == 1) = hasR s k := by
  have e := shr_in (x := s) (i := k.toNat) (by omega)
  rw [Int.toNat_of_nonneg h0] at e
  rw [and1, e]
  unfold hasR
  have h0' : decide (k ≥ 0) = true := by simpa using h0
  have h1' : decide (k ≤ 62) = true := by simpa using h1
  rw [h0', h1']; rfl
theorem rroutes_c (p : Plan) (k : Int) (h0 : 0 ≤ k) (h1 : k ≤ 62) (hr : p.routes.length ≤ 1048576) (hv : ∀ r ∈ p.routes, r.visits.length ≤ 1048576) : PC Tryz.prog 36 [.agg (encPlan p), int k] (int (aOn p k : Nat)) := by
  refine PC.body (c := Tryz.f36.body.getD .skip) (fun _ => false) mixed Tryz.func36 rfl (by kernel_rfl) ?_
  unfold Tryz.f36
  simp only [Option.getD_some]
  simp only [go_sem]
  refine ⟨fun ρ _ => ∃ i : Nat, i ≤ p.routes.length ∧ ρ 1 = int k ∧ ρ 2 = .rp (encPlan p) 0 ∧ ρ 6 = int i ∧ ρ 5 = int (cntB (fun r : Route => onRt r.visits k) (p.routes.take i) : Nat), fun ρ _ => p.routes.length - natOf (ρ 6), ⟨0, Nat.zero_le _, rfl, rfl, rfl, rfl⟩, ?_⟩
  rintro ρ H ⟨i, hi, h1', h2, h6, h5⟩
  simp only [go_sem, h1', h2, h6, h5]
  refine acond_i (fun hlt => ?_) (fun hge => ?_)
  · have hlt := le_of_lt_b hlt
    obtain ⟨r, hri⟩ := getIn hlt
    have b1 := inB hlt
    have hc := cnt_take (p := fun r : Route => onRt r.visits k) hri
    have hcl : cntB (fun r : Route => onRt r.visits k) (p.routes.take i) ≤ p.routes.length := cnt_le
    simp only [go_sem, h1', h2, h6, h5, getD_map hri, b1]
    refine PC.use (orders16_c r (hv r (List.mem_of_getElem? hri))) ?_
    have hon : ((orders16 r.visits).2 == 0 && bitV .and .i64 (shV .shr .i64 (orders16 r.visits).1 k) 1 == 1) = onRt r.visits k := by
      unfold onRt; rw [hasR_bit h0 h1]
    simp only [go_sem, h1', h2, h6, h5]
    refine ⟨fun _ => h0, acond_i (fun hb => ?_) (fun hb => ?_)⟩
    · rw [hon] at hb
      rw [if_pos hb] at hc
      simp only [go_sem, h1', h2, h6, h5, wrapS (show i ≤ 4611686018427387904 by omega), wrapS (show cntB (fun r : Route => onRt r.visits k) (p.routes.take i) ≤ 4611686018427387904 by omega)]
      exact ⟨⟨i + 1, hlt, rfl, by rw [hc]⟩, by simp only [natOf_int]; omega⟩
    · rw [hon] at hb
      rw [if_neg (by rw [hb]; simp)] at hc
      simp only [go_sem, h1', h2, h6, h5, wrapS (show i ≤ 4611686018427387904 by omega)]
      exact ⟨⟨i + 1, hlt, rfl, by rw [hc]; rfl⟩, by simp only [natOf_int]; omega⟩
  · have hge := eq_of_ge_b hi hge
    subst hge
    rw [List.take_length] at h5
    simp only [go_sem, h5]
    exact .refl _
theorem runs_c (p : Plan) (k : Int) (hu : p.unserved.length ≤ 1048576) : PC Tryz.prog 37 [.agg (encPlan p), int k] (int (onU p k : Nat)) := by
  refine PC.body (c := Tryz.f37.body.getD .skip) (fun _ => false) mixed Tryz.func37 rfl (by kernel_rfl) ?_
  unfold Tryz.f37
  simp only [Option.getD_some]
  simp only [go_sem]
  refine ⟨fun ρ _ => ∃ i : Nat, i ≤ p.unserved.length ∧ ρ 1 = int k ∧ ρ 2 = .rp (encPlan p) 0 ∧ ρ 6 = int i ∧ ρ 5 = int (cntB (fun u : Int => u == k) (p.unserved.take i) : Nat), fun ρ _ => p.unserved.length - natOf (ρ 6), ⟨0, Nat.zero_le _, rfl, rfl, rfl, rfl⟩, ?_⟩
  rintro ρ H ⟨i, hi, h1', h2, h6, h5⟩
  simp only [go_sem, h1', h2, h6, h5]
  refine acond_i (fun hlt => ?_) (fun hge => ?_)
  · have hlt := le_of_lt_b hlt
    obtain ⟨u, hui⟩ := getIn hlt
    have b1 := inB hlt
    have hc := cnt_take (p := fun u : Int => u == k) hui
    have hcl : cntB (fun u : Int => u == k) (p.unserved.take i) ≤ p.unserved.length := cnt_le
    simp only [go_sem, h1', h2, h6, h5, getD_map hui, b1]
    refine acond_i (fun hb => ?_) (fun hb => ?_)
    · rw [if_pos hb] at hc
      simp only [go_sem, h1', h2, h6, h5, wrapS (show i ≤ 4611686018427387904 by omega), wrapS (show cntB (fun u : Int => u == k) (p.unserved.take i) ≤ 4611686018427387904 by omega)]
      exact ⟨⟨i + 1, hlt, rfl, by rw [hc]⟩, by simp only [natOf_int]; omega⟩
    · rw [if_neg (by rw [hb]; simp)] at hc
      simp only [go_sem, h1', h2, h6, h5, wrapS (show i ≤ 4611686018427387904 by omega)]
      exact ⟨⟨i + 1, hlt, rfl, by rw [hc]; rfl⟩, by simp only [natOf_int]; omega⟩
  · have hge := eq_of_ge_b hi hge
    subst hge
    rw [List.take_length] at h5
    simp only [go_sem, h5]
    exact .refl _
theorem rorder_c (x : Instance) (p : Plan) (k : Nat) (o : Order) (ho : x.orders[k]? = some o) (h1 : k ≤ 62) (hr : p.routes.length ≤ 1048576) (hu : p.unserved.length ≤ 1048576) (hv : ∀ r ∈ p.routes, r.visits.length ≤ 1048576) :
    PC Tryz.prog 22 [.agg (encInstance x), .agg (encPlan p), int k] (.sl ((ordE o (aOn p k) (onU p k)).map encInt)) := by
  have hlt := (List.getElem?_eq_some_iff.1 ho).1
  have b1 := inB hlt
  have ha : aOn p k ≤ p.routes.length := cnt_le'
  have hb : onU p k ≤ p.unserved.length := cnt_le'
  have w : IntKind.i64.wrap (((aOn p k : Nat) : Int) + ((onU p k : Nat) : Int)) = ((aOn p k + onU p k : Nat) : Int) := by rw [wrap_in (by omega)]; omega
  refine PC.body (c := Tryz.f22.body.getD .skip) (fun t => t == 9) mixed Tryz.func22 rfl (by kernel_rfl) ?_
  unfold Tryz.f22
  simp only [Option.getD_some]
  simp only [go_sem]
  refine adraw_q (by rfl) (by kernel_rfl) ?_
  simp only [go_sem]
  refine ⟨_, (rroutes_c p k (by omega) (by omega) hr hv).q rfl, ?_⟩
  simp only [go_sem]
  refine ⟨_, (runs_c p k hu).q rfl, ?_⟩
  generalize aOn p k = a at *
  generalize onU p k = b at *
  simp only [go_sem, getD_map ho, b1]
  refine acond_i (fun hoff => ?_) (fun hoff => ?_)
  · have e0 : ordE o a b = opt (decide (((a + b : Nat) : Int) > 0)) 9 := by unfold ordE; rw [if_pos hoff]
    rw [e0]
    simp only [go_sem, w]
    refine acond_i (fun h2 => ?_) (fun h2 => ?_)
    · rw [opt_t h2]
      simp only [go_sem]
      exact .refl _
    · rw [opt_f h2]
      simp only [go_sem]
      exact .refl _
  have e0 : ordE o a b = (opt (decide (((a + b : Nat) : Int) > 1)) 6 ++ opt (((a + b : Nat) : Int) == 0) 23) ++ opt ((o.penalty == -1 && decide ((b : Int) > 0)) && (a : Int) == 0) 23 := by unfold ordE; rw [if_neg (by rw [hoff]; simp)]
  rw [e0]
  simp only [go_sem]
  refine anew_i fun j hj => ?_
  simp only [go_sem, w]
  refine acond_cut (fun ρ' H' => ρ' 2 = int k ∧ ρ' 3 = .rp (encInstance x) 0 ∧ ρ' 7 = int a ∧ ρ' 8 = int b ∧ ∃ j', ρ' 9 = .os j' ∧ H' j' = some (errRow [])) ⟨by simp only [go_sem], by simp only [go_sem], by simp only [go_sem], by simp only [go_sem], _, by simp only [go_sem], updH_same _ _ _⟩ ?_
  rintro ρ H ⟨h2, h3, h7, h8, j, h9, hH⟩
  generalize hes0 : ([] : List Int) = es0 at hH
  have hln0 : es0.length ≤ 0 := by rw [← hes0]; exact Nat.le_refl _
  refine acond_join (fun ρ' H' => ρ' 2 = int k ∧ ρ' 3 = .rp (encInstance x) 0 ∧ ρ' 7 = int a ∧ ρ' 8 = int b ∧ ∃ j', ρ' 9 = .os j' ∧ H' j' = some (errRow (es0 ++ opt (decide (((a + b : Nat) : Int) > 1)) 6))) ?_ fun K hK => acond_i (fun hb => ?_) (fun hb => ?_)
  rotate_left
  · simp only [go_sem, h2, h3, h7, h8, h9]
    refine wappE_i hH ⟨rfl, rfl⟩ (by simp only [go_sem]) (by simp only [List.length_map, List.length_cons, List.length_nil]; omega) (fun j' hj' => ?_)
    simp only [go_sem]
    refine hK _ _ ⟨by simp only [go_sem, h2], by simp only [go_sem, h3], by simp only [go_sem, h7], by simp only [go_sem, h8], j', by simp only [go_sem], ?_⟩
    rw [opt_t (show (decide (((a + b : Nat) : Int) > 1)) = true from hb)]
    exact row_appI (l' := [6]) rfl
  · simp only [go_sem]
    refine hK _ _ ⟨by simp only [go_sem, h2], by simp only [go_sem, h3], by simp only [go_sem, h7], by simp only [go_sem, h8], j, by simp only [go_sem, h9], ?_⟩
    rw [opt_f (show (decide (((a + b : Nat) : Int) > 1)) = false from hb), List.append_nil, hH]
  clear hH h2 h3 h7 h8 h9
  rintro ρ H ⟨h2, h3, h7, h8, j, h9, hH⟩
  generalize hes1 : es0 ++ opt (decide (((a + b : Nat) : Int) > 1)) (6 : Int) = es1 at hH
  have hln1 : es1.length ≤ es0.length + 1 := by rw [← hes1, List.length_append]; have := opt_len (decide (((a + b : Nat) : Int) > 1)) (6 : Int); omega
  simp only [go_sem, h2, h3, h7, h8, h9, w]
  refine acond_join (fun ρ' H' => ρ' 2 = int k ∧ ρ' 3 = .rp (encInstance x) 0 ∧ ρ' 7 = int a ∧ ρ' 8 = int b ∧ ∃ j', ρ' 9 = .os j' ∧ H' j' = some (errRow (es1 ++ opt (((a + b : Nat) : Int) == 0) 23))) ?_ fun K hK => acond_i (fun hb => ?_) (fun hb => ?_)
  rotate_left
  · simp only [go_sem, h2, h3, h7, h8, h9]
    refine wappE_i hH ⟨rfl, rfl⟩ (by simp only [go_sem]) (by simp only [List.length_map, List.length_cons, List.length_nil]; omega) (fun j' hj' => ?_)
    simp only [go_sem]
    refine hK _ _ ⟨by simp only [go_sem, h2], by simp only [go_sem, h3], by simp only [go_sem, h7], by simp only [go_sem, h8], j', by simp only [go_sem], ?_⟩
    rw [opt_t (show (((a + b : Nat) : Int) == 0) = true from hb)]
    exact row_appI (l' := [23]) rfl
  · simp only [go_sem]
    refine hK _ _ ⟨by simp only [go_sem, h2], by simp only [go_sem, h3], by simp only [go_sem, h7], by simp only [go_sem, h8], j, by simp only [go_sem, h9], ?_⟩
    rw [opt_f (show (((a + b : Nat) : Int) == 0) = false from hb), List.append_nil, hH]
  clear hH h2 h3 h7 h8 h9
  rintro ρ H ⟨h2, h3, h7, h8, j, h9, hH⟩
  generalize hes2 : es1 ++ opt (((a + b : Nat) : Int) == 0) (23 : Int) = es2 at hH
  have hln2 : es2.length ≤ es1.length + 1 := by rw [← hes2, List.length_append]; have := opt_len (((a + b : Nat) : Int) == 0) (23 : Int); omega
  simp only [go_sem, h2, h3, h7, h8, h9, w, getD_map ho, b1]
  refine acond_join (fun ρ' H' => ρ' 2 = int k ∧ ρ' 3 = .rp (encInstance x) 0 ∧ ρ' 7 = int a ∧ ρ' 8 = int b ∧ ∃ j', ρ' 9 = .os j' ∧ H' j' = some (errRow (es2 ++ opt ((o.penalty == -1 && decide ((b : Int) > 0)) && (a : Int) == 0) 23))) ?_ fun K hK => acond_i (fun hb => ?_) (fun hb => ?_)
  rotate_left
  · simp only [go_sem, h2, h3, h7, h8, h9]
    refine wappE_i hH ⟨rfl, rfl⟩ (by simp only [go_sem]) (by simp only [List.length_map, List.length_cons, List.length_nil]; omega) (fun j' hj' => ?_)
    simp only [go_sem]
    refine hK _ _ ⟨by simp only [go_sem, h2], by simp only [go_sem, h3], by simp only [go_sem, h7], by simp only [go_sem, h8], j', by simp only [go_sem], ?_⟩
    rw [opt_t (show ((o.penalty == -1 && decide ((b : Int) > 0)) && (a : Int) == 0) = true from hb)]
    exact row_appI (l' := [23]) rfl
  · simp only [go_sem]
    refine hK _ _ ⟨by simp only [go_sem, h2], by simp only [go_sem, h3], by simp only [go_sem, h7], by simp only [go_sem, h8], j, by simp only [go_sem, h9], ?_⟩
    rw [opt_f (show ((o.penalty == -1 && decide ((b : Int) > 0)) && (a : Int) == 0) = false from hb), List.append_nil, hH]
  clear hH h2 h3 h7 h8 h9
  rintro ρ H ⟨h2, h3, h7, h8, j, h9, hH⟩
  generalize hes3 : es2 ++ opt ((o.penalty == -1 && decide ((b : Int) > 0)) && (a : Int) == 0) (23 : Int) = es3 at hH
  have hln3 : es3.length ≤ es2.length + 1 := by rw [← hes3, List.length_append]; have := opt_len ((o.penalty == -1 && decide ((b : Int) > 0)) && (a : Int) == 0) (23 : Int); omega
  simp only [go_sem, h9]
  rw [← hes3, ← hes2, ← hes1, ← hes0, List.nil_append] at hH
  exact .row _ _ _ hH (ConvE.refl _)
def evE (x : Instance) (r : Route) : Int := (eval21 x r).2.2
theorem errF_t {w : ByteArray} {i : Nat} {e : Int} (h : (e != 0) = true) : errF w i e = [⟨e, atF w i⟩] := by unfold errF; rw [if_pos h]
theorem errF_f {w : ByteArray} {i : Nat} {e : Int} (h : (e != 0) = false) : errF w i e = [] := by unfold errF; rw [if_neg (by rw [h]; simp)]
theorem ordE_ne (o : Order) (a b : Nat) : ∀ e ∈ ordE o a b, (e != 0) = true := by
  have ho : ∀ (c : Bool) (f e : Int), e ∈ opt c f → e = f := fun c f e h => by cases c <;> simp [opt] at h; exact h
  intro e he
  unfold ordE at he
  split at he
  · rw [ho _ _ _ he]; rfl
  · rcases List.mem_append.1 he with he | he
    · rcases List.mem_append.1 he with he | he
      · rw [ho _ _ _ he]; rfl
      · rw [ho _ _ _ he]; rfl
    · rw [ho _ _ _ he]; rfl
structure PlanT (x : Instance) (p : Plan) : Prop where
  routes : p.routes.length ≤ 60
  unserved : p.unserved.length ≤ 60
  orders : x.orders.length ≤ 60
  types : x.types.length ≤ 60
  visits : ∀ r ∈ p.routes, r.visits.length ≤ 1048576
theorem rplan_c (x : Instance) (p : Plan) (hx : InsB x) (hp : PlanT x p) : PC Tryz.prog 10 [.agg (encInstance x), .agg (encPlan p)] (.sl ((planF (evE x) x p).map encFault)) := by
  have hr19 := hp.routes
  have hu19 := hp.unserved
  have ho19 := hp.orders
  have ht19 := hp.types
  refine PC.body (c := Tryz.f10.body.getD .skip) (fun t => t == 5) mixed Tryz.func10 rfl (by kernel_rfl) ?_
  unfold Tryz.f10
  simp only [Option.getD_some]
  simp only [go_sem]
  refine acond_i (fun h1 => by exfalso; simp at h1; omega) (fun h1 => ?_)
  have eP : planF (evE x) x p = routesF (evE x) p.routes p.routes.length ++ ordersF x p x.orders.length ++ unservedF x p p.unserved.length ++ typesF x p x.types.length := by
    unfold planF
    rw [if_neg (by simp; omega)]
  rw [eP]
  simp only [go_sem]
  refine anew_i fun j hj => ?_
  simp only [go_sem]
  refine ⟨fun ρ H => ∃ (i j : Nat), i ≤ p.routes.length ∧ ρ 2 = .rp (encInstance x) 0 ∧ ρ 3 = .rp (encPlan p) 0 ∧ ρ 6 = int i ∧ ρ 5 = .os j ∧ H j = some (faultRow (routesF (evE x) p.routes i)), fun ρ _ => p.routes.length - natOf (ρ 6),
    ⟨0, j, Nat.zero_le _, by simp only [go_sem], by simp only [go_sem], by simp only [go_sem]; rfl, by simp only [go_sem], updH_same _ _ _⟩, ?_⟩
  clear hj j
  rintro ρ H ⟨i, j, hi, h2, h3, h6, h5, Rj⟩
  simp only [go_sem, h2, h3, h6, h5]
  refine acond_i (fun hlt => ?_) (fun hge => ?_)
  · have hlt := le_of_lt_b hlt
    obtain ⟨r, hri⟩ := getIn hlt
    have b1 := inB hlt
    have hrl := routesF_len (evE x) p.routes i
    have hrs := routesF_succ (ev := evE x) hri
    simp only [go_sem, h2, h3, h6, h5]
    refine adraw_q (by rfl) (by kernel_rfl) ?_
    simp only [go_sem, h2, h3, h6, h5, getD_map hri, b1]
    refine ⟨_, (valid21_c x r hx (hp.visits r (List.mem_of_getElem? hri))).q rfl, ?_⟩
    simp only [go_sem, h2, h3, h6, h5]
    refine acond_i (fun hb => ?_) (fun hb => ?_)
    · rw [errF_t (show (evE x r != 0) = true from hb)] at hrs
      simp only [go_sem, h2, h3, h6, h5]
      refine PC.use (rindex_c sRoutes i (by decide) (by omega)) ?_
      simp only [go_sem, h2, h3, h6, h5]
      refine wappE_i Rj ⟨rfl, rfl⟩ ⟨rfl, trivial⟩ (by simp only [List.length_map, List.length_cons, List.length_nil]; omega) (fun j' hj' => ?_)
      simp only [go_sem, h2, h3, h6, wrapS (show i ≤ 4611686018427387904 by omega)]
      exact ⟨⟨i + 1, j', hlt, rfl, rfl, by rw [hrs]; exact row_app (l' := [⟨evE x r, atF sRoutes i⟩]) rfl⟩, by simp only [natOf_int]; omega⟩
    · rw [errF_f (show (evE x r != 0) = false from hb), List.append_nil] at hrs
      simp only [go_sem, h2, h3, h6, h5, wrapS (show i ≤ 4611686018427387904 by omega)]
      exact ⟨⟨i + 1, j, hlt, rfl, rfl, by rw [hrs]; exact Rj⟩, by simp only [natOf_int]; omega⟩
  have hge := eq_of_ge_b hi hge
  subst hge
  have hRF := routesF_len (evE x) p.routes p.routes.length
  generalize routesF (evE x) p.routes p.routes.length = RF at *
  simp only [go_sem, h2, h3, h5]
  refine ⟨fun ρ H => ∃ (n j : Nat), n ≤ x.orders.length ∧ ρ 2 = .rp (encInstance x) 0 ∧ ρ 3 = .rp (encPlan p) 0 ∧ ρ 8 = int n ∧ ρ 5 = .os j ∧ H j = some (faultRow (RF ++ ordersF x p n)), fun ρ _ => x.orders.length - natOf (ρ 8),
    ⟨0, j, Nat.zero_le _, by simp only [go_sem, h2], by simp only [go_sem, h3], by simp only [go_sem]; rfl, by simp only [go_sem, h5], by rw [Rj]; simp [ordersF]⟩, ?_⟩
  clear h2 h3 h6 h5 Rj j hi
  rintro ρ H ⟨n, j, hn, h2, h3, h8, h5, Rj⟩
  simp only [go_sem, h2, h3, h8, h5]
  refine acond_i (fun hlt => ?_) (fun hge => ?_)
  · have hlt := le_of_lt_b hlt
    obtain ⟨o, ho⟩ := getIn hlt
    have hol := ordersF_len x p n
    have hos := ordersF_succ (p := p) ho
    have hel := ordE_len o (aOn p n) (onU p n)
    have hne := ordE_ne o (aOn p n) (onU p n)
    simp only [go_sem, h2, h3, h8, h5]
    refine PC.use (rorder_c x p n o ho (by omega) (by omega) (by omega) hp.visits) ?_
    generalize ordE o (aOn p n) (onU p n) = es at *
    simp only [go_sem, h2, h3, h8, h5]
    refine ⟨fun ρ H => ∃ (m j : Nat), m ≤ es.length ∧ ρ 2 = .rp (encInstance x) 0 ∧ ρ 3 = .rp (encPlan p) 0 ∧ ρ 8 = int n ∧ ρ 9 = .sl (es.map encInt) ∧ ρ 10 = int m ∧ ρ 5 = .os j ∧ H j = some (faultRow ((RF ++ ordersF x p n) ++ (es.take m).flatMap (errF sOrders n))), fun ρ _ => es.length - natOf (ρ 10),
      ⟨0, j, Nat.zero_le _, by simp only [go_sem, h2], by simp only [go_sem, h3], by simp only [go_sem, h8], by simp only [go_sem], by simp only [go_sem]; rfl, by simp only [go_sem, h5], by rw [Rj]; simp⟩, ?_⟩
    clear h2 h3 h8 h5 Rj j
    rintro ρ H ⟨m, j, hm, h2, h3, h8, h9, h10, h5, Rj⟩
    simp only [go_sem, h2, h3, h8, h9, h10, h5]
    refine acond_i (fun hlt2 => ?_) (fun hge2 => ?_)
    · have hlt2 := le_of_lt_b hlt2
      obtain ⟨e, he⟩ := getIn hlt2
      have b2 := inB hlt2
      have hfl := flat_le (c := 1) (f := errF sOrders n) (es.take m) fun e _ => errF_len _ _ _
      have hfs : (es.take (m + 1)).flatMap (errF sOrders n) = (es.take m).flatMap (errF sOrders n) ++ [⟨e, atF sOrders n⟩] := by rw [take_succ he, List.flatMap_append]; simp [errF_t (hne e (List.mem_of_getElem? he))]
      simp only [go_sem, h2, h3, h8, h9, h10, h5]
      refine adraw_m [(0, true), (1, true), (2, true), (3, true), (4, true), (5, false), (6, false), (7, false), (8, false), (9, false), (10, false)] (by kernel_rfl) ?_
      simp only [go_sem, h2, h3, h8, h9, h10, h5, getD_map he, b2]
      refine PC.use (rindex_c sOrders n (by decide) (by omega)) ?_
      simp only [go_sem, h2, h3, h8, h9, h10, h5]
      refine wappE_i Rj ⟨rfl, rfl⟩ ⟨rfl, trivial⟩ (by simp only [List.length_map, List.length_append, List.length_cons, List.length_nil]; simp only [List.length_take] at hfl; omega) (fun j' hj' => ?_)
      simp only [go_sem, h2, h3, h8, h9, h10, wrapS (show m ≤ 4611686018427387904 by omega)]
      exact ⟨⟨m + 1, j', hlt2, rfl, rfl, by rw [hfs, ← List.append_assoc]; exact row_app (l' := [⟨e, atF sOrders n⟩]) rfl⟩, by simp only [natOf_int]; omega⟩
    have hge2 := eq_of_ge_b hm hge2
    subst hge2
    rw [List.take_length, List.append_assoc, ← hos] at Rj
    simp only [go_sem, h2, h3, h8, h5, wrapS (show n ≤ 4611686018427387904 by omega)]
    exact ⟨⟨n + 1, j, hlt, rfl, rfl, Rj⟩, by simp only [natOf_int]; omega⟩
  have hge := eq_of_ge_b hn hge
  subst hge
  have hOF := ordersF_len x p x.orders.length
  have hRO : (RF ++ ordersF x p x.orders.length).length ≤ 1000 := by rw [List.length_append]; omega
  generalize RF ++ ordersF x p x.orders.length = RO at *
  simp only [go_sem, h2, h3, h5]
  refine ⟨fun ρ H => ∃ (n j : Nat), n ≤ p.unserved.length ∧ ρ 2 = .rp (encInstance x) 0 ∧ ρ 3 = .rp (encPlan p) 0 ∧ ρ 11 = int n ∧ ρ 5 = .os j ∧ H j = some (faultRow (RO ++ unservedF x p n)), fun ρ _ => p.unserved.length - natOf (ρ 11),
    ⟨0, j, Nat.zero_le _, by simp only [go_sem, h2], by simp only [go_sem, h3], by simp only [go_sem]; rfl, by simp only [go_sem, h5], by rw [Rj]; simp [unservedF]⟩, ?_⟩
  clear h2 h3 h8 h5 Rj j hn
  rintro ρ H ⟨n, j, hn, h2, h3, h11, h5, Rj⟩
  simp only [go_sem, h2, h3, h11, h5]
  refine acond_i (fun hlt => ?_) (fun hge => ?_)
  · have hlt := le_of_lt_b hlt
    obtain ⟨u, hu⟩ := getIn hlt
    have b1 := inB hlt
    have hul' := unservedF_len x p n
    have hus := unservedF_succ (x := x) hu
    simp only [go_sem, h2, h3, h11, h5]
    refine adraw_q (by rfl) (by kernel_rfl) ?_
    simp only [go_sem, h2, h3, h11, h5, getD_map hu, b1]
    refine acond_i (fun hb => ?_) (fun hb => ?_)
    · have hb : badNo u x.orders.length = true := hb
      rw [if_pos hb, errF_t (show ((7 : Int) != 0) = true by decide)] at hus
      simp only [go_sem, h2, h3, h11, h5]
      refine PC.use (rindex_c sUnserved n (by decide) (by omega)) ?_
      simp only [go_sem, h2, h3, h11, h5]
      refine wappE_i Rj ⟨rfl, rfl⟩ ⟨rfl, trivial⟩ (by simp only [List.length_map, List.length_append, List.length_cons, List.length_nil]; omega) (fun j' hj' => ?_)
      simp only [go_sem, h2, h3, h11, wrapS (show n ≤ 4611686018427387904 by omega)]
      exact ⟨⟨n + 1, j', hlt, rfl, rfl, by rw [hus, ← List.append_assoc]; exact row_app (l' := [⟨7, atF sUnserved n⟩]) rfl⟩, by simp only [natOf_int]; omega⟩
    · have hb : badNo u x.orders.length = false := hb
      rw [if_neg (by rw [hb]; simp), errF_f (show ((0 : Int) != 0) = false by decide), List.append_nil] at hus
      simp only [go_sem, h2, h3, h11, h5, wrapS (show n ≤ 4611686018427387904 by omega)]
      exact ⟨⟨n + 1, j, hlt, rfl, rfl, by rw [hus]; exact Rj⟩, by simp only [natOf_int]; omega⟩
  have hge := eq_of_ge_b hn hge
  subst hge
  have hUF := unservedF_len x p p.unserved.length
  have hRU : (RO ++ unservedF x p p.unserved.length).length ≤ 2000 := by rw [List.length_append]; omega
  generalize RO ++ unservedF x p p.unserved.length = RU at *
  simp only [go_sem, h2, h3, h5]
  refine ⟨fun ρ H => ∃ (n j : Nat), n ≤ x.types.length ∧ ρ 2 = .rp (encInstance x) 0 ∧ ρ 3 = .rp (encPlan p) 0 ∧ ρ 12 = int n ∧ ρ 5 = .os j ∧ H j = some (faultRow (RU ++ typesF x p n)), fun ρ _ => x.types.length - natOf (ρ 12),
    ⟨0, j, Nat.zero_le _, by simp only [go_sem, h2], by simp only [go_sem, h3], by simp only [go_sem]; rfl, by simp only [go_sem, h5], by rw [Rj]; simp [typesF]⟩, ?_⟩
  clear h2 h3 h11 h5 Rj j hn
  rintro ρ H ⟨n, j, hn, h2, h3, h12, h5, Rj⟩
  simp only [go_sem, h2, h3, h12, h5]
  refine acond_i (fun hlt => ?_) (fun hge => ?_)
  · have hlt := le_of_lt_b hlt
    obtain ⟨v, hv⟩ := getIn hlt
    have b1 := inB hlt
    have htl := typesF_len x p n
    have hts := typesF_succ (p := p) hv
    simp only [go_sem, h2, h3, h12, h5]
    refine ⟨fun ρ H => ∃ (i : Nat), i ≤ p.routes.length ∧ ρ 2 = .rp (encInstance x) 0 ∧ ρ 3 = .rp (encPlan p) 0 ∧ ρ 12 = int n ∧ ρ 14 = int i ∧ ρ 13 = int (cntB (fun r : Route => r.type == (n : Int)) (p.routes.take i) : Nat) ∧ ρ 5 = .os j ∧ H j = some (faultRow (RU ++ typesF x p n)), fun ρ _ => p.routes.length - natOf (ρ 14),
      ⟨0, Nat.zero_le _, by simp only [go_sem, h2], by simp only [go_sem, h3], by simp only [go_sem, h12], by simp only [go_sem]; rfl, by simp only [go_sem]; rfl, by simp only [go_sem, h5], Rj⟩, ?_⟩
    clear h2 h3 h12 h5 Rj
    rintro ρ H ⟨i, hi, h2, h3, h12, h14, h13, h5, Rj⟩
    simp only [go_sem, h2, h3, h12, h14, h13, h5]
    refine acond_i (fun hlt2 => ?_) (fun hge2 => ?_)
    · have hlt2 := le_of_lt_b hlt2
      obtain ⟨r, hr⟩ := getIn hlt2
      have b2 := inB hlt2
      have hc := cnt_take (p := fun r : Route => r.type == (n : Int)) hr
      have hcl : cntB (fun r : Route => r.type == (n : Int)) (p.routes.take i) ≤ p.routes.length := cnt_le
      simp only [go_sem, h2, h3, h12, h14, h13, h5, getD_map hr, b2]
      refine acond_i (fun hb => ?_) (fun hb => ?_)
      · rw [if_pos hb] at hc
        simp only [go_sem, h2, h3, h12, h14, h13, h5, wrapS (show i ≤ 4611686018427387904 by omega), wrapS (show cntB (fun r : Route => r.type == (n : Int)) (p.routes.take i) ≤ 4611686018427387904 by omega)]
        exact ⟨⟨i + 1, hlt2, rfl, by rw [hc], Rj⟩, by simp only [natOf_int]; omega⟩
      · rw [if_neg (by rw [hb]; simp)] at hc
        simp only [go_sem, h2, h3, h12, h14, h13, h5, wrapS (show i ≤ 4611686018427387904 by omega)]
        exact ⟨⟨i + 1, hlt2, rfl, by rw [hc]; rfl, Rj⟩, by simp only [natOf_int]; omega⟩
    have hge2 := eq_of_ge_b hi hge2
    subst hge2
    rw [List.take_length] at h13
    simp only [go_sem, h2, h3, h12, h13, h5, getD_map hv, b1]
    refine acond_i (fun hb => ?_) (fun hb => ?_)
    · rw [if_pos (show (cntT p n : Int) > v.count by simpa [cntT] using hb), errF_t (show ((22 : Int) != 0) = true by decide)] at hts
      simp only [go_sem, h2, h3, h12, h5]
      refine PC.use (rindex_c sTypes n (by decide) (by omega)) ?_
      simp only [go_sem, h2, h3, h12, h5]
      refine wappE_i Rj ⟨rfl, rfl⟩ ⟨rfl, trivial⟩ (by simp only [List.length_map, List.length_append, List.length_cons, List.length_nil]; omega) (fun j' hj' => ?_)
      simp only [go_sem, h2, h3, h12, wrapS (show n ≤ 4611686018427387904 by omega)]
      exact ⟨⟨n + 1, j', hlt, rfl, rfl, by rw [hts, ← List.append_assoc]; exact row_app (l' := [⟨22, atF sTypes n⟩]) rfl⟩, by simp only [natOf_int]; omega⟩
    · rw [if_neg (show ¬ (cntT p n : Int) > v.count by simpa [cntT] using hb), errF_f (show ((0 : Int) != 0) = false by decide), List.append_nil] at hts
      simp only [go_sem, h2, h3, h12, h5, wrapS (show n ≤ 4611686018427387904 by omega)]
      exact ⟨⟨n + 1, j, hlt, rfl, rfl, by rw [hts]; exact Rj⟩, by simp only [natOf_int]; omega⟩
  have hge := eq_of_ge_b hn hge
  subst hge
  simp only [go_sem, h5]
  exact .row _ _ _ Rj (ConvE.refl _)
end Go.Proofs.YtbefdpmjpioijaaGreatDoor.Sq
