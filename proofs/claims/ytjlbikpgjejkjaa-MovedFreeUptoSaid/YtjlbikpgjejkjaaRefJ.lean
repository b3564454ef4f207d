/- lorryref09.checkArc -/
import Derived.Test.YtjlbikpgjejkjaaRefE
set_option linter.unusedSimpArgs false
set_option linter.unusedVariables false
namespace Go.Proofs.Ytjlbikpgjejkjaa
open Go.Aw Go.Aw.D Go.Proofs Ty
set_option maxRecDepth 100000

theorem NC.pc {f : FuncId} {args : List AV} {row : Row} (h : NC Try.prog f args row .os) : PC Try.prog f args (.sl row.es) :=
  RC.conv (RC.mono h fun r H' ⟨k, e, hk⟩ => by subst e; exact .row k row row.es hk (ConvE.refl _))
def arcAt (l : List Arc) (i : Nat) : Arc := l.getD i ⟨0, 0, 0, 0, [], []⟩
theorem arcAt_get {l : List Arc} {k : Nat} {p : Arc} (h : l[k]? = some p) : arcAt l k = p := by simp [arcAt, List.getD, h]
def arcS (k : Nat) : ByteArray := ⟨#[97, 114, 99, 32]⟩ ++ decN k
def badEnds (N : Int) (a : Arc) : Bool := decide (a.src < 0) || decide (a.src ≥ N) || decide (a.dst < 0) || decide (a.dst ≥ N)
def badArc (a : Arc) : Bool := decide (a.profile < 0) || decide (a.profile > 7) || decide (a.miles < 0) || decide (a.miles > 10000) || a.src == a.dst
def sameArc (a b : Arc) : Bool := a.src == b.src && a.dst == b.dst && a.profile == b.profile
def badSlow (l : List Point) (i : Nat) : Bool := !inR (ptAt l i).t 0 4096 || !inR (ptAt l i).a 0 4096 || decide ((i : Int) > 0) && decide ((ptAt l i).t ≤ (ptAt l (i - 1)).t)
def arcR (n : Network) (k : Nat) : List Fault :=
  [] ++ opt (badEnds n.places.length (arcAt n.arcs k)) ⟨11, arcS k⟩ ++ opt (badArc (arcAt n.arcs k)) ⟨2, arcS k⟩ ++ opt ((n.arcs.take k).any (sameArc (arcAt n.arcs k))) ⟨6, arcS k⟩
    ++ (travelR (arcAt n.arcs k).travel).map (fun f => ⟨f.err, arcS k⟩) ++ opt (decide (((arcAt n.arcs k).slow.length : Int) > 16)) ⟨4, arcS k⟩
    ++ (List.range (arcAt n.arcs k).slow.length).flatMap fun i => opt (badSlow (arcAt n.arcs k).slow i) ⟨2, arcS k⟩
theorem travelP_c (l : List Point) (hl : l.length ≤ 1048576) : PC Try.prog 95 [.sl (l.map encPoint)] (.sl ((travelR l).map encFault)) := NC.pc (travel_c l hl)
theorem travelR_len (l : List Point) : (travelR l).length ≤ 2 * l.length + 1 := by
  have := flat_len_le (pf_len l) (List.range l.length)
  have h2 := opt_len (badLen l.length 1 16) (⟨4, ByteArray.empty⟩ : Fault)
  rw [travelR, List.length_append]; rw [List.length_range] at this; omega
theorem arc_c (n : Network) (k : Nat) (hk : k < n.arcs.length) (hp : n.places.length ≤ 1048576) (hl : n.arcs.length ≤ 1048576) (hs : ∀ a ∈ n.arcs, a.travel.length ≤ 1048576 ∧ a.slow.length ≤ 1048576) :
    NC Try.prog 76 [.agg (encNetwork n), int k] (faultRow (arcR n k)) .os := by
  refine NC.body (c := Try.f76.body.getD .skip) (fun t => t == 5) mixed Try.func76 rfl (by kernel_rfl) ?_
  unfold Try.f76
  simp only [Option.getD_some]
  simp only [go_sem]
  obtain ⟨a, ha⟩ := getIn hk
  have b1 := inB hk
  have hst := hs a (mem_of_get ha)
  have hds := decN_size k
  refine anew_i fun j hj => ?_
  simp only [go_sem]
  refine PC.use (Decimal_c _ (by omega)) ?_
  simp only [go_sem, b1, getD_map ha]
  have h4 : (#[97, 114, 99, 32] : Array UInt8).size = 4 := rfl
  refine ⟨by rw [i64max]; omega, anew_i fun i hi => ?_⟩
  simp only [go_sem]
  refine wputE_n (updH_same _ _ _) (by simp [encArc_len]) ?_
  simp only [go_sem]
  have hji : j ≠ i := ne_new (updH_same _ _ _) hi
  have he1 : arcS k = ⟨#[97, 114, 99, 32]⟩ ++ decN k := rfl
  refine acond_cut (fun ρ' H' => ρ' 1 = int k ∧ ρ' 2 = .rp (encNetwork n) 0 ∧ ρ' 6 = str (arcS k) ∧ ρ' 7 = .op i 0 0 ∧ H' i = some (arcRow a) ∧ ∃ j', ρ' 5 = .os j' ∧ j' ≠ i ∧ H' j' = some (faultRow []))
    ⟨by simp only [go_sem], by simp only [go_sem], by simp only [go_sem, he1], by simp only [go_sem], updH_same _ _ _, j, by simp only [go_sem], hji, by rw [updH_ne _ _ _ _ hji, updH_ne _ _ _ _ hji, updH_same]; rfl⟩ ?_
  clear hi hj hji
  rintro ρ H ⟨h1, h2, h6, h7, hi, j, h5, hji, hH⟩
  generalize hes0 : ([] : List Fault) = es0 at hH
  have hln0 : es0.length ≤ 0 := by rw [← hes0]; exact Nat.le_refl _
  refine acond_join (fun ρ' H' => ρ' 1 = int k ∧ ρ' 2 = .rp (encNetwork n) 0 ∧ ρ' 6 = str (arcS k) ∧ ρ' 7 = .op i 0 0 ∧ H' i = some (arcRow a) ∧ ∃ j', ρ' 5 = .os j' ∧ j' ≠ i ∧ H' j' = some (faultRow (es0 ++ opt (badEnds n.places.length a) ⟨11, arcS k⟩))) ?_ fun K hK => acond_i (fun hb => ?_) (fun hb => ?_)
  rotate_left
  · simp only [go_sem, h1, h2, h6, h7, h5]
    refine wappE_i hH ⟨rfl, rfl⟩ (by simp only [go_sem]) (by simp only [List.length_map, List.length_cons, List.length_nil]; omega) (fun j' hj' => ?_)
    simp only [go_sem]
    refine hK _ _ ⟨by simp only [go_sem, h1], by simp only [go_sem, h2], by simp only [go_sem, h6], by simp only [go_sem, h7], keep_app hi hji hj', j', by simp only [go_sem], (ne_new hi hj').symm, ?_⟩
    rw [opt_t (show (badEnds n.places.length a) = true from hb)]
    exact row_app (l' := [⟨11, arcS k⟩]) rfl
  · simp only [go_sem]
    refine hK _ _ ⟨by simp only [go_sem, h1], by simp only [go_sem, h2], by simp only [go_sem, h6], by simp only [go_sem, h7], hi, j, by simp only [go_sem, h5], hji, ?_⟩
    rw [opt_f (show (badEnds n.places.length a) = false from hb), List.append_nil, hH]
  clear hH h1 h2 h6 h7 h5
  rintro ρ H ⟨h1, h2, h6, h7, hi, j, h5, hji, hH⟩
  generalize hes1 : es0 ++ opt (badEnds n.places.length a) (⟨11, arcS k⟩ : Fault) = es1 at hH
  have hln1 : es1.length ≤ es0.length + 1 := by rw [← hes1, List.length_append]; have := opt_len (badEnds n.places.length a) (⟨11, arcS k⟩ : Fault); omega
  simp only [go_sem, h1, h2, h6, h7, h5, hi]
  refine acond_join (fun ρ' H' => ρ' 1 = int k ∧ ρ' 2 = .rp (encNetwork n) 0 ∧ ρ' 6 = str (arcS k) ∧ ρ' 7 = .op i 0 0 ∧ H' i = some (arcRow a) ∧ ∃ j', ρ' 5 = .os j' ∧ j' ≠ i ∧ H' j' = some (faultRow (es1 ++ opt (badArc a) ⟨2, arcS k⟩))) ?_ fun K hK => acond_i (fun hb => ?_) (fun hb => ?_)
  rotate_left
  · simp only [go_sem, h1, h2, h6, h7, h5]
    refine wappE_i hH ⟨rfl, rfl⟩ (by simp only [go_sem]) (by simp only [List.length_map, List.length_cons, List.length_nil]; omega) (fun j' hj' => ?_)
    simp only [go_sem]
    refine hK _ _ ⟨by simp only [go_sem, h1], by simp only [go_sem, h2], by simp only [go_sem, h6], by simp only [go_sem, h7], keep_app hi hji hj', j', by simp only [go_sem], (ne_new hi hj').symm, ?_⟩
    rw [opt_t (show (badArc a) = true from hb)]
    exact row_app (l' := [⟨2, arcS k⟩]) rfl
  · simp only [go_sem]
    refine hK _ _ ⟨by simp only [go_sem, h1], by simp only [go_sem, h2], by simp only [go_sem, h6], by simp only [go_sem, h7], hi, j, by simp only [go_sem, h5], hji, ?_⟩
    rw [opt_f (show (badArc a) = false from hb), List.append_nil, hH]
  clear hH h1 h2 h6 h7 h5
  rintro ρ H ⟨h1, h2, h6, h7, hi, j, h5, hji, hH⟩
  generalize hes2 : es1 ++ opt (badArc a) (⟨2, arcS k⟩ : Fault) = es2 at hH
  have hln2 : es2.length ≤ es1.length + 1 := by rw [← hes2, List.length_append]; have := opt_len (badArc a) (⟨2, arcS k⟩ : Fault); omega
  simp only [go_sem, h1, h2, h6, h7, h5, hi]
  refine ⟨fun ρ' H' => ∃ m : Nat, m ≤ k ∧ ρ' 1 = int k ∧ ρ' 2 = .rp (encNetwork n) 0 ∧ ρ' 6 = str (arcS k) ∧ ρ' 7 = .op i 0 0 ∧ ρ' 5 = .os j ∧ ρ' 8 = boo ((n.arcs.take m).any (sameArc a)) ∧ ρ' 9 = int m ∧ H' i = some (arcRow a) ∧ H' j = some (faultRow es2), fun ρ _ => k - natOf (ρ 9),
    ⟨0, Nat.zero_le _, by simp only [go_sem, h1], by simp only [go_sem, h2], by simp only [go_sem, h6], by simp only [go_sem, h7], by simp only [go_sem, h5], by simp only [go_sem]; rfl, by simp only [go_sem]; rfl, hi, hH⟩, ?_⟩
  clear h1 h2 h6 h7 h5 hi hH
  rintro ρ H ⟨m, hm, h1, h2, h6, h7, h5, h8, h9, hi, hH⟩
  simp only [go_sem, h1, h2, h6, h7, h5, h8, h9]
  refine acond_i (fun hlt => ?_) (fun hge => ?_)
  · have hlt := le_of_lt_b hlt
    obtain ⟨c, hc⟩ := getIn (show m < n.arcs.length by omega)
    have b2 := inB (show m < n.arcs.length by omega)
    simp only [go_sem, h1, h2, h6, h7, h5, h8, h9, b2, getD_map hc]
    refine anew_i fun x hx => ?_
    simp only [go_sem]
    refine wputE_n (updH_same _ _ _) (by simp [encArc_len]) ?_
    have hix := ne_new hi hx
    have hjx := ne_new hH hx
    simp only [go_sem, h1, h2, h6, h7, h5, h8, h9, updH_ne _ _ _ _ hix, hi, wrapS (show m ≤ 4611686018427387904 by omega)]
    refine ⟨⟨m + 1, hlt, ?_, rfl, ?_⟩, by simp only [natOf_int]; omega⟩
    · rw [any_succ hc]; simp only [sameArc]
    · rw [updH_ne _ _ _ _ hjx, updH_ne _ _ _ _ hjx, hH]
  · have hge := eq_of_ge_b hm hge
    subst hge
    simp only [go_sem, h1, h2, h6, h7, h5, h8, h9]
    clear h1 h2 h8 h9
    refine acond_join (fun ρ' H' => ρ' 6 = str (arcS m) ∧ ρ' 7 = .op i 0 0 ∧ H' i = some (arcRow a) ∧ ∃ j', ρ' 5 = .os j' ∧ j' ≠ i ∧ H' j' = some (faultRow (es2 ++ opt ((n.arcs.take m).any (sameArc a)) ⟨6, arcS m⟩))) ?_ fun K hK => acond_i (fun hb => ?_) (fun hb => ?_)
    rotate_left
    · simp only [go_sem, h6, h7, h5]
      refine wappE_i hH ⟨rfl, rfl⟩ (by simp only [go_sem]) (by simp only [List.length_map, List.length_cons, List.length_nil]; omega) (fun j' hj' => ?_)
      simp only [go_sem]
      refine hK _ _ ⟨by simp only [go_sem, h6], by simp only [go_sem, h7], keep_app hi hji hj', j', by simp only [go_sem], (ne_new hi hj').symm, ?_⟩
      rw [opt_t (show ((n.arcs.take m).any (sameArc a)) = true from hb)]
      exact row_app (l' := [⟨6, arcS m⟩]) rfl
    · simp only [go_sem]
      refine hK _ _ ⟨by simp only [go_sem, h6], by simp only [go_sem, h7], hi, j, by simp only [go_sem, h5], hji, ?_⟩
      rw [opt_f (show ((n.arcs.take m).any (sameArc a)) = false from hb), List.append_nil, hH]
    clear hH h6 h7 h5
    rintro ρ H ⟨h6, h7, hi, j, h5, hji, hH⟩
    generalize hes3 : es2 ++ opt ((n.arcs.take m).any (sameArc a)) (⟨6, arcS m⟩ : Fault) = es3 at hH
    have hln3 : es3.length ≤ es2.length + 1 := by rw [← hes3, List.length_append]; have := opt_len ((n.arcs.take m).any (sameArc a)) (⟨6, arcS m⟩ : Fault); omega
    simp only [go_sem, h6, h7, h5, hi]
    refine PC.use (travelP_c a.travel hst.1) ?_
    simp only [go_sem]
    have htl := travelR_len a.travel
    have htr : (travelR (arcAt n.arcs m).travel).map (fun f => (⟨f.err, arcS m⟩ : Fault)) = (travelR a.travel).map (fun f => ⟨f.err, arcS m⟩) := by rw [arcAt_get ha]
    generalize travelR a.travel = tr at htl htr
    refine ⟨fun ρ H => ∃ q : Nat, q ≤ tr.length ∧ ρ 6 = str (arcS m) ∧ ρ 7 = .op i 0 0 ∧ ρ 11 = .sl (tr.map encFault) ∧ ρ 12 = int q ∧ H i = some (arcRow a) ∧ ∃ j, ρ 5 = .os j ∧ j ≠ i ∧ H j = some (faultRow (es3 ++ (tr.take q).map fun f => ⟨f.err, arcS m⟩)), fun ρ _ => tr.length - natOf (ρ 12),
      ⟨0, Nat.zero_le _, by simp only [go_sem, h6], by simp only [go_sem, h7], by simp only [go_sem], by simp only [go_sem]; rfl, hi, j, by simp only [go_sem, h5], hji, by simpa using hH⟩, ?_⟩
    clear h6 h7 h5 hi hH hji
    rintro ρ H ⟨q, hq, h6, h7, h11, h12, hi, j, h5, hji, hH⟩
    simp only [go_sem, h6, h7, h5, h11, h12]
    refine acond_i (fun hlt => ?_) (fun hge => ?_)
    · have hlt := le_of_lt_b hlt
      obtain ⟨f, hf⟩ := getIn hlt
      have b2 := inB hlt
      simp only [go_sem, h6, h7, h5, h11, h12, b2, getD_map hf]
      refine wappE_i hH ⟨rfl, rfl⟩ (by simp only [go_sem]) (by simp only [List.length_map, List.length_append, List.length_take, List.length_cons, List.length_nil]; omega) (fun j' hj' => ?_)
      simp only [go_sem, h6, h7, h5, h11, h12, wrapS (show q ≤ 4611686018427387904 by omega)]
      refine ⟨⟨q + 1, hlt, rfl, keep_app hi hji hj', j', rfl, (ne_new hi hj').symm, ?_⟩, by simp only [natOf_int]; omega⟩
      rw [map_succ hf, ← List.append_assoc]
      exact row_app (l' := [⟨f.err, arcS m⟩]) rfl
    · have hge := eq_of_ge_b hq hge
      subst hge
      simp only [go_sem, h6, h7, h5, h11, h12, hi]
      clear h11 h12
      rw [List.take_length] at hH
      generalize hes4 : es3 ++ tr.map (fun f => (⟨f.err, arcS m⟩ : Fault)) = es4 at hH
      have hln4 : es4.length = es3.length + tr.length := by rw [← hes4, List.length_append, List.length_map]
      refine acond_join (fun ρ' H' => ρ' 6 = str (arcS m) ∧ ρ' 7 = .op i 0 0 ∧ H' i = some (arcRow a) ∧ ∃ j', ρ' 5 = .os j' ∧ j' ≠ i ∧ H' j' = some (faultRow (es4 ++ opt (decide ((a.slow.length : Int) > 16)) ⟨4, arcS m⟩))) ?_ fun K hK => acond_i (fun hb => ?_) (fun hb => ?_)
      rotate_left
      · simp only [go_sem, h6, h7, h5]
        refine wappE_i hH ⟨rfl, rfl⟩ (by simp only [go_sem]) (by simp only [List.length_map, List.length_cons, List.length_nil]; omega) (fun j' hj' => ?_)
        simp only [go_sem]
        refine hK _ _ ⟨by simp only [go_sem, h6], by simp only [go_sem, h7], keep_app hi hji hj', j', by simp only [go_sem], (ne_new hi hj').symm, ?_⟩
        rw [opt_t (show (decide ((a.slow.length : Int) > 16)) = true from hb)]
        exact row_app (l' := [⟨4, arcS m⟩]) rfl
      · simp only [go_sem]
        refine hK _ _ ⟨by simp only [go_sem, h6], by simp only [go_sem, h7], hi, j, by simp only [go_sem, h5], hji, ?_⟩
        rw [opt_f (show (decide ((a.slow.length : Int) > 16)) = false from hb), List.append_nil, hH]
      clear hH h6 h7 h5
      rintro ρ H ⟨h6, h7, hi, j, h5, hji, hH⟩
      generalize hes5 : es4 ++ opt (decide ((a.slow.length : Int) > 16)) (⟨4, arcS m⟩ : Fault) = es5 at hH
      have hln5 : es5.length ≤ es4.length + 1 := by rw [← hes5, List.length_append]; have := opt_len (decide ((a.slow.length : Int) > 16)) (⟨4, arcS m⟩ : Fault); omega
      simp only [go_sem, h6, h7, h5, hi]
      refine ⟨fun ρ H => ∃ k : Nat, k ≤ a.slow.length ∧ ρ 6 = str (arcS m) ∧ ρ 7 = .op i 0 0 ∧ ρ 13 = int k ∧ H i = some (arcRow a) ∧ ∃ j, ρ 5 = .os j ∧ j ≠ i ∧ H j = some (faultRow (es5 ++ (List.range k).flatMap fun x => opt (badSlow a.slow x) ⟨2, arcS m⟩)), fun ρ _ => a.slow.length - natOf (ρ 13),
        ⟨0, Nat.zero_le _, by simp only [go_sem, h6], by simp only [go_sem, h7], by simp only [go_sem]; rfl, hi, j, by simp only [go_sem, h5], hji, by simpa using hH⟩, ?_⟩
      clear h6 h7 h5 hi hH hji
      rintro ρ H ⟨k, hk, h6, h7, h13, hi, j, h5, hji, hH⟩
      generalize hes : es5 ++ (List.range k).flatMap (fun x => opt (badSlow a.slow x) (⟨2, arcS m⟩ : Fault)) = es at hH
      have hlen : es.length ≤ es5.length + k := by
        have := flat_len_le (f := fun x => opt (badSlow a.slow x) (⟨2, arcS m⟩ : Fault)) (c := 1) (fun x => opt_len _ _) (List.range k)
        rw [← hes, List.length_append]; rw [List.length_range] at this; omega
      simp only [go_sem, h6, h7, h5, h13, hi]
      refine acond_i (fun hlt => ?_) (fun hge => ?_)
      · have hlt := le_of_lt_b hlt
        have hkk : k ≤ 4611686018427387904 := by omega
        obtain ⟨p, hp⟩ := getIn hlt
        obtain ⟨r, hr⟩ := getIn (show k - 1 < a.slow.length by omega)
        have b2 := inB hlt
        simp only [go_sem, h6, h7, h5, h13, hi, b2, getD_map hp]
        refine anew_i fun x hx => ?_
        simp only [go_sem]
        refine wputE_n (updH_same _ _ _) (by simp [encPoint_len]) ?_
        have hix := ne_new hi hx
        have hjx := ne_new hH hx
        simp only [go_sem]
        refine adraw_q (by rfl) (by kernel_rfl) ?_
        simp only [go_sem, h6, h7, h5, h13, updH_ne _ _ _ _ hix, hi]
        refine ⟨_, (tick_c _).q rfl, ?_⟩
        simp only [go_sem, h6, h7, h5, h13, updH_ne _ _ _ _ hix, hi]
        refine ⟨_, fun _ => (tick_c _).q rfl, ?_⟩
        simp only [go_sem, h6, h7, h5, h13, updH_ne _ _ _ _ hix, hi, wrapP hkk, getD_map hr]
        have hi2 : updH (updH H x (some ⟨145, 2, [[int 0, int 0]]⟩)) x (some ⟨145, 2, [encPoint p]⟩) i = some (arcRow a) := by rw [updH_ne _ _ _ _ hix, updH_ne _ _ _ _ hix, hi]
        have hH2 : updH (updH H x (some ⟨145, 2, [[int 0, int 0]]⟩)) x (some ⟨145, 2, [encPoint p]⟩) j = some (faultRow es) := by rw [updH_ne _ _ _ _ hjx, updH_ne _ _ _ _ hjx, hH]
        have hbs : badSlow a.slow k = (!inR p.t 0 4096 || !inR p.a 0 4096 || decide ((k : Int) > 0) && decide (p.t ≤ r.t)) := by rw [badSlow, ptAt_get hp, ptAt_get hr]
        have hfl : es5 ++ (List.range (k + 1)).flatMap (fun x => opt (badSlow a.slow x) (⟨2, arcS m⟩ : Fault)) = es ++ opt (badSlow a.slow k) ⟨2, arcS m⟩ := by rw [flat_range_succ, ← List.append_assoc, hes]
        refine ⟨fun h => by
          have : (k : Int) > 0 := by simpa using h.2
          rw [wrapQ hkk]; omega, acond_joinL (fun ρ' H' => ρ' 6 = str (arcS m) ∧ ρ' 7 = .op i 0 0 ∧ ρ' 13 = int k ∧ H' i = some (arcRow a) ∧ ∃ j, ρ' 5 = .os j ∧ j ≠ i ∧ H' j = some (faultRow (es ++ opt (badSlow a.slow k) ⟨2, arcS m⟩))) ?_ fun K hK _ _ => acond_i (fun hb => ?_) (fun hb => ?_)⟩
        · clear h6 h7 h5 h13
          rintro ρ H ⟨h6, h7, h13, hi, j, h5, hji, hH⟩
          simp only [go_sem, h6, h7, h5, h13, wrapS hkk]
          exact ⟨⟨k + 1, hlt, rfl, hi, j, rfl, hji, by rw [hfl]; exact hH⟩, by simp only [natOf_int]; omega⟩
        · simp only [go_sem, h6, h7, h5, h13]
          refine wappE_i hH2 ⟨rfl, rfl⟩ (by simp only [go_sem]) (by simp only [List.length_map, List.length_cons, List.length_nil]; omega) (fun j' hj' => ?_)
          simp only [go_sem]
          refine hK _ _ ⟨by simp only [go_sem, h6], by simp only [go_sem, h7], by simp only [go_sem, h13], keep_app hi2 hji hj', j', by simp only [go_sem], (ne_new hi2 hj').symm, ?_⟩
          rw [opt_t (hbs.trans hb)]
          exact row_app (l' := [⟨2, arcS m⟩]) rfl
        · simp only [go_sem]
          refine hK _ _ ⟨by simp only [go_sem, h6], by simp only [go_sem, h7], by simp only [go_sem, h13], hi2, j, by simp only [go_sem, h5], hji, ?_⟩
          rw [opt_f (hbs.trans hb), List.append_nil, hH2]
      · have hge := eq_of_ge_b hk hge
        subst hge
        simp only [go_sem, h5]
        refine ⟨_, rfl, ?_⟩
        rw [hH, ← hes, ← hes5, ← hes4, ← htr, ← hes3, ← hes2, ← hes1, ← hes0, arcR, arcAt_get ha]
end Go.Proofs.Ytjlbikpgjejkjaa
