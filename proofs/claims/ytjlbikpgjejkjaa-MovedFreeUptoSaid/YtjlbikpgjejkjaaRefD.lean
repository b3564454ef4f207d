/- lorryref10.rules -/
import Derived.Test.YtjlbikpgjejkjaaRefC
set_option linter.unusedSimpArgs false
set_option linter.unusedVariables false
namespace Go.Proofs.Ytjlbikpgjejkjaa
open Go.Aw Go.Aw.D Go.Proofs Ty
set_option maxRecDepth 100000

def vtAt (l : List VType) (i : Nat) : VType := l.getD i ⟨ByteArray.empty, 0, 0, 0, [], 0, 0, 0, 0, 0, 0, 0, 0, 0⟩
theorem vtAt_get {l : List VType} {k : Nat} {p : VType} (h : l[k]? = some p) : vtAt l k = p := by simp [vtAt, List.getD, h]
def typeErrs (n : Network) (l : List VType) (k : Nat) (t : VType) : List Int :=
  [] ++ opt (!nameR t.name) 5 ++ opt (knownR l k t.name) 6 ++ opt (!inR t.count 0 10) 22 ++ opt (!inR t.src 0 (n.places.length - 1) || !inR t.dst 0 (n.places.length - 1)) 11
    ++ opt (!capR t.cap (dimsR l)) 17 ++ opt (!inR t.skills 0 1073741823) 18 ++ opt (!inR t.start 0 t.close || decide (t.close > 4096)) 15
    ++ opt (!inR t.drive 1 4096 || !inR t.rest 0 4096) 16 ++ opt (!inR t.profile 0 7 || !inR t.fixed 0 100000 || !inR t.perMile 0 100 || !inR t.perTick 0 100) 2
theorem trules_c (n : Network) (l : List VType) (k : Nat) (hk : k < l.length) (hl : l.length ≤ 1048576) (hs : ∀ t ∈ l, t.name.size ≤ 1048576 ∧ t.cap.length ≤ 1048576) (hp : n.places.length ≤ 1048576) :
    PC Try.prog 78 [.agg (encNetwork n), .sl (l.map encVType), int k] (.sl ((typeErrs n l k (vtAt l k)).map encInt)) := by
  refine PC.body (c := Try.f78.body.getD .skip) (fun t => t == 8) mixed Try.func78 rfl (by kernel_rfl) ?_
  unfold Try.f78
  simp only [Option.getD_some]
  simp only [go_sem]
  obtain ⟨t, ht⟩ := getIn hk
  have b1 := inB hk
  have hst := hs t (mem_of_get ht)
  rw [vtAt_get ht]
  simp only [go_sem, b1, getD_map ht]
  refine anew_i fun i hi => ?_
  simp only [go_sem]
  refine wputE_n (updH_same _ _ _) (by simp [encVType_len]) ?_
  simp only [go_sem]
  refine anew_i fun j hj => ?_
  have hi' := keep_new (r' := (⟨40, 1, []⟩ : Row)) (updH_same _ _ _) hj
  simp only [go_sem, hi']
  refine PC.use (name_c _ hst.1) ?_
  simp only [go_sem]
  refine acond_cut (fun ρ' H' => ρ' 1 = .sl (l.map encVType) ∧ ρ' 2 = int k ∧ ρ' 3 = .rp (encNetwork n) 0 ∧ ρ' 7 = .op i 0 0 ∧ H' i = some (typeRow t) ∧ ∃ j', ρ' 8 = .os j' ∧ j' ≠ i ∧ H' j' = some (errRow [])) ⟨by simp only [go_sem], by simp only [go_sem], by simp only [go_sem], by simp only [go_sem], keep_new (updH_same _ _ _) hj, _, by simp only [go_sem], (ne_new (updH_same _ _ _) hj).symm, updH_same _ _ _⟩ ?_
  rintro ρ H ⟨h1, h2, h3, h7, hi, j, h8, hji, hH⟩
  generalize hes0 : ([] : List Int) = es0 at hH
  have hln0 : es0.length ≤ 0 := by rw [← hes0]; exact Nat.le_refl _
  refine acond_join (fun ρ' H' => ρ' 1 = .sl (l.map encVType) ∧ ρ' 2 = int k ∧ ρ' 3 = .rp (encNetwork n) 0 ∧ ρ' 7 = .op i 0 0 ∧ H' i = some (typeRow t) ∧ ∃ j', ρ' 8 = .os j' ∧ j' ≠ i ∧ H' j' = some (errRow (es0 ++ opt (!nameR t.name) 5))) ?_ fun K hK => acond_i (fun hb => ?_) (fun hb => ?_)
  rotate_left
  · simp only [go_sem, h1, h2, h3, h7, h8]
    refine wappE_i hH ⟨rfl, rfl⟩ (by simp only [go_sem]) (by simp only [List.length_map, List.length_cons, List.length_nil]; omega) (fun j' hj' => ?_)
    simp only [go_sem]
    refine hK _ _ ⟨by simp only [go_sem, h1], by simp only [go_sem, h2], by simp only [go_sem, h3], by simp only [go_sem, h7], keep_app hi hji hj', j', by simp only [go_sem], (ne_new hi hj').symm, ?_⟩
    rw [opt_t (show (!nameR t.name) = true from hb)]
    exact row_appI (l' := [5]) rfl
  · simp only [go_sem]
    refine hK _ _ ⟨by simp only [go_sem, h1], by simp only [go_sem, h2], by simp only [go_sem, h3], by simp only [go_sem, h7], hi, j, by simp only [go_sem, h8], hji, ?_⟩
    rw [opt_f (show (!nameR t.name) = false from hb), List.append_nil, hH]
  clear hH h1 h2 h3 h7 h8
  rintro ρ H ⟨h1, h2, h3, h7, hi, j, h8, hji, hH⟩
  generalize hes1 : es0 ++ opt (!nameR t.name) (5 : Int) = es1 at hH
  have hln1 : es1.length ≤ es0.length + 1 := by rw [← hes1, List.length_append]; have := opt_len (!nameR t.name) (5 : Int); omega
  simp only [go_sem, h1, h2, h3, h7, h8, hi]
  refine PC.use (known_c l k t.name (by omega) hl) ?_
  simp only [go_sem]
  refine acond_join (fun ρ' H' => ρ' 1 = .sl (l.map encVType) ∧ ρ' 2 = int k ∧ ρ' 3 = .rp (encNetwork n) 0 ∧ ρ' 7 = .op i 0 0 ∧ H' i = some (typeRow t) ∧ ∃ j', ρ' 8 = .os j' ∧ j' ≠ i ∧ H' j' = some (errRow (es1 ++ opt (knownR l k t.name) 6))) ?_ fun K hK => acond_i (fun hb => ?_) (fun hb => ?_)
  rotate_left
  · simp only [go_sem, h1, h2, h3, h7, h8]
    refine wappE_i hH ⟨rfl, rfl⟩ (by simp only [go_sem]) (by simp only [List.length_map, List.length_cons, List.length_nil]; omega) (fun j' hj' => ?_)
    simp only [go_sem]
    refine hK _ _ ⟨by simp only [go_sem, h1], by simp only [go_sem, h2], by simp only [go_sem, h3], by simp only [go_sem, h7], keep_app hi hji hj', j', by simp only [go_sem], (ne_new hi hj').symm, ?_⟩
    rw [opt_t (show (knownR l k t.name) = true from hb)]
    exact row_appI (l' := [6]) rfl
  · simp only [go_sem]
    refine hK _ _ ⟨by simp only [go_sem, h1], by simp only [go_sem, h2], by simp only [go_sem, h3], by simp only [go_sem, h7], hi, j, by simp only [go_sem, h8], hji, ?_⟩
    rw [opt_f (show (knownR l k t.name) = false from hb), List.append_nil, hH]
  clear hH h1 h2 h3 h7 h8
  rintro ρ H ⟨h1, h2, h3, h7, hi, j, h8, hji, hH⟩
  generalize hes2 : es1 ++ opt (knownR l k t.name) (6 : Int) = es2 at hH
  have hln2 : es2.length ≤ es1.length + 1 := by rw [← hes2, List.length_append]; have := opt_len (knownR l k t.name) (6 : Int); omega
  simp only [go_sem, h1, h2, h3, h7, h8, hi]
  refine PC.use (in10_c _ _ _) ?_
  simp only [go_sem]
  refine acond_join (fun ρ' H' => ρ' 1 = .sl (l.map encVType) ∧ ρ' 2 = int k ∧ ρ' 3 = .rp (encNetwork n) 0 ∧ ρ' 7 = .op i 0 0 ∧ H' i = some (typeRow t) ∧ ∃ j', ρ' 8 = .os j' ∧ j' ≠ i ∧ H' j' = some (errRow (es2 ++ opt (!inR t.count 0 10) 22))) ?_ fun K hK => acond_i (fun hb => ?_) (fun hb => ?_)
  rotate_left
  · simp only [go_sem, h1, h2, h3, h7, h8]
    refine wappE_i hH ⟨rfl, rfl⟩ (by simp only [go_sem]) (by simp only [List.length_map, List.length_cons, List.length_nil]; omega) (fun j' hj' => ?_)
    simp only [go_sem]
    refine hK _ _ ⟨by simp only [go_sem, h1], by simp only [go_sem, h2], by simp only [go_sem, h3], by simp only [go_sem, h7], keep_app hi hji hj', j', by simp only [go_sem], (ne_new hi hj').symm, ?_⟩
    rw [opt_t (show (!inR t.count 0 10) = true from hb)]
    exact row_appI (l' := [22]) rfl
  · simp only [go_sem]
    refine hK _ _ ⟨by simp only [go_sem, h1], by simp only [go_sem, h2], by simp only [go_sem, h3], by simp only [go_sem, h7], hi, j, by simp only [go_sem, h8], hji, ?_⟩
    rw [opt_f (show (!inR t.count 0 10) = false from hb), List.append_nil, hH]
  clear hH h1 h2 h3 h7 h8
  rintro ρ H ⟨h1, h2, h3, h7, hi, j, h8, hji, hH⟩
  generalize hes3 : es2 ++ opt (!inR t.count 0 10) (22 : Int) = es3 at hH
  have hln3 : es3.length ≤ es2.length + 1 := by rw [← hes3, List.length_append]; have := opt_len (!inR t.count 0 10) (22 : Int); omega
  simp only [go_sem, h1, h2, h3, h7, h8, hi, wrapQ (show n.places.length ≤ 4611686018427387904 by omega)]
  refine PC.use (in10_c _ _ _) ?_
  simp only [go_sem, h1, h2, h3, h7, h8, hi, wrapQ (show n.places.length ≤ 4611686018427387904 by omega)]
  refine ⟨_, fun _ => (in10_c _ _ _).q rfl, ?_⟩
  simp only [go_sem, h1, h2, h3, h7, h8, hi]
  refine acond_join (fun ρ' H' => ρ' 1 = .sl (l.map encVType) ∧ ρ' 2 = int k ∧ ρ' 3 = .rp (encNetwork n) 0 ∧ ρ' 7 = .op i 0 0 ∧ H' i = some (typeRow t) ∧ ∃ j', ρ' 8 = .os j' ∧ j' ≠ i ∧ H' j' = some (errRow (es3 ++ opt (!inR t.src 0 (n.places.length - 1) || !inR t.dst 0 (n.places.length - 1)) 11))) ?_ fun K hK => acond_i (fun hb => ?_) (fun hb => ?_)
  rotate_left
  · simp only [go_sem, h1, h2, h3, h7, h8]
    refine wappE_i hH ⟨rfl, rfl⟩ (by simp only [go_sem]) (by simp only [List.length_map, List.length_cons, List.length_nil]; omega) (fun j' hj' => ?_)
    simp only [go_sem]
    refine hK _ _ ⟨by simp only [go_sem, h1], by simp only [go_sem, h2], by simp only [go_sem, h3], by simp only [go_sem, h7], keep_app hi hji hj', j', by simp only [go_sem], (ne_new hi hj').symm, ?_⟩
    rw [opt_t (show (!inR t.src 0 (n.places.length - 1) || !inR t.dst 0 (n.places.length - 1)) = true from hb)]
    exact row_appI (l' := [11]) rfl
  · simp only [go_sem]
    refine hK _ _ ⟨by simp only [go_sem, h1], by simp only [go_sem, h2], by simp only [go_sem, h3], by simp only [go_sem, h7], hi, j, by simp only [go_sem, h8], hji, ?_⟩
    rw [opt_f (show (!inR t.src 0 (n.places.length - 1) || !inR t.dst 0 (n.places.length - 1)) = false from hb), List.append_nil, hH]
  clear hH h1 h2 h3 h7 h8
  rintro ρ H ⟨h1, h2, h3, h7, hi, j, h8, hji, hH⟩
  generalize hes4 : es3 ++ opt (!inR t.src 0 (n.places.length - 1) || !inR t.dst 0 (n.places.length - 1)) (11 : Int) = es4 at hH
  have hln4 : es4.length ≤ es3.length + 1 := by rw [← hes4, List.length_append]; have := opt_len (!inR t.src 0 (n.places.length - 1) || !inR t.dst 0 (n.places.length - 1)) (11 : Int); omega
  simp only [go_sem, h1, h2, h3, h7, h8, hi]
  refine adraw_q (by rfl) (by kernel_rfl) ?_
  simp only [go_sem, h1, h2, h3, h7, h8, hi]
  refine ⟨_, (dims_c l).q rfl, ?_⟩
  simp only [go_sem, h1, h2, h3, h7, h8, hi]
  refine ⟨_, (cap_c t.cap (dimsR l) hst.2).q rfl, ?_⟩
  simp only [go_sem, h1, h2, h3, h7, h8, hi]
  refine acond_join (fun ρ' H' => ρ' 1 = .sl (l.map encVType) ∧ ρ' 2 = int k ∧ ρ' 3 = .rp (encNetwork n) 0 ∧ ρ' 7 = .op i 0 0 ∧ H' i = some (typeRow t) ∧ ∃ j', ρ' 8 = .os j' ∧ j' ≠ i ∧ H' j' = some (errRow (es4 ++ opt (!capR t.cap (dimsR l)) 17))) ?_ fun K hK => acond_i (fun hb => ?_) (fun hb => ?_)
  rotate_left
  · simp only [go_sem, h1, h2, h3, h7, h8]
    refine wappE_i hH ⟨rfl, rfl⟩ (by simp only [go_sem]) (by simp only [List.length_map, List.length_cons, List.length_nil]; omega) (fun j' hj' => ?_)
    simp only [go_sem]
    refine hK _ _ ⟨by simp only [go_sem, h1], by simp only [go_sem, h2], by simp only [go_sem, h3], by simp only [go_sem, h7], keep_app hi hji hj', j', by simp only [go_sem], (ne_new hi hj').symm, ?_⟩
    rw [opt_t (show (!capR t.cap (dimsR l)) = true from hb)]
    exact row_appI (l' := [17]) rfl
  · simp only [go_sem]
    refine hK _ _ ⟨by simp only [go_sem, h1], by simp only [go_sem, h2], by simp only [go_sem, h3], by simp only [go_sem, h7], hi, j, by simp only [go_sem, h8], hji, ?_⟩
    rw [opt_f (show (!capR t.cap (dimsR l)) = false from hb), List.append_nil, hH]
  clear hH h1 h2 h3 h7 h8
  rintro ρ H ⟨h1, h2, h3, h7, hi, j, h8, hji, hH⟩
  generalize hes5 : es4 ++ opt (!capR t.cap (dimsR l)) (17 : Int) = es5 at hH
  have hln5 : es5.length ≤ es4.length + 1 := by rw [← hes5, List.length_append]; have := opt_len (!capR t.cap (dimsR l)) (17 : Int); omega
  simp only [go_sem, h1, h2, h3, h7, h8, hi]
  refine PC.use (in10_c _ _ _) ?_
  simp only [go_sem, h1, h2, h3, h7, h8, hi]
  refine acond_join (fun ρ' H' => ρ' 1 = .sl (l.map encVType) ∧ ρ' 2 = int k ∧ ρ' 3 = .rp (encNetwork n) 0 ∧ ρ' 7 = .op i 0 0 ∧ H' i = some (typeRow t) ∧ ∃ j', ρ' 8 = .os j' ∧ j' ≠ i ∧ H' j' = some (errRow (es5 ++ opt (!inR t.skills 0 1073741823) 18))) ?_ fun K hK => acond_i (fun hb => ?_) (fun hb => ?_)
  rotate_left
  · simp only [go_sem, h1, h2, h3, h7, h8]
    refine wappE_i hH ⟨rfl, rfl⟩ (by simp only [go_sem]) (by simp only [List.length_map, List.length_cons, List.length_nil]; omega) (fun j' hj' => ?_)
    simp only [go_sem]
    refine hK _ _ ⟨by simp only [go_sem, h1], by simp only [go_sem, h2], by simp only [go_sem, h3], by simp only [go_sem, h7], keep_app hi hji hj', j', by simp only [go_sem], (ne_new hi hj').symm, ?_⟩
    rw [opt_t (show (!inR t.skills 0 1073741823) = true from hb)]
    exact row_appI (l' := [18]) rfl
  · simp only [go_sem]
    refine hK _ _ ⟨by simp only [go_sem, h1], by simp only [go_sem, h2], by simp only [go_sem, h3], by simp only [go_sem, h7], hi, j, by simp only [go_sem, h8], hji, ?_⟩
    rw [opt_f (show (!inR t.skills 0 1073741823) = false from hb), List.append_nil, hH]
  clear hH h1 h2 h3 h7 h8
  rintro ρ H ⟨h1, h2, h3, h7, hi, j, h8, hji, hH⟩
  generalize hes6 : es5 ++ opt (!inR t.skills 0 1073741823) (18 : Int) = es6 at hH
  have hln6 : es6.length ≤ es5.length + 1 := by rw [← hes6, List.length_append]; have := opt_len (!inR t.skills 0 1073741823) (18 : Int); omega
  simp only [go_sem, h1, h2, h3, h7, h8, hi]
  refine PC.use (in10_c _ _ _) ?_
  simp only [go_sem, h1, h2, h3, h7, h8, hi]
  refine acond_join (fun ρ' H' => ρ' 1 = .sl (l.map encVType) ∧ ρ' 2 = int k ∧ ρ' 3 = .rp (encNetwork n) 0 ∧ ρ' 7 = .op i 0 0 ∧ H' i = some (typeRow t) ∧ ∃ j', ρ' 8 = .os j' ∧ j' ≠ i ∧ H' j' = some (errRow (es6 ++ opt (!inR t.start 0 t.close || decide (t.close > 4096)) 15))) ?_ fun K hK => acond_i (fun hb => ?_) (fun hb => ?_)
  rotate_left
  · simp only [go_sem, h1, h2, h3, h7, h8]
    refine wappE_i hH ⟨rfl, rfl⟩ (by simp only [go_sem]) (by simp only [List.length_map, List.length_cons, List.length_nil]; omega) (fun j' hj' => ?_)
    simp only [go_sem]
    refine hK _ _ ⟨by simp only [go_sem, h1], by simp only [go_sem, h2], by simp only [go_sem, h3], by simp only [go_sem, h7], keep_app hi hji hj', j', by simp only [go_sem], (ne_new hi hj').symm, ?_⟩
    rw [opt_t (show (!inR t.start 0 t.close || decide (t.close > 4096)) = true from hb)]
    exact row_appI (l' := [15]) rfl
  · simp only [go_sem]
    refine hK _ _ ⟨by simp only [go_sem, h1], by simp only [go_sem, h2], by simp only [go_sem, h3], by simp only [go_sem, h7], hi, j, by simp only [go_sem, h8], hji, ?_⟩
    rw [opt_f (show (!inR t.start 0 t.close || decide (t.close > 4096)) = false from hb), List.append_nil, hH]
  clear hH h1 h2 h3 h7 h8
  rintro ρ H ⟨h1, h2, h3, h7, hi, j, h8, hji, hH⟩
  generalize hes7 : es6 ++ opt (!inR t.start 0 t.close || decide (t.close > 4096)) (15 : Int) = es7 at hH
  have hln7 : es7.length ≤ es6.length + 1 := by rw [← hes7, List.length_append]; have := opt_len (!inR t.start 0 t.close || decide (t.close > 4096)) (15 : Int); omega
  simp only [go_sem, h1, h2, h3, h7, h8, hi]
  refine PC.use (in10_c _ _ _) ?_
  simp only [go_sem, h1, h2, h3, h7, h8, hi]
  refine ⟨_, fun _ => (in10_c _ _ _).q rfl, ?_⟩
  simp only [go_sem, h1, h2, h3, h7, h8, hi]
  refine acond_join (fun ρ' H' => ρ' 1 = .sl (l.map encVType) ∧ ρ' 2 = int k ∧ ρ' 3 = .rp (encNetwork n) 0 ∧ ρ' 7 = .op i 0 0 ∧ H' i = some (typeRow t) ∧ ∃ j', ρ' 8 = .os j' ∧ j' ≠ i ∧ H' j' = some (errRow (es7 ++ opt (!inR t.drive 1 4096 || !inR t.rest 0 4096) 16))) ?_ fun K hK => acond_i (fun hb => ?_) (fun hb => ?_)
  rotate_left
  · simp only [go_sem, h1, h2, h3, h7, h8]
    refine wappE_i hH ⟨rfl, rfl⟩ (by simp only [go_sem]) (by simp only [List.length_map, List.length_cons, List.length_nil]; omega) (fun j' hj' => ?_)
    simp only [go_sem]
    refine hK _ _ ⟨by simp only [go_sem, h1], by simp only [go_sem, h2], by simp only [go_sem, h3], by simp only [go_sem, h7], keep_app hi hji hj', j', by simp only [go_sem], (ne_new hi hj').symm, ?_⟩
    rw [opt_t (show (!inR t.drive 1 4096 || !inR t.rest 0 4096) = true from hb)]
    exact row_appI (l' := [16]) rfl
  · simp only [go_sem]
    refine hK _ _ ⟨by simp only [go_sem, h1], by simp only [go_sem, h2], by simp only [go_sem, h3], by simp only [go_sem, h7], hi, j, by simp only [go_sem, h8], hji, ?_⟩
    rw [opt_f (show (!inR t.drive 1 4096 || !inR t.rest 0 4096) = false from hb), List.append_nil, hH]
  clear hH h1 h2 h3 h7 h8
  rintro ρ H ⟨h1, h2, h3, h7, hi, j, h8, hji, hH⟩
  generalize hes8 : es7 ++ opt (!inR t.drive 1 4096 || !inR t.rest 0 4096) (16 : Int) = es8 at hH
  have hln8 : es8.length ≤ es7.length + 1 := by rw [← hes8, List.length_append]; have := opt_len (!inR t.drive 1 4096 || !inR t.rest 0 4096) (16 : Int); omega
  simp only [go_sem, h1, h2, h3, h7, h8, hi]
  refine PC.use (in10_c _ _ _) ?_
  simp only [go_sem, h1, h2, h3, h7, h8, hi]
  refine ⟨_, fun _ => (in10_c _ _ _).q rfl, ?_⟩
  simp only [go_sem, h1, h2, h3, h7, h8, hi]
  refine ⟨_, fun _ => (in10_c _ _ _).q rfl, ?_⟩
  simp only [go_sem, h1, h2, h3, h7, h8, hi]
  refine ⟨_, fun _ => (in10_c _ _ _).q rfl, ?_⟩
  simp only [go_sem, h1, h2, h3, h7, h8, hi]
  refine acond_join (fun ρ' H' => ρ' 1 = .sl (l.map encVType) ∧ ρ' 2 = int k ∧ ρ' 3 = .rp (encNetwork n) 0 ∧ ρ' 7 = .op i 0 0 ∧ H' i = some (typeRow t) ∧ ∃ j', ρ' 8 = .os j' ∧ j' ≠ i ∧ H' j' = some (errRow (es8 ++ opt (!inR t.profile 0 7 || !inR t.fixed 0 100000 || !inR t.perMile 0 100 || !inR t.perTick 0 100) 2))) ?_ fun K hK => acond_i (fun hb => ?_) (fun hb => ?_)
  rotate_left
  · simp only [go_sem, h1, h2, h3, h7, h8]
    refine wappE_i hH ⟨rfl, rfl⟩ (by simp only [go_sem]) (by simp only [List.length_map, List.length_cons, List.length_nil]; omega) (fun j' hj' => ?_)
    simp only [go_sem]
    refine hK _ _ ⟨by simp only [go_sem, h1], by simp only [go_sem, h2], by simp only [go_sem, h3], by simp only [go_sem, h7], keep_app hi hji hj', j', by simp only [go_sem], (ne_new hi hj').symm, ?_⟩
    rw [opt_t (show (!inR t.profile 0 7 || !inR t.fixed 0 100000 || !inR t.perMile 0 100 || !inR t.perTick 0 100) = true from hb)]
    exact row_appI (l' := [2]) rfl
  · simp only [go_sem]
    refine hK _ _ ⟨by simp only [go_sem, h1], by simp only [go_sem, h2], by simp only [go_sem, h3], by simp only [go_sem, h7], hi, j, by simp only [go_sem, h8], hji, ?_⟩
    rw [opt_f (show (!inR t.profile 0 7 || !inR t.fixed 0 100000 || !inR t.perMile 0 100 || !inR t.perTick 0 100) = false from hb), List.append_nil, hH]
  clear hH h1 h2 h3 h7 h8
  rintro ρ H ⟨h1, h2, h3, h7, hi, j, h8, hji, hH⟩
  generalize hes9 : es8 ++ opt (!inR t.profile 0 7 || !inR t.fixed 0 100000 || !inR t.perMile 0 100 || !inR t.perTick 0 100) (2 : Int) = es9 at hH
  have hln9 : es9.length ≤ es8.length + 1 := by rw [← hes9, List.length_append]; have := opt_len (!inR t.profile 0 7 || !inR t.fixed 0 100000 || !inR t.perMile 0 100 || !inR t.perTick 0 100) (2 : Int); omega
  simp only [go_sem, h1, h2, h3, h7, h8, hi]
  have hall : typeErrs n l k t = es9 := by unfold typeErrs; rw [hes0, hes1, hes2, hes3, hes4, hes5, hes6, hes7, hes8, hes9]
  rw [hall]
  exact .row _ _ _ hH (ConvE.refl _)
end Go.Proofs.Ytjlbikpgjejkjaa
