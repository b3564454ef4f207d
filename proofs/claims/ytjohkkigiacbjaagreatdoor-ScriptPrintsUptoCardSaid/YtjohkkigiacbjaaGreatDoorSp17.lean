/- Texts joined by a program: RefF. -/
import Derived.Test.YtjohkkigiacbjaaGreatDoorSp16

set_option linter.unusedSimpArgs false
set_option linter.unusedVariables false
namespace Go.Proofs.YtjohkkigiacbjaaGreatDoor
open Go.Aw Go.Aw.D Go.Proofs Ty
set_option maxRecDepth 100000
def knownO (l : List Order) (k : Nat) (s : ByteArray) : Bool := (l.take k).any fun t => t.name.toList == s.toList
def orderErrs (P : Nat) (d T : Int) (l : List Order) (k : Nat) (o : Order) : List Int :=
  [] ++ opt (!nameR o.name) 5 ++ opt (knownO l k o.name) 6 ++ opt (!rightL o.load d) 17 ++ opt (!inR o.pick.place (-1) ((P : Int) - 1) || !inR o.drop.place (-1) ((P : Int) - 1)) 11 ++ opt (o.pick.place == -1 && o.drop.place == -1) 19 ++ opt (windowR o.pick != 0 || windowR o.drop != 0) 14 ++ opt (!inR o.skills 0 1073741823) 18 ++ opt (!inR o.penalty (-1) 1000000 || !inR o.split 1 4 || decide (o.split > 1) && (o.pick.place != -1 && o.drop.place != -1) || decide (o.last < -1) || decide (o.last ≥ T) || decide (o.now < -1) || decide (o.now ≥ T)) 2
theorem orules_c (P : Nat) (d T : Int) (l : List Order) (k : Nat) (o : Order) (ho : l[k]? = some o) (hP : P ≤ 1048576) (hl : l.length ≤ 1048576) (hs : ∀ t ∈ l, t.name.size ≤ 1048576 ∧ t.load.length ≤ 1048576) :
    PC Tryz.prog 118 [int P, int d, int T, .sl (l.map encOrder), int k] (.sl ((orderErrs P d T l k o).map encInt)) := by
  refine PC.body (c := Tryz.f118.body.getD .skip) (fun t => t == 11) mixed Tryz.func118 rfl (by kernel_rfl) ?_
  unfold Tryz.f118
  simp only [Option.getD_some]
  simp only [go_sem]
  have hk : k < l.length := by
    rcases Nat.lt_or_ge k l.length with h | h
    · exact h
    · rw [List.getElem?_eq_none h] at ho; simp at ho
  have b1 := inB hk
  have hst := hs o (mem_of_get ho)
  refine anew_i fun j hj => ?_
  simp only [go_sem, b1, getD_map ho]
  refine anew_i fun i hi => ?_
  simp only [go_sem]
  refine wputE_n (updH_same _ _ _) (by simp [encOrder_len]) ?_
  simp only [go_sem]
  refine PC.use (name_c _ hst.1) ?_
  simp only [go_sem]
  have hji : j ≠ i := ne_new (updH_same _ _ _) hi
  refine acond_cut (fun ρ' H' => ρ' 0 = int P ∧ ρ' 1 = int d ∧ ρ' 2 = int T ∧ ρ' 3 = .sl (l.map encOrder) ∧ ρ' 4 = int k ∧ ρ' 12 = .op i 0 0 ∧ H' i = some (orderRow o) ∧ ∃ j', ρ' 11 = .os j' ∧ j' ≠ i ∧ H' j' = some (errRow []))
    ⟨by simp only [go_sem], by simp only [go_sem], by simp only [go_sem], by simp only [go_sem], by simp only [go_sem], by simp only [go_sem], updH_same _ _ _, j, by simp only [go_sem], hji, by rw [updH_ne _ _ _ _ hji, updH_ne _ _ _ _ hji, updH_same]; rfl⟩ ?_
  clear hi hj hji
  rintro ρ H ⟨h0, h1, h2, h3, h4, h12, hi, j, h11, hji, hH⟩
  generalize hes0 : ([] : List Int) = es0 at hH
  have hln0 : es0.length ≤ 0 := by rw [← hes0]; exact Nat.le_refl _
  refine acond_join (fun ρ' H' => ρ' 0 = int P ∧ ρ' 1 = int d ∧ ρ' 2 = int T ∧ ρ' 3 = .sl (l.map encOrder) ∧ ρ' 4 = int k ∧ ρ' 12 = .op i 0 0 ∧ H' i = some (orderRow o) ∧ ∃ j', ρ' 11 = .os j' ∧ j' ≠ i ∧ H' j' = some (errRow (es0 ++ opt (!nameR o.name) 5))) ?_ fun K hK => acond_i (fun hb => ?_) (fun hb => ?_)
  rotate_left
  · simp only [go_sem, h0, h1, h2, h3, h4, h12, h11]
    refine wappE_i hH ⟨rfl, rfl⟩ (by simp only [go_sem]) (by simp only [List.length_map, List.length_cons, List.length_nil]; omega) (fun j' hj' => ?_)
    simp only [go_sem]
    refine hK _ _ ⟨by simp only [go_sem, h0], by simp only [go_sem, h1], by simp only [go_sem, h2], by simp only [go_sem, h3], by simp only [go_sem, h4], by simp only [go_sem, h12], keep_app hi hji hj', j', by simp only [go_sem], (ne_new hi hj').symm, ?_⟩
    rw [opt_t (show (!nameR o.name) = true from hb)]
    exact row_appI (l' := [5]) rfl
  · simp only [go_sem]
    refine hK _ _ ⟨by simp only [go_sem, h0], by simp only [go_sem, h1], by simp only [go_sem, h2], by simp only [go_sem, h3], by simp only [go_sem, h4], by simp only [go_sem, h12], hi, j, by simp only [go_sem, h11], hji, ?_⟩
    rw [opt_f (show (!nameR o.name) = false from hb), List.append_nil, hH]
  clear hH h0 h1 h2 h3 h4 h12 h11
  rintro ρ H ⟨h0, h1, h2, h3, h4, h12, hi, j, h11, hji, hH⟩
  generalize hes1 : es0 ++ opt (!nameR o.name) (5 : Int) = es1 at hH
  have hln1 : es1.length ≤ es0.length + 1 := by rw [← hes1, List.length_append]; have := opt_len (!nameR o.name) (5 : Int); omega
  simp only [go_sem, h0, h1, h2, h3, h4, h12, h11, hi]
  refine aloop_join (fun ρ' H' => ρ' 0 = int P ∧ ρ' 1 = int d ∧ ρ' 2 = int T ∧ ρ' 3 = .sl (l.map encOrder) ∧ ρ' 4 = int k ∧ ρ' 12 = .op i 0 0 ∧ H' i = some (orderRow o) ∧ ∃ j', ρ' 11 = .os j' ∧ j' ≠ i ∧ H' j' = some (errRow (es1 ++ opt (knownO l k o.name) 6))) ?_ fun Q hQ _ => ?_
  rotate_left
  · refine ⟨fun ρ' H' => ∃ m : Nat, m ≤ k ∧ ρ' 0 = int P ∧ ρ' 1 = int d ∧ ρ' 2 = int T ∧ ρ' 3 = .sl (l.map encOrder) ∧ ρ' 4 = int k ∧ ρ' 12 = .op i 0 0 ∧ ρ' 11 = .os j ∧ ρ' 13 = int m ∧ H' = H ∧ ∀ t ∈ l.take m, (t.name.toList == o.name.toList) = false, fun ρ _ => k - natOf (ρ 13),
      ⟨0, Nat.zero_le _, by simp only [go_sem, h0], by simp only [go_sem, h1], by simp only [go_sem, h2], by simp only [go_sem, h3], by simp only [go_sem, h4], by simp only [go_sem, h12], by simp only [go_sem, h11], by simp only [go_sem]; rfl, rfl, by simp⟩, ?_⟩
    clear h0 h1 h2 h3 h4 h12 h11
    rintro ρ H' ⟨m, hm, h0, h1, h2, h3, h4, h12, h11, h13, rfl, hn⟩
    simp only [go_sem, h0, h1, h2, h3, h4, h12, h11, h13]
    refine acond_i (fun hlt => ?_) (fun hge => ?_)
    · have hlt := le_of_lt_b hlt
      obtain ⟨t, ht⟩ := getIn (show m < l.length by omega)
      have b2 := inB (show m < l.length by omega)
      simp only [go_sem]
      refine adraw_q (by rfl) (by kernel_rfl) ?_
      simp only [go_sem, h0, h1, h2, h3, h4, h12, h11, h13, hi, b2, getD_map ht]
      refine acond_i (fun hb => ?_) (fun hb => ?_)
      · simp only [go_sem, h0, h1, h2, h3, h4, h12, h11, h13]
        refine wappE_i hH ⟨rfl, rfl⟩ (by simp only [go_sem]) (by simp only [List.length_map, List.length_cons, List.length_nil]; omega) (fun j' hj' => ?_)
        simp only [go_sem]
        refine hQ _ _ ⟨by simp only [go_sem, h0], by simp only [go_sem, h1], by simp only [go_sem, h2], by simp only [go_sem, h3], by simp only [go_sem, h4], by simp only [go_sem, h12], keep_app hi hji hj', j', by simp only [go_sem], (ne_new hi hj').symm, ?_⟩
        rw [opt_t (show knownO l k o.name = true from List.any_eq_true.2 ⟨t, List.mem_of_getElem? (i := m) (by rw [List.getElem?_take]; simp [hlt, ht]), hb⟩)]
        exact row_appI (l' := [6]) rfl
      · simp only [go_sem, h0, h1, h2, h3, h4, h12, h11, h13, wrapS (show m ≤ 4611686018427387904 by omega)]
        exact ⟨⟨m + 1, hlt, rfl, take_all ht hn hb⟩, by simp only [natOf_int]; omega⟩
    · have hge := eq_of_ge_b hm hge
      subst hge
      simp only [go_sem]
      refine hQ _ _ ⟨by simp only [go_sem, h0], by simp only [go_sem, h1], by simp only [go_sem, h2], by simp only [go_sem, h3], by simp only [go_sem, h4], by simp only [go_sem, h12], hi, j, by simp only [go_sem, h11], hji, ?_⟩
      rw [opt_f (show knownO l m o.name = false from List.any_eq_false.2 fun t ht => by simp [hn t ht]), List.append_nil, hH]
  clear hH h0 h1 h2 h3 h4 h12 h11
  rintro ρ H ⟨h0, h1, h2, h3, h4, h12, hi, j, h11, hji, hH⟩
  generalize hes2 : es1 ++ opt (knownO l k o.name) (6 : Int) = es2 at hH
  have hln2 : es2.length ≤ es1.length + 1 := by rw [← hes2, List.length_append]; have := opt_len (knownO l k o.name) (6 : Int); omega
  simp only [go_sem, h0, h1, h2, h3, h4, h12, h11, hi]
  refine PC.use (right_c _ _ hst.2) ?_
  simp only [go_sem, h0, h1, h2, h3, h4, h12, h11, hi]
  refine acond_join (fun ρ' H' => ρ' 0 = int P ∧ ρ' 1 = int d ∧ ρ' 2 = int T ∧ ρ' 3 = .sl (l.map encOrder) ∧ ρ' 4 = int k ∧ ρ' 12 = .op i 0 0 ∧ H' i = some (orderRow o) ∧ ∃ j', ρ' 11 = .os j' ∧ j' ≠ i ∧ H' j' = some (errRow (es2 ++ opt (!rightL o.load d) 17))) ?_ fun K hK => acond_i (fun hb => ?_) (fun hb => ?_)
  rotate_left
  · simp only [go_sem, h0, h1, h2, h3, h4, h12, h11]
    refine wappE_i hH ⟨rfl, rfl⟩ (by simp only [go_sem]) (by simp only [List.length_map, List.length_cons, List.length_nil]; omega) (fun j' hj' => ?_)
    simp only [go_sem]
    refine hK _ _ ⟨by simp only [go_sem, h0], by simp only [go_sem, h1], by simp only [go_sem, h2], by simp only [go_sem, h3], by simp only [go_sem, h4], by simp only [go_sem, h12], keep_app hi hji hj', j', by simp only [go_sem], (ne_new hi hj').symm, ?_⟩
    rw [opt_t (show (!rightL o.load d) = true from hb)]
    exact row_appI (l' := [17]) rfl
  · simp only [go_sem]
    refine hK _ _ ⟨by simp only [go_sem, h0], by simp only [go_sem, h1], by simp only [go_sem, h2], by simp only [go_sem, h3], by simp only [go_sem, h4], by simp only [go_sem, h12], hi, j, by simp only [go_sem, h11], hji, ?_⟩
    rw [opt_f (show (!rightL o.load d) = false from hb), List.append_nil, hH]
  clear hH h0 h1 h2 h3 h4 h12 h11
  rintro ρ H ⟨h0, h1, h2, h3, h4, h12, hi, j, h11, hji, hH⟩
  generalize hes3 : es2 ++ opt (!rightL o.load d) (17 : Int) = es3 at hH
  have hln3 : es3.length ≤ es2.length + 1 := by rw [← hes3, List.length_append]; have := opt_len (!rightL o.load d) (17 : Int); omega
  simp only [go_sem, h0, h1, h2, h3, h4, h12, h11, hi, wrapQ (show P ≤ 4611686018427387904 by omega)]
  refine PC.use (in11_c _ _ _) ?_
  simp only [go_sem, h0, h1, h2, h3, h4, h12, h11, hi, wrapQ (show P ≤ 4611686018427387904 by omega)]
  refine ⟨_, fun _ => (in11_c _ _ _).q rfl, ?_⟩
  simp only [go_sem, h0, h1, h2, h3, h4, h12, h11, hi, wrapQ (show P ≤ 4611686018427387904 by omega)]
  refine acond_join (fun ρ' H' => ρ' 0 = int P ∧ ρ' 1 = int d ∧ ρ' 2 = int T ∧ ρ' 3 = .sl (l.map encOrder) ∧ ρ' 4 = int k ∧ ρ' 12 = .op i 0 0 ∧ H' i = some (orderRow o) ∧ ∃ j', ρ' 11 = .os j' ∧ j' ≠ i ∧ H' j' = some (errRow (es3 ++ opt (!inR o.pick.place (-1) ((P : Int) - 1) || !inR o.drop.place (-1) ((P : Int) - 1)) 11))) ?_ fun K hK => acond_i (fun hb => ?_) (fun hb => ?_)
  rotate_left
  · simp only [go_sem, h0, h1, h2, h3, h4, h12, h11]
    refine wappE_i hH ⟨rfl, rfl⟩ (by simp only [go_sem]) (by simp only [List.length_map, List.length_cons, List.length_nil]; omega) (fun j' hj' => ?_)
    simp only [go_sem]
    refine hK _ _ ⟨by simp only [go_sem, h0], by simp only [go_sem, h1], by simp only [go_sem, h2], by simp only [go_sem, h3], by simp only [go_sem, h4], by simp only [go_sem, h12], keep_app hi hji hj', j', by simp only [go_sem], (ne_new hi hj').symm, ?_⟩
    rw [opt_t (show (!inR o.pick.place (-1) ((P : Int) - 1) || !inR o.drop.place (-1) ((P : Int) - 1)) = true from hb)]
    exact row_appI (l' := [11]) rfl
  · simp only [go_sem]
    refine hK _ _ ⟨by simp only [go_sem, h0], by simp only [go_sem, h1], by simp only [go_sem, h2], by simp only [go_sem, h3], by simp only [go_sem, h4], by simp only [go_sem, h12], hi, j, by simp only [go_sem, h11], hji, ?_⟩
    rw [opt_f (show (!inR o.pick.place (-1) ((P : Int) - 1) || !inR o.drop.place (-1) ((P : Int) - 1)) = false from hb), List.append_nil, hH]
  clear hH h0 h1 h2 h3 h4 h12 h11
  rintro ρ H ⟨h0, h1, h2, h3, h4, h12, hi, j, h11, hji, hH⟩
  generalize hes4 : es3 ++ opt (!inR o.pick.place (-1) ((P : Int) - 1) || !inR o.drop.place (-1) ((P : Int) - 1)) (11 : Int) = es4 at hH
  have hln4 : es4.length ≤ es3.length + 1 := by rw [← hes4, List.length_append]; have := opt_len (!inR o.pick.place (-1) ((P : Int) - 1) || !inR o.drop.place (-1) ((P : Int) - 1)) (11 : Int); omega
  simp only [go_sem, h0, h1, h2, h3, h4, h12, h11, hi]
  refine acond_join (fun ρ' H' => ρ' 0 = int P ∧ ρ' 1 = int d ∧ ρ' 2 = int T ∧ ρ' 3 = .sl (l.map encOrder) ∧ ρ' 4 = int k ∧ ρ' 12 = .op i 0 0 ∧ H' i = some (orderRow o) ∧ ∃ j', ρ' 11 = .os j' ∧ j' ≠ i ∧ H' j' = some (errRow (es4 ++ opt (o.pick.place == -1 && o.drop.place == -1) 19))) ?_ fun K hK => acond_i (fun hb => ?_) (fun hb => ?_)
  rotate_left
  · simp only [go_sem, h0, h1, h2, h3, h4, h12, h11]
    refine wappE_i hH ⟨rfl, rfl⟩ (by simp only [go_sem]) (by simp only [List.length_map, List.length_cons, List.length_nil]; omega) (fun j' hj' => ?_)
    simp only [go_sem]
    refine hK _ _ ⟨by simp only [go_sem, h0], by simp only [go_sem, h1], by simp only [go_sem, h2], by simp only [go_sem, h3], by simp only [go_sem, h4], by simp only [go_sem, h12], keep_app hi hji hj', j', by simp only [go_sem], (ne_new hi hj').symm, ?_⟩
    rw [opt_t (show (o.pick.place == -1 && o.drop.place == -1) = true from hb)]
    exact row_appI (l' := [19]) rfl
  · simp only [go_sem]
    refine hK _ _ ⟨by simp only [go_sem, h0], by simp only [go_sem, h1], by simp only [go_sem, h2], by simp only [go_sem, h3], by simp only [go_sem, h4], by simp only [go_sem, h12], hi, j, by simp only [go_sem, h11], hji, ?_⟩
    rw [opt_f (show (o.pick.place == -1 && o.drop.place == -1) = false from hb), List.append_nil, hH]
  clear hH h0 h1 h2 h3 h4 h12 h11
  rintro ρ H ⟨h0, h1, h2, h3, h4, h12, hi, j, h11, hji, hH⟩
  generalize hes5 : es4 ++ opt (o.pick.place == -1 && o.drop.place == -1) (19 : Int) = es5 at hH
  have hln5 : es5.length ≤ es4.length + 1 := by rw [← hes5, List.length_append]; have := opt_len (o.pick.place == -1 && o.drop.place == -1) (19 : Int); omega
  simp only [go_sem, h0, h1, h2, h3, h4, h12, h11, hi]
  refine PC.use (window_c _) ?_
  simp only [go_sem, h0, h1, h2, h3, h4, h12, h11, hi]
  refine ⟨_, fun _ => (window_c _).q rfl, ?_⟩
  simp only [go_sem, h0, h1, h2, h3, h4, h12, h11, hi]
  refine acond_join (fun ρ' H' => ρ' 0 = int P ∧ ρ' 1 = int d ∧ ρ' 2 = int T ∧ ρ' 3 = .sl (l.map encOrder) ∧ ρ' 4 = int k ∧ ρ' 12 = .op i 0 0 ∧ H' i = some (orderRow o) ∧ ∃ j', ρ' 11 = .os j' ∧ j' ≠ i ∧ H' j' = some (errRow (es5 ++ opt (windowR o.pick != 0 || windowR o.drop != 0) 14))) ?_ fun K hK => acond_i (fun hb => ?_) (fun hb => ?_)
  rotate_left
  · simp only [go_sem, h0, h1, h2, h3, h4, h12, h11]
    refine wappE_i hH ⟨rfl, rfl⟩ (by simp only [go_sem]) (by simp only [List.length_map, List.length_cons, List.length_nil]; omega) (fun j' hj' => ?_)
    simp only [go_sem]
    refine hK _ _ ⟨by simp only [go_sem, h0], by simp only [go_sem, h1], by simp only [go_sem, h2], by simp only [go_sem, h3], by simp only [go_sem, h4], by simp only [go_sem, h12], keep_app hi hji hj', j', by simp only [go_sem], (ne_new hi hj').symm, ?_⟩
    rw [opt_t (show (windowR o.pick != 0 || windowR o.drop != 0) = true from hb)]
    exact row_appI (l' := [14]) rfl
  · simp only [go_sem]
    refine hK _ _ ⟨by simp only [go_sem, h0], by simp only [go_sem, h1], by simp only [go_sem, h2], by simp only [go_sem, h3], by simp only [go_sem, h4], by simp only [go_sem, h12], hi, j, by simp only [go_sem, h11], hji, ?_⟩
    rw [opt_f (show (windowR o.pick != 0 || windowR o.drop != 0) = false from hb), List.append_nil, hH]
  clear hH h0 h1 h2 h3 h4 h12 h11
  rintro ρ H ⟨h0, h1, h2, h3, h4, h12, hi, j, h11, hji, hH⟩
  generalize hes6 : es5 ++ opt (windowR o.pick != 0 || windowR o.drop != 0) (14 : Int) = es6 at hH
  have hln6 : es6.length ≤ es5.length + 1 := by rw [← hes6, List.length_append]; have := opt_len (windowR o.pick != 0 || windowR o.drop != 0) (14 : Int); omega
  simp only [go_sem, h0, h1, h2, h3, h4, h12, h11, hi]
  refine PC.use (in11_c _ _ _) ?_
  simp only [go_sem, h0, h1, h2, h3, h4, h12, h11, hi, wrapQ (show P ≤ 4611686018427387904 by omega)]
  refine acond_join (fun ρ' H' => ρ' 0 = int P ∧ ρ' 1 = int d ∧ ρ' 2 = int T ∧ ρ' 3 = .sl (l.map encOrder) ∧ ρ' 4 = int k ∧ ρ' 12 = .op i 0 0 ∧ H' i = some (orderRow o) ∧ ∃ j', ρ' 11 = .os j' ∧ j' ≠ i ∧ H' j' = some (errRow (es6 ++ opt (!inR o.skills 0 1073741823) 18))) ?_ fun K hK => acond_i (fun hb => ?_) (fun hb => ?_)
  rotate_left
  · simp only [go_sem, h0, h1, h2, h3, h4, h12, h11]
    refine wappE_i hH ⟨rfl, rfl⟩ (by simp only [go_sem]) (by simp only [List.length_map, List.length_cons, List.length_nil]; omega) (fun j' hj' => ?_)
    simp only [go_sem]
    refine hK _ _ ⟨by simp only [go_sem, h0], by simp only [go_sem, h1], by simp only [go_sem, h2], by simp only [go_sem, h3], by simp only [go_sem, h4], by simp only [go_sem, h12], keep_app hi hji hj', j', by simp only [go_sem], (ne_new hi hj').symm, ?_⟩
    rw [opt_t (show (!inR o.skills 0 1073741823) = true from hb)]
    exact row_appI (l' := [18]) rfl
  · simp only [go_sem]
    refine hK _ _ ⟨by simp only [go_sem, h0], by simp only [go_sem, h1], by simp only [go_sem, h2], by simp only [go_sem, h3], by simp only [go_sem, h4], by simp only [go_sem, h12], hi, j, by simp only [go_sem, h11], hji, ?_⟩
    rw [opt_f (show (!inR o.skills 0 1073741823) = false from hb), List.append_nil, hH]
  clear hH h0 h1 h2 h3 h4 h12 h11
  rintro ρ H ⟨h0, h1, h2, h3, h4, h12, hi, j, h11, hji, hH⟩
  generalize hes7 : es6 ++ opt (!inR o.skills 0 1073741823) (18 : Int) = es7 at hH
  have hln7 : es7.length ≤ es6.length + 1 := by rw [← hes7, List.length_append]; have := opt_len (!inR o.skills 0 1073741823) (18 : Int); omega
  simp only [go_sem, h0, h1, h2, h3, h4, h12, h11, hi]
  refine PC.use (in11_c _ _ _) ?_
  simp only [go_sem, h0, h1, h2, h3, h4, h12, h11, hi, wrapQ (show P ≤ 4611686018427387904 by omega)]
  refine ⟨_, fun _ => (in11_c _ _ _).q rfl, ?_⟩
  simp only [go_sem, h0, h1, h2, h3, h4, h12, h11, hi, wrapQ (show P ≤ 4611686018427387904 by omega)]
  refine acond_join (fun ρ' H' => ρ' 0 = int P ∧ ρ' 1 = int d ∧ ρ' 2 = int T ∧ ρ' 3 = .sl (l.map encOrder) ∧ ρ' 4 = int k ∧ ρ' 12 = .op i 0 0 ∧ H' i = some (orderRow o) ∧ ∃ j', ρ' 11 = .os j' ∧ j' ≠ i ∧ H' j' = some (errRow (es7 ++ opt (!inR o.penalty (-1) 1000000 || !inR o.split 1 4 || decide (o.split > 1) && (o.pick.place != -1 && o.drop.place != -1) || decide (o.last < -1) || decide (o.last ≥ T) || decide (o.now < -1) || decide (o.now ≥ T)) 2))) ?_ fun K hK => acond_i (fun hb => ?_) (fun hb => ?_)
  rotate_left
  · simp only [go_sem, h0, h1, h2, h3, h4, h12, h11]
    refine wappE_i hH ⟨rfl, rfl⟩ (by simp only [go_sem]) (by simp only [List.length_map, List.length_cons, List.length_nil]; omega) (fun j' hj' => ?_)
    simp only [go_sem]
    refine hK _ _ ⟨by simp only [go_sem, h0], by simp only [go_sem, h1], by simp only [go_sem, h2], by simp only [go_sem, h3], by simp only [go_sem, h4], by simp only [go_sem, h12], keep_app hi hji hj', j', by simp only [go_sem], (ne_new hi hj').symm, ?_⟩
    rw [opt_t (show (!inR o.penalty (-1) 1000000 || !inR o.split 1 4 || decide (o.split > 1) && (o.pick.place != -1 && o.drop.place != -1) || decide (o.last < -1) || decide (o.last ≥ T) || decide (o.now < -1) || decide (o.now ≥ T)) = true from hb)]
    exact row_appI (l' := [2]) rfl
  · simp only [go_sem]
    refine hK _ _ ⟨by simp only [go_sem, h0], by simp only [go_sem, h1], by simp only [go_sem, h2], by simp only [go_sem, h3], by simp only [go_sem, h4], by simp only [go_sem, h12], hi, j, by simp only [go_sem, h11], hji, ?_⟩
    rw [opt_f (show (!inR o.penalty (-1) 1000000 || !inR o.split 1 4 || decide (o.split > 1) && (o.pick.place != -1 && o.drop.place != -1) || decide (o.last < -1) || decide (o.last ≥ T) || decide (o.now < -1) || decide (o.now ≥ T)) = false from hb), List.append_nil, hH]
  clear hH h0 h1 h2 h3 h4 h12 h11
  rintro ρ H ⟨h0, h1, h2, h3, h4, h12, hi, j, h11, hji, hH⟩
  generalize hes8 : es7 ++ opt (!inR o.penalty (-1) 1000000 || !inR o.split 1 4 || decide (o.split > 1) && (o.pick.place != -1 && o.drop.place != -1) || decide (o.last < -1) || decide (o.last ≥ T) || decide (o.now < -1) || decide (o.now ≥ T)) (2 : Int) = es8 at hH
  have hln8 : es8.length ≤ es7.length + 1 := by rw [← hes8, List.length_append]; have := opt_len (!inR o.penalty (-1) 1000000 || !inR o.split 1 4 || decide (o.split > 1) && (o.pick.place != -1 && o.drop.place != -1) || decide (o.last < -1) || decide (o.last ≥ T) || decide (o.now < -1) || decide (o.now ≥ T)) (2 : Int); omega
  simp only [go_sem, h0, h1, h2, h3, h4, h12, h11, hi]
  have hall : orderErrs P d T l k o = es8 := by unfold orderErrs; rw [hes0, hes1, hes2, hes3, hes4, hes5, hes6, hes7, hes8]
  rw [hall]
  exact .row _ _ _ hH (ConvE.refl _)
def underF (w : ByteArray) (f : Fault) : Fault := ⟨f.err, match f.at_.toList == (⟨#[]⟩ : ByteArray).toList with | true => w | false => w ++ ⟨#[32]⟩ ++ f.at_⟩
theorem under_c (w : ByteArray) (l : List Fault) (hw : w.size ≤ 1048576) (hl : l.length ≤ 5000000000000) (hs : ∀ f ∈ l, f.at_.size ≤ 268435456) :
    NC Tryz.prog 65 [str w, .sl (l.map encFault)] (faultRow (l.map (underF w))) .os := by
  refine NC.body (c := Tryz.f65.body.getD .skip) (fun t => t == 5) mixed Tryz.func65 rfl (by kernel_rfl) ?_
  unfold Tryz.f65
  simp only [Option.getD_some]
  simp only [go_sem]
  refine anew_i fun j hj => ?_
  simp only [go_sem]
  refine ⟨fun ρ H => ∃ k : Nat, k ≤ l.length ∧ ρ 0 = str w ∧ ρ 1 = .sl (l.map encFault) ∧ ρ 6 = int k ∧ ∃ j, ρ 5 = .os j ∧ H j = some (faultRow ((l.take k).map (underF w))), fun ρ _ => l.length - natOf (ρ 6), ⟨0, Nat.zero_le _, rfl, rfl, rfl, j, rfl, updH_same _ _ _⟩, ?_⟩
  clear hj
  rintro ρ H ⟨k, hk, h0, h1, h6, j, h5, hH⟩
  simp only [go_sem, h0, h1, h6, h5]
  refine acond_i (fun hlt => ?_) (fun hge => ?_)
  · have hlt := le_of_lt_b hlt
    obtain ⟨f, hf⟩ := getIn hlt
    have b1 := inB hlt
    have hfs := hs f (mem_of_get hf)
    simp only [go_sem, h0, h1, h6, b1, getD_map hf]
    refine acond_join (fun ρ' H' => ρ' 0 = str w ∧ ρ' 1 = .sl (l.map encFault) ∧ ρ' 6 = int k ∧ ρ' 5 = .os j ∧ ρ' 7 = str (underF w f).at_ ∧ H' = H) ?_ fun K hK => acond_i (fun hb => ?_) (fun hb => ?_)
    · clear h0 h1 h6 h5
      rintro ρ H ⟨h0, h1, h6, h5, h7, rfl⟩
      simp only [go_sem, h0, h1, h6, h5, h7, b1, getD_map hf]
      refine wappE_i hH ⟨rfl, rfl⟩ (by simp only [go_sem]) (by simp only [List.length_map, List.length_take, List.length_cons, List.length_nil]; omega) (fun j' hj' => ?_)
      simp only [go_sem, h0, h1, h6, wrapS (show k ≤ 4611686018427387904 by omega)]
      refine ⟨⟨k + 1, hlt, rfl, j', rfl, ?_⟩, by simp only [natOf_int]; omega⟩
      rw [map_succ hf]
      exact row_app (l' := [underF w f]) rfl
    · simp only [go_sem, h0, h1, h6, b1, getD_map hf]
      have h32 : (#[32] : Array UInt8).size = 1 := rfl
      refine ⟨by rw [i64max]; omega, by rw [i64max]; omega, hK _ _ ⟨by simp only [go_sem, h0], by simp only [go_sem, h1], by simp only [go_sem, h6], by simp only [go_sem, h5], ?_, rfl⟩⟩
      have hc : (f.at_.toList == (⟨#[]⟩ : ByteArray).toList) = false := by have := hb; revert this; cases (f.at_.toList == (⟨#[]⟩ : ByteArray).toList) <;> simp
      simp only [go_sem, underF, hc]
    · simp only [go_sem]
      refine hK _ _ ⟨by simp only [go_sem, h0], by simp only [go_sem, h1], by simp only [go_sem, h6], by simp only [go_sem, h5], ?_, rfl⟩
      have hc : (f.at_.toList == (⟨#[]⟩ : ByteArray).toList) = true := by have := hb; revert this; cases (f.at_.toList == (⟨#[]⟩ : ByteArray).toList) <;> simp
      simp only [go_sem, underF, hc]
  · have hge := eq_of_ge_b hk hge
    subst hge
    simp only [go_sem, h5]
    exact ⟨_, rfl, by rw [hH, List.take_length]⟩
def orAt (l : List Order) (i : Nat) : Order := l.getD i ⟨ByteArray.empty, [], ⟨0, 0, 0, 0⟩, ⟨0, 0, 0, 0⟩, 0, 0, 0, 0, 0, false⟩
theorem orAt_get {l : List Order} {k : Nat} {p : Order} (h : l[k]? = some p) : orAt l k = p := by simp [orAt, List.getD, h]
def orderFaults (n : Network) (d T : Int) (l : List Order) (k : Nat) : List Fault := (orderErrs n.places.length d T l k (orAt l k)).map fun e => ⟨e, decN k⟩
def ordersR (n : Network) (d T : Int) (l : List Order) : List Fault := opt (decide ((l.length : Int) > 10)) ⟨4, ByteArray.empty⟩ ++ (List.range l.length).flatMap (orderFaults n d T l)
theorem orderErrs_len (P : Nat) (d T : Int) (l : List Order) (k : Nat) (o : Order) : (orderErrs P d T l k o).length ≤ 9 := by
  unfold orderErrs
  simp only [List.length_append, List.length_nil]
  have h := fun (b : Bool) (x : Int) => opt_len b x
  have h1 := h (!nameR o.name) 5
  have h2 := h (knownO l k o.name) 6
  have h3 := h (!rightL o.load d) 17
  have h4 := h (!inR o.pick.place (-1) ((P : Int) - 1) || !inR o.drop.place (-1) ((P : Int) - 1)) 11
  have h5 := h (o.pick.place == -1 && o.drop.place == -1) 19
  have h6 := h (windowR o.pick != 0 || windowR o.drop != 0) 14
  have h7 := h (!inR o.skills 0 1073741823) 18
  have h8 := h (!inR o.penalty (-1) 1000000 || !inR o.split 1 4 || decide (o.split > 1) && (o.pick.place != -1 && o.drop.place != -1) || decide (o.last < -1) || decide (o.last ≥ T) || decide (o.now < -1) || decide (o.now ≥ T)) 2
  omega
theorem orders_c (n : Network) (d T : Int) (l : List Order) (hl : l.length ≤ 1048576) (hs : ∀ t ∈ l, t.name.size ≤ 1048576 ∧ t.load.length ≤ 1048576) (hp : n.places.length ≤ 1048576) :
    NC Tryz.prog 68 [.agg (encNetwork n), int d, int T, .sl (l.map encOrder)] (faultRow (ordersR n d T l)) .os := by
  refine NC.body (c := Tryz.f68.body.getD .skip) (fun t => t == 9) mixed Tryz.func68 rfl (by kernel_rfl) ?_
  unfold Tryz.f68
  simp only [Option.getD_some]
  simp only [go_sem]
  refine anew_i fun j hj => ?_
  simp only [go_sem]
  refine acond_cut (fun ρ' H' => ρ' 1 = int d ∧ ρ' 2 = int T ∧ ρ' 3 = .sl (l.map encOrder) ∧ ρ' 4 = .rp (encNetwork n) 0 ∧ ∃ j', ρ' 9 = .os j' ∧ H' j' = some (faultRow [])) ⟨by simp only [go_sem], by simp only [go_sem], by simp only [go_sem], by simp only [go_sem], _, by simp only [go_sem], updH_same _ _ _⟩ ?_
  rintro ρ H ⟨h1, h2, h3, h4, j, h9, hH⟩
  generalize hes0 : ([] : List Fault) = es0 at hH
  have hln0 : es0.length ≤ 0 := by rw [← hes0]; exact Nat.le_refl _
  refine acond_join (fun ρ' H' => ρ' 1 = int d ∧ ρ' 2 = int T ∧ ρ' 3 = .sl (l.map encOrder) ∧ ρ' 4 = .rp (encNetwork n) 0 ∧ ∃ j', ρ' 9 = .os j' ∧ H' j' = some (faultRow (es0 ++ opt (decide ((l.length : Int) > 10)) ⟨4, ByteArray.empty⟩))) ?_ fun K hK => acond_i (fun hb => ?_) (fun hb => ?_)
  rotate_left
  · simp only [go_sem, h1, h2, h3, h4, h9]
    refine wappE_i hH ⟨rfl, rfl⟩ (by simp only [go_sem]) (by simp only [List.length_map, List.length_cons, List.length_nil]; omega) (fun j' hj' => ?_)
    simp only [go_sem]
    refine hK _ _ ⟨by simp only [go_sem, h1], by simp only [go_sem, h2], by simp only [go_sem, h3], by simp only [go_sem, h4], j', by simp only [go_sem], ?_⟩
    rw [opt_t (show (decide ((l.length : Int) > 10)) = true from hb)]
    exact row_app (l' := [⟨4, ByteArray.empty⟩]) rfl
  · simp only [go_sem]
    refine hK _ _ ⟨by simp only [go_sem, h1], by simp only [go_sem, h2], by simp only [go_sem, h3], by simp only [go_sem, h4], j, by simp only [go_sem, h9], ?_⟩
    rw [opt_f (show (decide ((l.length : Int) > 10)) = false from hb), List.append_nil, hH]
  clear hH h1 h2 h3 h4 h9
  rintro ρ H ⟨h1, h2, h3, h4, j, h9, hH⟩
  generalize hes1 : es0 ++ opt (decide ((l.length : Int) > 10)) (⟨4, ByteArray.empty⟩ : Fault) = es1 at hH
  have hln1 : es1.length ≤ es0.length + 1 := by rw [← hes1, List.length_append]; have := opt_len (decide ((l.length : Int) > 10)) (⟨4, ByteArray.empty⟩ : Fault); omega
  simp only [go_sem, h1, h2, h3, h4]
  refine ⟨fun ρ H => ∃ k : Nat, k ≤ l.length ∧ ρ 1 = int d ∧ ρ 2 = int T ∧ ρ 3 = .sl (l.map encOrder) ∧ ρ 4 = .rp (encNetwork n) 0 ∧ ρ 10 = int k ∧ ∃ j, ρ 9 = .os j ∧ H j = some (faultRow (es1 ++ (List.range k).flatMap (orderFaults n d T l))), fun ρ _ => l.length - natOf (ρ 10), ⟨0, Nat.zero_le _, by simp only [go_sem, h1], by simp only [go_sem, h2], by simp only [go_sem, h3], by simp only [go_sem, h4], by simp only [go_sem]; rfl, j, by simp only [go_sem, h9], by simpa using hH⟩, ?_⟩
  clear hH h1 h2 h3 h4 h9 hj
  rintro ρ H ⟨k, hk, h1, h2, h3, h4, h10, j, h9, hH⟩
  generalize hes : es1 ++ (List.range k).flatMap (orderFaults n d T l) = es at hH
  have hlen : es.length ≤ 9 * k + 1 := by
    have := flat_len_le (f := orderFaults n d T l) (c := 9) (fun x => by unfold orderFaults; rw [List.length_map]; exact orderErrs_len _ _ _ _ _ _) (List.range k)
    rw [← hes, List.length_append]; rw [List.length_range] at this; omega
  simp only [go_sem, h1, h2, h3, h4, h10, h9]
  refine acond_i (fun hlt => ?_) (fun hge => ?_)
  · have hlt := le_of_lt_b hlt
    have hkk : k ≤ 4611686018427387904 := by omega
    have hfl : es1 ++ (List.range (k + 1)).flatMap (orderFaults n d T l) = es ++ orderFaults n d T l k := by rw [flat_range_succ, ← List.append_assoc, hes]
    simp only [go_sem, h1, h2, h3, h4, h10]
    obtain ⟨o, ho⟩ := getIn hlt
    rw [← orAt_get ho] at ho
    refine PC.use (orules_c n.places.length d T l k _ ho hp hl hs) ?_
    simp only [go_sem]
    have hel := orderErrs_len n.places.length d T l k (orAt l k)
    have htf : orderFaults n d T l k = (orderErrs n.places.length d T l k (orAt l k)).map fun e => ⟨e, decN k⟩ := rfl
    generalize orderErrs n.places.length d T l k (orAt l k) = er at hel htf
    refine ⟨fun ρ H => ∃ m : Nat, m ≤ er.length ∧ ρ 1 = int d ∧ ρ 2 = int T ∧ ρ 3 = .sl (l.map encOrder) ∧ ρ 4 = .rp (encNetwork n) 0 ∧ ρ 10 = int k ∧ ρ 11 = .sl (er.map encInt) ∧ ρ 12 = int m ∧ ∃ j, ρ 9 = .os j ∧ H j = some (faultRow (es ++ (er.take m).map fun e => ⟨e, decN k⟩)), fun ρ _ => er.length - natOf (ρ 12), ⟨0, Nat.zero_le _, by simp only [go_sem, h1], by simp only [go_sem, h2], by simp only [go_sem, h3], by simp only [go_sem, h4], by simp only [go_sem, h10], by simp only [go_sem], by simp only [go_sem]; rfl, j, by simp only [go_sem, h9], by simpa using hH⟩, ?_⟩
    clear hH h1 h2 h3 h4 h9 h10
    rintro ρ H ⟨m, hm, h1, h2, h3, h4, h10, h11, h12, j, h9, hH⟩
    simp only [go_sem, h1, h2, h3, h4, h10, h9, h11, h12]
    refine acond_i (fun hlt2 => ?_) (fun hge2 => ?_)
    · have hlt2 := le_of_lt_b hlt2
      obtain ⟨e, he⟩ := getIn hlt2
      have b2 := inB hlt2
      simp only [go_sem]
      refine adraw_h (by kernel_rfl) ?_
      simp only [go_sem, h1, h2, h3, h4, h10, h9, h11, h12, b2, getD_map he]
      refine ⟨_, (Decimal_c _ (by omega)).q rfl, ?_⟩
      simp only [go_sem]
      refine wappE_i hH ⟨rfl, rfl⟩ (by simp only [go_sem]) (by simp only [List.length_map, List.length_append, List.length_take, List.length_cons, List.length_nil]; omega) (fun j' hj' => ?_)
      simp only [go_sem, h1, h2, h3, h4, h10, h11, h12, wrapS (show m ≤ 4611686018427387904 by omega)]
      refine ⟨⟨m + 1, hlt2, rfl, j', rfl, ?_⟩, by simp only [natOf_int]; omega⟩
      rw [map_succ he, ← List.append_assoc]
      exact row_app (l' := [⟨e, decN k⟩]) rfl
    · have hge2 := eq_of_ge_b hm hge2
      subst hge2
      simp only [go_sem, h1, h2, h3, h4, h10, h9, wrapS hkk]
      refine ⟨⟨k + 1, hlt, rfl, j, rfl, ?_⟩, by simp only [natOf_int]; omega⟩
      rw [hfl, hH, htf, List.take_length]
  · have hge := eq_of_ge_b hk hge
    subst hge
    simp only [go_sem, h9]
    exact ⟨_, rfl, by rw [hH, ← hes, ← hes1, ← hes0]; rfl⟩
end Go.Proofs.YtjohkkigiacbjaaGreatDoor
