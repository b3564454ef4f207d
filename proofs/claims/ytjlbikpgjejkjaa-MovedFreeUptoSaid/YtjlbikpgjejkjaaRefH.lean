/- lorryref11.Check -/
import Derived.Test.YtjlbikpgjejkjaaRefF
set_option linter.unusedSimpArgs false
set_option linter.unusedVariables false
namespace Go.Proofs.Ytjlbikpgjejkjaa
open Go.Aw Go.Aw.D Go.Proofs Ty
set_option maxRecDepth 100000

def orAt (l : List Order) (i : Nat) : Order := l.getD i ⟨ByteArray.empty, [], ⟨0, 0, 0, 0⟩, ⟨0, 0, 0, 0⟩, 0, 0, 0, 0, 0, false⟩
theorem orAt_get {l : List Order} {k : Nat} {p : Order} (h : l[k]? = some p) : orAt l k = p := by simp [orAt, List.getD, h]
def orderFaults (n : Network) (d T : Int) (l : List Order) (k : Nat) : List Fault := (orderErrs n.places.length d T l k (orAt l k)).map fun e => ⟨e, decN k⟩
def ordersR (n : Network) (d T : Int) (l : List Order) : List Fault := opt (decide ((l.length : Int) > 10)) ⟨4, ByteArray.empty⟩ ++ (List.range l.length).flatMap (orderFaults n d T l)
theorem orderErrs_len (P : Nat) (d T : Int) (l : List Order) (k : Nat) (o : Order) : (orderErrs P d T l k o).length ≤ 9 := by
  unfold orderErrs
  simp only [List.length_append, List.length_nil]
  have h := fun (b : Bool) (x : Int) => opt_len b x
  have h1 := h (!nameR o.name) 5
  have h2 := h (knownO l k o.name) 6
  have h3 := h (!rightR o.load d) 17
  have h4 := h (!inR o.pick.place (-1) ((P : Int) - 1) || !inR o.drop.place (-1) ((P : Int) - 1)) 11
  have h5 := h (o.pick.place == -1 && o.drop.place == -1) 19
  have h6 := h (windowR o.pick != 0 || windowR o.drop != 0) 14
  have h7 := h (!inR o.skills 0 1073741823) 18
  have h8 := h (!inR o.penalty (-1) 1000000 || !inR o.split 1 4 || decide (o.split > 1) && (o.pick.place != -1 && o.drop.place != -1) || decide (o.last < -1) || decide (o.last ≥ T) || decide (o.now < -1) || decide (o.now ≥ T)) 2
  omega
theorem orders_c (n : Network) (d T : Int) (l : List Order) (hl : l.length ≤ 1048576) (hs : ∀ t ∈ l, t.name.size ≤ 1048576 ∧ t.load.length ≤ 1048576) (hp : n.places.length ≤ 1048576) :
    NC Try.prog 44 [.agg (encNetwork n), int d, int T, .sl (l.map encOrder)] (faultRow (ordersR n d T l)) .os := by
  refine NC.body (c := Try.f44.body.getD .skip) (fun t => t == 9) mixed Try.func44 rfl (by kernel_rfl) ?_
  unfold Try.f44
  simp only [Option.getD_some]
  simp only [go_sem]
  refine anew_i fun j hj => ?_
  simp only [go_sem]
  refine acond_cut (fun ρ' H' => ρ' 1 = int d ∧ ρ' 2 = int T ∧ ρ' 3 = .sl (l.map encOrder) ∧ ρ' 4 = .rp (encNetwork n) 0 ∧ ∃ j', ρ' 9 = .os j' ∧ H' j' = some (faultRow [])) ⟨by simp only [go_sem], by simp only [go_sem], by simp only [go_sem], by simp only [go_sem], _, by simp only [go_sem], updH_same _ _ _⟩ ?_
  rintro ρ H ⟨h1, h2, h3, h4, j, h9, hH⟩
  generalize hes0 : ([] : List Fault) = es0 at hH
  have hln0 : es0.length ≤ 0 := by rw [← hes0]; exact Nat.le_refl _
  refine acond_join (fun ρ' H' => ρ' 1 = int d ∧ ρ' 2 = int T ∧ ρ' 3 = .sl (l.map encOrder) ∧ ρ' 4 = .rp (encNetwork n) 0 ∧ ∃ j', ρ' 9 = .os j' ∧ H' j' = some (faultRow (es0 ++ opt (decide ((l.length : Int) > 10)) ⟨4, ByteArray.empty⟩))) ?_ fun K hK => acond_i (fun hb => ?_) (fun hb => ?_)
  rotate_left
  · simp only [go_sem, h1, h2, h3, h4, h9]
    refine wappE_i hH ⟨rfl, rfl⟩ (by simp only [go_sem]) (by simp only [List.length_map, List.length_cons, List.length_nil]; omega) (fun j' hj' => ?_)
    simp only [go_sem]
    refine hK _ _ ⟨by simp only [go_sem, h1], by simp only [go_sem, h2], by simp only [go_sem, h3], by simp only [go_sem, h4], j', by simp only [go_sem], ?_⟩
    rw [opt_t (show (decide ((l.length : Int) > 10)) = true from hb)]
    exact row_app (l' := [⟨4, ByteArray.empty⟩]) rfl
  · simp only [go_sem]
    refine hK _ _ ⟨by simp only [go_sem, h1], by simp only [go_sem, h2], by simp only [go_sem, h3], by simp only [go_sem, h4], j, by simp only [go_sem, h9], ?_⟩
    rw [opt_f (show (decide ((l.length : Int) > 10)) = false from hb), List.append_nil, hH]
  clear hH h1 h2 h3 h4 h9
  rintro ρ H ⟨h1, h2, h3, h4, j, h9, hH⟩
  generalize hes1 : es0 ++ opt (decide ((l.length : Int) > 10)) (⟨4, ByteArray.empty⟩ : Fault) = es1 at hH
  have hln1 : es1.length ≤ es0.length + 1 := by rw [← hes1, List.length_append]; have := opt_len (decide ((l.length : Int) > 10)) (⟨4, ByteArray.empty⟩ : Fault); omega
  simp only [go_sem, h1, h2, h3, h4]
  refine ⟨fun ρ H => ∃ k : Nat, k ≤ l.length ∧ ρ 1 = int d ∧ ρ 2 = int T ∧ ρ 3 = .sl (l.map encOrder) ∧ ρ 4 = .rp (encNetwork n) 0 ∧ ρ 10 = int k ∧ ∃ j, ρ 9 = .os j ∧ H j = some (faultRow (es1 ++ (List.range k).flatMap (orderFaults n d T l))), fun ρ _ => l.length - natOf (ρ 10), ⟨0, Nat.zero_le _, by simp only [go_sem, h1], by simp only [go_sem, h2], by simp only [go_sem, h3], by simp only [go_sem, h4], by simp only [go_sem]; rfl, j, by simp only [go_sem, h9], by simpa using hH⟩, ?_⟩
  clear hH h1 h2 h3 h4 h9 hj
  rintro ρ H ⟨k, hk, h1, h2, h3, h4, h10, j, h9, hH⟩
  generalize hes : es1 ++ (List.range k).flatMap (orderFaults n d T l) = es at hH
  have hlen : es.length ≤ 9 * k + 1 := by
    have := flat_len_le (f := orderFaults n d T l) (c := 9) (fun x => by unfold orderFaults; rw [List.length_map]; exact orderErrs_len _ _ _ _ _ _) (List.range k)
    rw [← hes, List.length_append]; rw [List.length_range] at this; omega
  simp only [go_sem, h1, h2, h3, h4, h10, h9]
  refine acond_i (fun hlt => ?_) (fun hge => ?_)
  · have hlt := le_of_lt_b hlt
    have hkk : k ≤ 4611686018427387904 := by omega
    have hfl : es1 ++ (List.range (k + 1)).flatMap (orderFaults n d T l) = es ++ orderFaults n d T l k := by rw [flat_range_succ, ← List.append_assoc, hes]
    simp only [go_sem, h1, h2, h3, h4, h10]
    obtain ⟨o, ho⟩ := getIn hlt
    rw [← orAt_get ho] at ho
    refine PC.use (orules_c n.places.length d T l k _ ho hp hl hs) ?_
    simp only [go_sem]
    have hel := orderErrs_len n.places.length d T l k (orAt l k)
    have htf : orderFaults n d T l k = (orderErrs n.places.length d T l k (orAt l k)).map fun e => ⟨e, decN k⟩ := rfl
    generalize orderErrs n.places.length d T l k (orAt l k) = er at hel htf
    refine ⟨fun ρ H => ∃ m : Nat, m ≤ er.length ∧ ρ 1 = int d ∧ ρ 2 = int T ∧ ρ 3 = .sl (l.map encOrder) ∧ ρ 4 = .rp (encNetwork n) 0 ∧ ρ 10 = int k ∧ ρ 11 = .sl (er.map encInt) ∧ ρ 12 = int m ∧ ∃ j, ρ 9 = .os j ∧ H j = some (faultRow (es ++ (er.take m).map fun e => ⟨e, decN k⟩)), fun ρ _ => er.length - natOf (ρ 12), ⟨0, Nat.zero_le _, by simp only [go_sem, h1], by simp only [go_sem, h2], by simp only [go_sem, h3], by simp only [go_sem, h4], by simp only [go_sem, h10], by simp only [go_sem], by simp only [go_sem]; rfl, j, by simp only [go_sem, h9], by simpa using hH⟩, ?_⟩
    clear hH h1 h2 h3 h4 h9 h10
    rintro ρ H ⟨m, hm, h1, h2, h3, h4, h10, h11, h12, j, h9, hH⟩
    simp only [go_sem, h1, h2, h3, h4, h10, h9, h11, h12]
    refine acond_i (fun hlt2 => ?_) (fun hge2 => ?_)
    · have hlt2 := le_of_lt_b hlt2
      obtain ⟨e, he⟩ := getIn hlt2
      have b2 := inB hlt2
      simp only [go_sem]
      refine adraw_h (by kernel_rfl) ?_
      simp only [go_sem, h1, h2, h3, h4, h10, h9, h11, h12, b2, getD_map he]
      refine ⟨_, (Decimal_c _ (by omega)).q rfl, ?_⟩
      simp only [go_sem]
      refine wappE_i hH ⟨rfl, rfl⟩ (by simp only [go_sem]) (by simp only [List.length_map, List.length_append, List.length_take, List.length_cons, List.length_nil]; omega) (fun j' hj' => ?_)
      simp only [go_sem, h1, h2, h3, h4, h10, h11, h12, wrapS (show m ≤ 4611686018427387904 by omega)]
      refine ⟨⟨m + 1, hlt2, rfl, j', rfl, ?_⟩, by simp only [natOf_int]; omega⟩
      rw [map_succ he, ← List.append_assoc]
      exact row_app (l' := [⟨e, decN k⟩]) rfl
    · have hge2 := eq_of_ge_b hm hge2
      subst hge2
      simp only [go_sem, h1, h2, h3, h4, h10, h9, wrapS hkk]
      refine ⟨⟨k + 1, hlt, rfl, j, rfl, ?_⟩, by simp only [natOf_int]; omega⟩
      rw [hfl, hH, htf, List.take_length]
  · have hge := eq_of_ge_b hk hge
    subst hge
    simp only [go_sem, h9]
    exact ⟨_, rfl, by rw [hH, ← hes, ← hes1, ← hes0]; rfl⟩
end Go.Proofs.Ytjlbikpgjejkjaa
