/- lorryref09.Check -/
import Derived.Test.YtjlbikpgjejkjaaRefJ
import Derived.Test.YtjlbikpgjejkjaaRefI
set_option linter.unusedSimpArgs false
set_option linter.unusedVariables false
namespace Go.Proofs.Ytjlbikpgjejkjaa
open Go.Aw Go.Aw.D Go.Proofs Ty
set_option maxRecDepth 100000

theorem arcR_len (n : Network) (k : Nat) (ht : (arcAt n.arcs k).travel.length ≤ 1048576) (hs : (arcAt n.arcs k).slow.length ≤ 1048576) : (arcR n k).length ≤ 3145740 := by
  have h1 := opt_len (badEnds n.places.length (arcAt n.arcs k)) (⟨11, arcS k⟩ : Fault)
  have h2 := opt_len (badArc (arcAt n.arcs k)) (⟨2, arcS k⟩ : Fault)
  have h3 := opt_len ((n.arcs.take k).any (sameArc (arcAt n.arcs k))) (⟨6, arcS k⟩ : Fault)
  have h4 := travelR_len (arcAt n.arcs k).travel
  have h5 := opt_len (decide (((arcAt n.arcs k).slow.length : Int) > 16)) (⟨4, arcS k⟩ : Fault)
  have h6 := flat_len_le (f := fun i => opt (badSlow (arcAt n.arcs k).slow i) (⟨2, arcS k⟩ : Fault)) (c := 1) (fun x => opt_len _ _) (List.range (arcAt n.arcs k).slow.length)
  rw [List.length_range] at h6
  simp only [arcR, List.length_append, List.length_map, List.length_nil]
  omega
theorem flat_len_in {α β : Type} {f : α → List β} {c : Nat} : ∀ l : List α, (∀ x ∈ l, (f x).length ≤ c) → (l.flatMap f).length ≤ c * l.length
  | [], _ => by simp
  | x :: r, h => by
    have h1 := h x (by simp)
    have h2 := flat_len_in r fun y hy => h y (by simp [hy])
    simp only [List.flatMap_cons, List.length_append, List.length_cons, Nat.mul_add, Nat.mul_one]
    omega
def netR (n : Network) : List Fault := placesR n.places ++ opt (decide ((n.arcs.length : Int) > 1024)) ⟨4, ⟨#[97, 114, 99, 115]⟩⟩ ++ (List.range n.arcs.length).flatMap (arcR n)
theorem placesR_len (l : List ByteArray) : (placesR l).length ≤ l.length + 1 := by
  have := flat_len_le (plf_len l) (List.range l.length)
  have h2 := opt_len (decide ((l.length : Int) > 24)) (⟨4, ⟨#[112, 108, 97, 99, 101, 115]⟩⟩ : Fault)
  rw [placesR, List.length_append]; rw [List.length_range] at this; omega
theorem net_c (n : Network) (hp : n.places.length ≤ 1048576) (hps : ∀ s ∈ n.places, s.size ≤ 1048576) (hl : n.arcs.length ≤ 1048576) (hs : ∀ a ∈ n.arcs, a.travel.length ≤ 1048576 ∧ a.slow.length ≤ 1048576) :
    NC Try.prog 42 [.agg (encNetwork n)] (faultRow (netR n)) .os := by
  have hal : ∀ k, (arcR n k).length ≤ 3145740 := fun k => by
    rcases Nat.lt_or_ge k n.arcs.length with h | h
    · obtain ⟨a, ha⟩ := getIn h
      have hm := hs a (mem_of_get ha)
      exact arcR_len n k (by rw [arcAt_get ha]; exact hm.1) (by rw [arcAt_get ha]; exact hm.2)
    · have : arcAt n.arcs k = ⟨0, 0, 0, 0, [], []⟩ := by simp [arcAt, List.getD, List.getElem?_eq_none h]
      exact arcR_len n k (by rw [this]; simp) (by rw [this]; simp)
  have hpl := placesR_len n.places
  refine NC.body (c := Try.f42.body.getD .skip) (fun t => t == 3) mixed Try.func42 rfl (by kernel_rfl) ?_
  unfold Try.f42
  simp only [Option.getD_some]
  simp only [go_sem]
  refine NC.use (places_c n hp hps) fun j hj => ?_
  simp only [go_sem]
  refine acond_cut (fun ρ' H' => ρ' 1 = .rp (encNetwork n) 0 ∧ ∃ j', ρ' 3 = .os j' ∧ H' j' = some (faultRow (placesR n.places))) ⟨by simp only [go_sem], j, by simp only [go_sem], updH_same _ _ _⟩ ?_
  clear hj
  rintro ρ H ⟨h1, j, h3, hH⟩
  generalize hes0 : placesR n.places = es0 at hH hpl
  refine acond_join (fun ρ' H' => ρ' 1 = .rp (encNetwork n) 0 ∧ ∃ j', ρ' 3 = .os j' ∧ H' j' = some (faultRow (es0 ++ opt (decide ((n.arcs.length : Int) > 1024)) ⟨4, ⟨#[97, 114, 99, 115]⟩⟩))) ?_ fun K hK => acond_i (fun hb => ?_) (fun hb => ?_)
  rotate_left
  · simp only [go_sem, h1, h3]
    refine wappE_i hH ⟨rfl, rfl⟩ (by simp only [go_sem]) (by simp only [List.length_map, List.length_cons, List.length_nil]; omega) (fun j' hj' => ?_)
    simp only [go_sem]
    refine hK _ _ ⟨by simp only [go_sem, h1], j', by simp only [go_sem], ?_⟩
    rw [opt_t (show (decide ((n.arcs.length : Int) > 1024)) = true from hb)]
    exact row_app (l' := [⟨4, ⟨#[97, 114, 99, 115]⟩⟩]) rfl
  · simp only [go_sem]
    refine hK _ _ ⟨by simp only [go_sem, h1], j, by simp only [go_sem, h3], ?_⟩
    rw [opt_f (show (decide ((n.arcs.length : Int) > 1024)) = false from hb), List.append_nil, hH]
  clear hH h1 h3
  rintro ρ H ⟨h1, j, h3, hH⟩
  generalize hes1 : es0 ++ opt (decide ((n.arcs.length : Int) > 1024)) (⟨4, ⟨#[97, 114, 99, 115]⟩⟩ : Fault) = es1 at hH
  have hln1 : es1.length ≤ es0.length + 1 := by rw [← hes1, List.length_append]; have := opt_len (decide ((n.arcs.length : Int) > 1024)) (⟨4, ⟨#[97, 114, 99, 115]⟩⟩ : Fault); omega
  simp only [go_sem, h1, h3]
  refine ⟨fun ρ H => ∃ k : Nat, k ≤ n.arcs.length ∧ ρ 1 = .rp (encNetwork n) 0 ∧ ρ 4 = int k ∧ ∃ j, ρ 3 = .os j ∧ H j = some (faultRow (es1 ++ (List.range k).flatMap (arcR n))), fun ρ _ => n.arcs.length - natOf (ρ 4), ⟨0, Nat.zero_le _, by simp only [go_sem, h1], by simp only [go_sem]; rfl, j, by simp only [go_sem, h3], by simpa using hH⟩, ?_⟩
  clear hH h1 h3
  rintro ρ H ⟨k, hk, h1, h4, j, h3, hH⟩
  generalize hes : es1 ++ (List.range k).flatMap (arcR n) = es at hH
  have hlen : es.length ≤ es1.length + 3145740 * k := by
    have := flat_len_le hal (List.range k)
    rw [← hes, List.length_append]; rw [List.length_range] at this; omega
  simp only [go_sem, h1, h3, h4]
  refine acond_i (fun hlt => ?_) (fun hge => ?_)
  · have hlt := le_of_lt_b hlt
    simp only [go_sem, h1, h3, h4]
    refine NC.use (arc_c n k hlt hp hl hs) fun i hi => ?_
    simp only [go_sem]
    have := hal k
    refine wappE_o (keep_new hH hi) (updH_same _ _ _) ⟨rfl, rfl⟩ (faults_all _) (by simp only [List.length_map]; omega) (fun j' hj' => ?_)
    simp only [go_sem, h1, h3, h4, wrapS (show k ≤ 4611686018427387904 by omega)]
    refine ⟨⟨k + 1, hlt, rfl, j', rfl, ?_⟩, by simp only [natOf_int]; omega⟩
    rw [flat_range_succ, ← List.append_assoc, hes]
    exact row_app rfl
  · have hge := eq_of_ge_b hk hge
    subst hge
    simp only [go_sem, h3]
    exact ⟨_, rfl, by rw [hH, ← hes, ← hes1, ← hes0]; rfl⟩
end Go.Proofs.Ytjlbikpgjejkjaa
