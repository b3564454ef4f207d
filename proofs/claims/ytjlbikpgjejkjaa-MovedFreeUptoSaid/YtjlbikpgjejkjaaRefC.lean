/- lorryref09.Check: the faults of a network. -/
import Derived.Test.YtjlbikpgjejkjaaRefB
set_option linter.unusedSimpArgs false
set_option linter.unusedVariables false
namespace Go.Proofs.Ytjlbikpgjejkjaa
open Go.Aw Go.Aw.D Go.Proofs Ty
set_option maxRecDepth 100000

def strAt (l : List ByteArray) (i : Nat) : ByteArray := l.getD i ByteArray.empty
theorem strAt_get {l : List ByteArray} {k : Nat} {p : ByteArray} (h : l[k]? = some p) : strAt l k = p := by simp [strAt, List.getD, h]
def placeS (i : Nat) : ByteArray := ⟨#[112, 108, 97, 99, 101, 32]⟩ ++ decN i
def sameBefore (l : List ByteArray) (i : Nat) : Bool := (l.take i).any fun s => s.toList == (strAt l i).toList
def placeFaults (l : List ByteArray) (i : Nat) : List Fault := match nameR (strAt l i) with
  | false => [⟨5, placeS i⟩]
  | true => opt (sameBefore l i) ⟨6, placeS i⟩
theorem plf_len (l : List ByteArray) (i : Nat) : (placeFaults l i).length ≤ 1 := by
  unfold placeFaults
  split
  · simp
  · exact opt_len _ _
def placesR (l : List ByteArray) : List Fault := opt (decide ((l.length : Int) > 24)) ⟨4, ⟨#[112, 108, 97, 99, 101, 115]⟩⟩ ++ (List.range l.length).flatMap (placeFaults l)
theorem any_succ {α : Type} {p : α → Bool} {l : List α} {k : Nat} {x : α} (h : l[k]? = some x) : (l.take (k + 1)).any p = ((l.take k).any p || p x) := by rw [take_succ h, List.any_append]; simp
theorem placeS_size (i : Nat) : (placeS i).size ≤ i + 7 := by
  have := decN_size i
  unfold placeS
  rw [ByteArray.size_append]
  have : (⟨#[112, 108, 97, 99, 101, 32]⟩ : ByteArray).size = 6 := rfl
  omega
theorem places_c (n : Network) (hl : n.places.length ≤ 1048576) (hs : ∀ s ∈ n.places, s.size ≤ 1048576) : NC Try.prog 75 [.agg (encNetwork n)] (faultRow (placesR n.places)) .os := by
  refine NC.body (c := Try.f75.body.getD .skip) (fun t => t == 3) mixed Try.func75 rfl (by kernel_rfl) ?_
  unfold Try.f75
  simp only [Option.getD_some]
  simp only [go_sem]
  refine anew_i fun j hj => ?_
  simp only [go_sem]
  refine acond_join (fun ρ H => ∃ j, ρ 1 = .rp (encNetwork n) 0 ∧ ρ 3 = .os j ∧ H j = some (faultRow (opt (decide ((n.places.length : Int) > 24)) ⟨4, ⟨#[112, 108, 97, 99, 101, 115]⟩⟩))) ?_ fun K hK => acond_i (fun hb => ?_) (fun hb => ?_)
  · rintro ρ H ⟨j, h1, h3, hH⟩
    simp only [go_sem, h1, h3]
    generalize hpre : opt (decide ((n.places.length : Int) > 24)) (⟨4, ⟨#[112, 108, 97, 99, 101, 115]⟩⟩ : Fault) = pre at hH
    have hpl : pre.length ≤ 1 := by rw [← hpre]; exact opt_len _ _
    refine ⟨fun ρ H => ∃ k : Nat, k ≤ n.places.length ∧ ρ 1 = .rp (encNetwork n) 0 ∧ ρ 4 = int k ∧ ∃ j, ρ 3 = .os j ∧ H j = some (faultRow (pre ++ (List.range k).flatMap (placeFaults n.places))), fun ρ _ => n.places.length - natOf (ρ 4), ⟨0, Nat.zero_le _, by simp only [go_sem, h1], by simp only [go_sem]; rfl, j, by simp only [go_sem, h3], by simpa using hH⟩, ?_⟩
    rintro ρ H ⟨k, hk, h1, h4, j, h3, hH⟩
    generalize hes : pre ++ (List.range k).flatMap (placeFaults n.places) = es at hH
    have hlen : es.length ≤ k + 1 := by
      have := flat_len_le (plf_len n.places) (List.range k)
      rw [← hes, List.length_append]; rw [List.length_range] at this; omega
    simp only [go_sem, h1, h3, h4]
    refine acond_i (fun hlt => ?_) (fun hge => ?_)
    · have hlt := le_of_lt_b hlt
      obtain ⟨p, hp⟩ := getIn hlt
      have b1 := inB hlt
      have hkk : k ≤ 4611686018427387904 := by omega
      have hds := decN_size k
      have hfl : pre ++ (List.range (k + 1)).flatMap (placeFaults n.places) = es ++ placeFaults n.places k := by rw [flat_range_succ, ← List.append_assoc, hes]
      simp only [go_sem, h1, h3, h4]
      refine PC.use (Decimal_c _ (by omega)) ?_
      simp only [go_sem, h1, h3, h4, b1, getD_map hp]
      refine ⟨by rw [i64max]; show ((6 + (decN k).size : Nat) : Int) ≤ _; omega, ?_⟩
      refine PC.use (name_c p (hs p (mem_of_get hp))) ?_
      simp only [go_sem, h1, h3, h4]
      refine acond_i (fun hb => ?_) (fun hb => ?_)
      · simp only [go_sem, h1, h3, h4]
        refine wappE_i hH ⟨rfl, rfl⟩ (by simp only [go_sem]) (by simp only [List.length_map, List.length_cons, List.length_nil]; omega) (fun j' hj' => ?_)
        simp only [go_sem, h1, h3, h4, wrapS hkk]
        refine ⟨⟨k + 1, hlt, rfl, j', rfl, ?_⟩, by simp only [natOf_int]; omega⟩
        have hn : nameR (strAt n.places k) = false := by rw [strAt_get hp]; simpa using hb
        rw [hfl, placeFaults, hn]
        exact row_app (l' := [⟨5, placeS k⟩]) rfl
      · simp only [go_sem, h1, h3, h4]
        have hn : nameR (strAt n.places k) = true := by rw [strAt_get hp]; simpa using hb
        refine ⟨fun ρ H' => ∃ m : Nat, m ≤ k ∧ ρ 1 = .rp (encNetwork n) 0 ∧ ρ 3 = .os j ∧ ρ 4 = int k ∧ ρ 5 = str (placeS k) ∧ ρ 6 = boo ((n.places.take m).any fun s => s.toList == p.toList) ∧ ρ 7 = int m ∧ H' = H, fun ρ _ => k - natOf (ρ 7), ⟨0, Nat.zero_le _, by simp only [go_sem, h1], by simp only [go_sem, h3], by simp only [go_sem, h4], by simp only [go_sem]; rfl, by simp only [go_sem]; rfl, by simp only [go_sem]; rfl, rfl⟩, ?_⟩
        rintro ρ H' ⟨m, hm, h1, h3, h4, h5, h6, h7, rfl⟩
        simp only [go_sem, h1, h3, h4, h5, h6, h7]
        refine acond_i (fun hlt2 => ?_) (fun hge2 => ?_)
        · have hlt2 := le_of_lt_b hlt2
          obtain ⟨q, hq⟩ := getIn (show m < n.places.length by omega)
          have b2 := inB (show m < n.places.length by omega)
          simp only [go_sem]
          refine adraw_q (by rfl) (by kernel_rfl) ?_
          simp only [go_sem, h1, h3, h4, h5, h6, h7, b1, b2, getD_map hp, getD_map hq, wrapS (show m ≤ 4611686018427387904 by omega)]
          refine ⟨⟨m + 1, hlt2, ?_, rfl⟩, by simp only [natOf_int]; omega⟩
          rw [any_succ hq]
        · have hge2 := eq_of_ge_b hm hge2
          subst hge2
          simp only [go_sem, h6]
          have hsb : sameBefore n.places m = (n.places.take m).any fun s => s.toList == p.toList := by unfold sameBefore; rw [strAt_get hp]
          refine acond_joinL (fun ρ' H' => ρ' 1 = .rp (encNetwork n) 0 ∧ ρ' 4 = int m ∧ ∃ j, ρ' 3 = .os j ∧ H' j = some (faultRow (pre ++ (List.range (m + 1)).flatMap (placeFaults n.places)))) ?_ fun K hK _ _ => acond_i (fun hb => ?_) (fun hb => ?_)
          · rintro ρ H ⟨h1, h4, j, h3, hH⟩
            simp only [go_sem, h1, h3, h4, wrapS hkk]
            exact ⟨⟨m + 1, hlt, rfl, j, rfl, hH⟩, by simp only [natOf_int]; omega⟩
          · simp only [go_sem, h1, h3, h4, h5]
            refine wappE_i hH ⟨rfl, rfl⟩ (by simp only [go_sem]) (by simp only [List.length_map, List.length_cons, List.length_nil]; omega) (fun j' hj' => ?_)
            simp only [go_sem]
            refine hK _ _ ⟨by simp only [go_sem, h1], by simp only [go_sem, h4], j', by simp only [go_sem], ?_⟩
            rw [hfl, placeFaults, hn]
            show _ = some (faultRow (es ++ opt (sameBefore n.places m) ⟨6, placeS m⟩))
            rw [opt_t (hsb.trans hb)]
            exact row_app (l' := [⟨6, placeS m⟩]) rfl
          · simp only [go_sem]
            refine hK _ _ ⟨by simp only [go_sem, h1], by simp only [go_sem, h4], j, by simp only [go_sem, h3], ?_⟩
            rw [hfl, placeFaults, hn]
            show _ = some (faultRow (es ++ opt (sameBefore n.places m) ⟨6, placeS m⟩))
            rw [opt_f (hsb.trans hb), List.append_nil, hH]
    · have hge := eq_of_ge_b hk hge
      subst hge
      simp only [go_sem, h3]
      exact ⟨_, rfl, by rw [hH, ← hes, ← hpre]; rfl⟩
  · simp only [go_sem]
    refine wappE_i (r := faultRow []) (by simp only [go_sem]; rfl) ⟨rfl, rfl⟩ (by simp only [go_sem]) (by simp) (fun j' hj' => ?_)
    simp only [go_sem]
    refine hK _ _ ⟨j', rfl, rfl, ?_⟩
    rw [opt_t (by exact hb)]
    exact row_app (l := []) (l' := [⟨4, ⟨#[112, 108, 97, 99, 101, 115]⟩⟩]) rfl
  · simp only [go_sem]
    refine hK _ _ ⟨j, rfl, rfl, ?_⟩
    rw [opt_f (by exact hb), updH_same]; rfl
end Go.Proofs.Ytjlbikpgjejkjaa
