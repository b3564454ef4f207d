/- lorryref10.Check -/
import Derived.Test.YtjlbikpgjejkjaaRefD
set_option linter.unusedSimpArgs false
set_option linter.unusedVariables false
namespace Go.Proofs.Ytjlbikpgjejkjaa
open Go.Aw Go.Aw.D Go.Proofs Ty
set_option maxRecDepth 100000

def typeFaults (n : Network) (l : List VType) (k : Nat) : List Fault := (typeErrs n l k (vtAt l k)).map fun e => ⟨e, decN k⟩
def typesR (n : Network) (l : List VType) : List Fault := opt (!inR l.length 1 6) ⟨4, ByteArray.empty⟩ ++ (List.range l.length).flatMap (typeFaults n l)
theorem typeErrs_len (n : Network) (l : List VType) (k : Nat) (t : VType) : (typeErrs n l k t).length ≤ 9 := by
  unfold typeErrs
  simp only [List.length_append, List.length_nil]
  have h := fun (b : Bool) (x : Int) => opt_len b x
  have h1 := h (!nameR t.name) 5
  have h2 := h (knownR l k t.name) 6
  have h3 := h (!inR t.count 0 10) 22
  have h4 := h (!inR t.src 0 (n.places.length - 1) || !inR t.dst 0 (n.places.length - 1)) 11
  have h5 := h (!capR t.cap (dimsR l)) 17
  have h6 := h (!inR t.skills 0 1073741823) 18
  have h7 := h (!inR t.start 0 t.close || decide (t.close > 4096)) 15
  have h8 := h (!inR t.drive 1 4096 || !inR t.rest 0 4096) 16
  have h9 := h (!inR t.profile 0 7 || !inR t.fixed 0 100000 || !inR t.perMile 0 100 || !inR t.perTick 0 100) 2
  omega
theorem map_succ {α β : Type} {f : α → β} {l : List α} {k : Nat} {x : α} (h : l[k]? = some x) : (l.take (k + 1)).map f = (l.take k).map f ++ [f x] := by rw [take_succ h, List.map_append]; rfl
theorem types_c (n : Network) (l : List VType) (hl : l.length ≤ 1048576) (hs : ∀ t ∈ l, t.name.size ≤ 1048576 ∧ t.cap.length ≤ 1048576) (hp : n.places.length ≤ 1048576) :
    NC Try.prog 43 [.agg (encNetwork n), .sl (l.map encVType)] (faultRow (typesR n l)) .os := by
  refine NC.body (c := Try.f43.body.getD .skip) (fun t => t == 5) mixed Try.func43 rfl (by kernel_rfl) ?_
  unfold Try.f43
  simp only [Option.getD_some]
  simp only [go_sem]
  refine anew_i fun j hj => ?_
  simp only [go_sem]
  refine PC.use (in10_c _ _ _) ?_
  simp only [go_sem]
  refine acond_cut (fun ρ' H' => ρ' 1 = .sl (l.map encVType) ∧ ρ' 2 = .rp (encNetwork n) 0 ∧ ∃ j', ρ' 5 = .os j' ∧ H' j' = some (faultRow [])) ⟨by simp only [go_sem], by simp only [go_sem], _, by simp only [go_sem], updH_same _ _ _⟩ ?_
  rintro ρ H ⟨h1, h2, j, h5, hH⟩
  generalize hes0 : ([] : List Fault) = es0 at hH
  have hln0 : es0.length ≤ 0 := by rw [← hes0]; exact Nat.le_refl _
  refine acond_join (fun ρ' H' => ρ' 1 = .sl (l.map encVType) ∧ ρ' 2 = .rp (encNetwork n) 0 ∧ ∃ j', ρ' 5 = .os j' ∧ H' j' = some (faultRow (es0 ++ opt (!inR l.length 1 6) ⟨4, ByteArray.empty⟩))) ?_ fun K hK => acond_i (fun hb => ?_) (fun hb => ?_)
  rotate_left
  · simp only [go_sem, h1, h2, h5]
    refine wappE_i hH ⟨rfl, rfl⟩ (by simp only [go_sem]) (by simp only [List.length_map, List.length_cons, List.length_nil]; omega) (fun j' hj' => ?_)
    simp only [go_sem]
    refine hK _ _ ⟨by simp only [go_sem, h1], by simp only [go_sem, h2], j', by simp only [go_sem], ?_⟩
    rw [opt_t (show (!inR l.length 1 6) = true from hb)]
    exact row_app (l' := [⟨4, ByteArray.empty⟩]) rfl
  · simp only [go_sem]
    refine hK _ _ ⟨by simp only [go_sem, h1], by simp only [go_sem, h2], j, by simp only [go_sem, h5], ?_⟩
    rw [opt_f (show (!inR l.length 1 6) = false from hb), List.append_nil, hH]
  clear hH h1 h2 h5
  rintro ρ H ⟨h1, h2, j, h5, hH⟩
  generalize hes1 : es0 ++ opt (!inR l.length 1 6) (⟨4, ByteArray.empty⟩ : Fault) = es1 at hH
  have hln1 : es1.length ≤ es0.length + 1 := by rw [← hes1, List.length_append]; have := opt_len (!inR l.length 1 6) (⟨4, ByteArray.empty⟩ : Fault); omega
  simp only [go_sem, h1, h2]
  refine ⟨fun ρ H => ∃ k : Nat, k ≤ l.length ∧ ρ 1 = .sl (l.map encVType) ∧ ρ 2 = .rp (encNetwork n) 0 ∧ ρ 6 = int k ∧ ∃ j, ρ 5 = .os j ∧ H j = some (faultRow (es1 ++ (List.range k).flatMap (typeFaults n l))), fun ρ _ => l.length - natOf (ρ 6), ⟨0, Nat.zero_le _, by simp only [go_sem, h1], by simp only [go_sem, h2], by simp only [go_sem]; rfl, j, by simp only [go_sem, h5], by simpa using hH⟩, ?_⟩
  clear hH h1 h2 h5 hj
  rintro ρ H ⟨k, hk, h1, h2, h6, j, h5, hH⟩
  generalize hes : es1 ++ (List.range k).flatMap (typeFaults n l) = es at hH
  have hlen : es.length ≤ 9 * k + 1 := by
    have := flat_len_le (f := typeFaults n l) (c := 9) (fun x => by unfold typeFaults; rw [List.length_map]; exact typeErrs_len _ _ _ _) (List.range k)
    rw [← hes, List.length_append]; rw [List.length_range] at this; omega
  simp only [go_sem, h1, h2, h6, h5]
  refine acond_i (fun hlt => ?_) (fun hge => ?_)
  · have hlt := le_of_lt_b hlt
    have hkk : k ≤ 4611686018427387904 := by omega
    have hfl : es1 ++ (List.range (k + 1)).flatMap (typeFaults n l) = es ++ typeFaults n l k := by rw [flat_range_succ, ← List.append_assoc, hes]
    simp only [go_sem, h1, h2, h6]
    refine PC.use (trules_c n l k hlt hl hs hp) ?_
    simp only [go_sem]
    have hel := typeErrs_len n l k (vtAt l k)
    have htf : typeFaults n l k = (typeErrs n l k (vtAt l k)).map fun e => ⟨e, decN k⟩ := rfl
    generalize typeErrs n l k (vtAt l k) = er at hel htf
    refine ⟨fun ρ H => ∃ m : Nat, m ≤ er.length ∧ ρ 1 = .sl (l.map encVType) ∧ ρ 2 = .rp (encNetwork n) 0 ∧ ρ 6 = int k ∧ ρ 7 = .sl (er.map encInt) ∧ ρ 8 = int m ∧ ∃ j, ρ 5 = .os j ∧ H j = some (faultRow (es ++ (er.take m).map fun e => ⟨e, decN k⟩)), fun ρ _ => er.length - natOf (ρ 8), ⟨0, Nat.zero_le _, by simp only [go_sem, h1], by simp only [go_sem, h2], by simp only [go_sem, h6], by simp only [go_sem], by simp only [go_sem]; rfl, j, by simp only [go_sem, h5], by simpa using hH⟩, ?_⟩
    clear hH h1 h2 h5 h6
    rintro ρ H ⟨m, hm, h1, h2, h6, h7, h8, j, h5, hH⟩
    simp only [go_sem, h1, h2, h6, h5, h7, h8]
    refine acond_i (fun hlt2 => ?_) (fun hge2 => ?_)
    · have hlt2 := le_of_lt_b hlt2
      obtain ⟨e, he⟩ := getIn hlt2
      have b2 := inB hlt2
      simp only [go_sem]
      refine adraw_h (by kernel_rfl) ?_
      simp only [go_sem, h1, h2, h6, h5, h7, h8, b2, getD_map he]
      refine ⟨_, (Decimal_c _ (by omega)).q rfl, ?_⟩
      simp only [go_sem]
      refine wappE_i hH ⟨rfl, rfl⟩ (by simp only [go_sem]) (by simp only [List.length_map, List.length_append, List.length_take, List.length_cons, List.length_nil]; omega) (fun j' hj' => ?_)
      simp only [go_sem, h1, h2, h6, h7, h8, wrapS (show m ≤ 4611686018427387904 by omega)]
      refine ⟨⟨m + 1, hlt2, rfl, j', rfl, ?_⟩, by simp only [natOf_int]; omega⟩
      rw [map_succ he, ← List.append_assoc]
      exact row_app (l' := [⟨e, decN k⟩]) rfl
    · have hge2 := eq_of_ge_b hm hge2
      subst hge2
      simp only [go_sem, h1, h2, h6, h5, wrapS hkk]
      refine ⟨⟨k + 1, hlt, rfl, j, rfl, ?_⟩, by simp only [natOf_int]; omega⟩
      rw [hfl, hH, htf, List.take_length]
  · have hge := eq_of_ge_b hk hge
    subst hge
    simp only [go_sem, h5]
    exact ⟨_, rfl, by rw [hH, ← hes, ← hes1, ← hes0]; rfl⟩
end Go.Proofs.Ytjlbikpgjejkjaa
